import Derived.Test.Qxb6500913aArr
import Derived.Test.Qxb6500913aL5
namespace Go.Proofs.Qxb6500913a
open Go.Eng
set_option linter.unusedVariables false
set_option linter.unusedSimpArgs false
theorem cal24 : callable Try.prog 24 = true := by kernel_rfl
attribute [local irreducible] encL

/-- the words, as a row -/
def wV (f : Nat → Int) : Nat → Value := fun i => .int .u64 (word f i)
set_option maxRecDepth 20000 in
theorem zero58 : zeroOk Try.prog 58 (.agg ⟨arrL 4096 (fun _ => .int .u64 0)⟩) := by unfold zeroOk; kernel_rfl
theorem wV_init (G : Int) : C (arrL 4096 (fun _ => .int .u64 0)) 58 = C (arrL 4096 (wV (initF G))) 58 :=
  arr_obj fun i hi => by
    unfold wV word
    rw [initF_at, if_neg (by omega), if_neg (by omega), if_neg (by omega), if_neg (by omega), if_neg (by omega)]
theorem alloc_words {f : Nat → Int} {fl : Nat → List Nat} {k : Nat} (h : Inv f fl k) (n i : Nat) (hi : i < 4096) : word (allocF f n).f i = word f i := by
  unfold allocF
  by_cases c1 : n = 0 ∨ 32 < n
  · rw [if_pos c1]
  rw [if_neg c1]
  obtain ⟨s, hs⟩ : ∃ s, (n + 1) / 2 * 2 = s := ⟨_, rfl⟩
  simp only [hs]
  by_cases c2 : lst f (s / 2 - 1) ≠ 0
  · rw [if_pos c2]
    obtain ⟨x, hx⟩ : ∃ x : Nat, lst f (s / 2 - 1) = x := by
      have hch := h.chain (s / 2 - 1) (by omega)
      cases hfl : fl (s / 2 - 1) with
      | nil => rw [hfl] at hch; exact absurd hch c2
      | cons y l => rw [hfl] at hch; exact ⟨y, hch.1⟩
    rw [hx]
    obtain ⟨m1, _⟩ := h.pop (by omega) (by omega) (by omega) hx (by omega)
    exact word_A1 f x s i m1 (by omega) hi
  rw [if_neg c2]
  by_cases c3 : fresh f + s ≤ 4096 ∧ boot f < 281474976710655
  · rw [if_pos c3]
    obtain ⟨x, hx, _⟩ := h.fr
    rw [hx]
    exact word_A2 f x s i (by omega) (by omega) hi
  · rw [if_neg c3]
theorem free_words {f : Nat → Int} {fl : Nat → List Nat} {k : Nat} (h : Inv f fl k) (r i : Nat) (hi : i < 4096) : word (freeF f r).f i = word f i := by
  unfold freeF
  by_cases c1 : judgeF f r ≠ 0
  · rw [if_pos c1]
  rw [if_neg c1]
  have hj : judgeF f r = 0 := Decidable.not_not.1 c1
  have ha := judge_addr hj
  obtain ⟨l1, l2, l3⟩ := judge_live hj
  obtain ⟨s, hs⟩ := h.head _ ha.2 (.inl l1)
  simp only [hs.size, Int.toNat_natCast]
  split
  · exact word_F2 f _ s i ha.2 hs.hi hi
  · exact word_F1 f _ s i ha.2 hs.hi hi
theorem doF_words {f : Nat → Int} {fl : Nat → List Nat} {k : Nat} (h : Inv f fl k) (o : MOp) (hk : 4 < o.kd) (i : Nat) (hi : i < 4096) : word (doF f o).f i = word f i := by
  unfold doF
  rw [if_neg (by omega), if_neg (by omega), if_neg (by omega), if_neg (by omega), if_neg (by omega)]
  by_cases k5 : o.kd = 5
  · rw [if_pos k5]
    by_cases c : 32 < o.a
    · rw [if_pos c]
    · rw [if_neg c]; exact alloc_words h o.a i hi
  rw [if_neg k5]
  by_cases k6 : o.kd = 6
  · rw [if_pos k6]; exact free_words h o.a i hi
  · rw [if_neg k6]
theorem doF_bad (f : Nat → Int) (o : MOp) (hk : o.kd ≤ 4) (h : ¬ (2 ≤ o.x ∧ o.x < 4096) ∨ (o.kd = 4 ∧ o.x % 2 = 1)) : (doF f o).ans.st ≠ 0 := by
  unfold doF
  by_cases c : 2 ≤ o.x ∧ o.x < 4096
  · have k4 : o.kd = 4 := by omega
    rw [if_neg (by omega), if_neg (by omega), if_neg (by omega), if_neg (by omega), if_pos k4]
    simp only [if_neg (not_not_intro c), if_pos (show o.x % 2 ≠ 0 by omega)]
    decide
  · by_cases k0 : o.kd = 0
    · simp only [if_pos k0, if_neg c]; decide
    simp only [if_neg k0]
    by_cases k1 : o.kd = 1
    · simp only [if_pos k1, if_neg c]; decide
    simp only [if_neg k1]
    by_cases k2 : o.kd = 2
    · simp only [if_pos k2, if_neg c]; decide
    simp only [if_neg k2]
    by_cases k3 : o.kd = 3
    · simp only [if_pos k3, if_neg c]; decide
    simp only [if_neg k3]
    simp only [if_pos (show o.kd = 4 by omega), if_pos c]
    decide
theorem doF_0 (f : Nat → Int) (o : MOp) (hk : o.kd = 0) (c : 2 ≤ o.x ∧ o.x < 4096) : (doF f o).ans = ⟨0, false, word f o.x, 0⟩ ∧ (doF f o).f = f := by
  unfold doF; rw [if_pos hk]; simp only [if_pos c]; exact ⟨by first | trivial | rfl, by first | trivial | rfl⟩
theorem doF_1 (f : Nat → Int) (o : MOp) (hk : o.kd = 1) (c : 2 ≤ o.x ∧ o.x < 4096) : (doF f o).ans = ⟨0, false, 0, 0⟩ ∧ (doF f o).f = setWord f o.x o.a := by
  unfold doF; rw [if_neg (by omega), if_pos hk]; simp only [if_pos c, storeF]; exact ⟨by first | trivial | rfl, by first | trivial | rfl⟩
theorem doF_2 (f : Nat → Int) (o : MOp) (hk : o.kd = 2) (c : 2 ≤ o.x ∧ o.x < 4096) : (doF f o).ans = ⟨0, decide (word f o.x = o.a), word f o.x, 0⟩ ∧ (doF f o).f = if word f o.x = o.a then setWord f o.x o.b else f := by
  unfold doF; rw [if_neg (by omega), if_neg (by omega), if_pos hk]; simp only [if_pos c, casF]
  refine ⟨by first | trivial | rfl, ?_⟩
  by_cases e : word f o.x = o.a
  · rw [if_pos ⟨c.1, c.2, e⟩, if_pos e]
  · rw [if_neg (fun q => e q.2.2), if_neg e]
theorem doF_3 (f : Nat → Int) (o : MOp) (hk : o.kd = 3) (c : 2 ≤ o.x ∧ o.x < 4096) : (doF f o).ans = ⟨0, false, word f o.x, 0⟩ ∧ (doF f o).f = setWord f o.x (IntKind.u64.wrap (word f o.x + o.a)) := by
  unfold doF; rw [if_neg (by omega), if_neg (by omega), if_neg (by omega), if_pos hk]; simp only [if_pos c, addF]; exact ⟨by first | trivial | rfl, by first | trivial | rfl⟩
theorem doF_4 (f : Nat → Int) (o : MOp) (hk : o.kd = 4) (c : 2 ≤ o.x ∧ o.x < 4096) (c2 : o.x % 2 ≠ 1) : (doF f o).ans = ⟨0, decide (word f o.x = o.a ∧ word f (o.x + 1) = o.b), word f o.x, word f (o.x + 1)⟩ ∧
    (doF f o).f = if word f o.x = o.a ∧ word f (o.x + 1) = o.b then setWord (setWord f o.x o.c) (o.x + 1) o.d else f := by
  unfold doF; rw [if_neg (by omega), if_neg (by omega), if_neg (by omega), if_neg (by omega), if_pos hk]
  simp only [if_neg (not_not_intro c), if_neg (show ¬ o.x % 2 ≠ 0 by omega), dcasF]
  refine ⟨by first | trivial | rfl, ?_⟩
  by_cases e : word f o.x = o.a ∧ word f (o.x + 1) = o.b
  · rw [if_pos ⟨c.1, c.2, by omega, e⟩, if_pos e]
  · rw [if_neg (fun q => e q.2.2.2), if_neg e]


set_option maxHeartbeats 1000000 in
theorem law4 (sb : Nat) (c : List Value) (T : TypeId) (fr : Nat × Nat) (p : Option Addr) (n cap : Nat) (ops : List MOp) (hn : n = ops.length) (hlen : n ≤ 9223372036854775807) (h : Ops sb c p cap ops) : SpK Try.prog 4 #[.slice p n cap] (OpsIn sb c T fr ops) [] (fun v F' => v = .bool true ∧ F' = []) := by
  refine f_enter (args := [.slice p n cap]) Try.func4 rfl Try.ntmps4 rfl ?_
  intro w0 w a hpre hl hh
  simp only [slotsFrom, Nat.reduceAdd] at hl
  refine c_seq ?_
  refine c_region ?_
  refine wl (wl_val hl rfl trivial (r_assign hl rfl) ?_)
  clear hl a; intro a hl
  refine w_nil ?_
  have hl2 := hl.add (t := 0) (hl.nil) rfl; clear hl; have hl := hl2; clear hl2
  refine then_normal ?_
  refine c_seq ?_
  refine c_seq ?_
  refine c_region ?_
  refine wl (wl_val hl rfl trivial (r_move hl rfl) ?_)
  clear hl a; intro a hl
  refine wl (w_call hl hh rfl trivial rfl cal12 rfl (small_spec p n cap hlen) (by repeat (first | exact keeps_nil | apply keeps_cons (by repeat (first | exact find_head | apply find_tail)) (by first  | rfl) | exact keeps_self | apply keeps_mv)) trivial ?_)
  clear hl hh a w; intro vc Fc a w hR hl hh
  obtain ⟨rfl, rfl⟩ := hR
  try simp only [List.cons_append, List.nil_append] at hh
  refine wl (wl_val hl rfl trivial (r_not hl rfl) ?_)
  clear hl a; intro a hl
  refine w_nil ?_
  have hl2 := hl.add (t := 0) (hl.add (t := 17) (hl.nil) rfl) rfl; clear hl; have hl := hl2; clear hl2
  refine then_normal ?_
  refine c_cond hl rfl ?_ ?_
  · intro hc0
    try simp only [decide_eq_true_eq, decide_eq_false_iff_not, Bool.not_eq_true', Bool.not_eq_false', Bool.not_eq_true, Bool.not_eq_false, Bool.and_eq_true, Bool.or_eq_true, Bool.and_eq_false_iff, Bool.or_eq_false_iff, Bool.not_not, ne_eq, Int.not_lt, Int.not_le, Decidable.not_not, beq_iff_eq, bne_iff_ne] at hc0
    refine c_seq ?_
    refine c_region ?_
    refine wl (wl_val hl rfl trivial (r_assign hl rfl) ?_)
    clear hl a; intro a hl
    refine w_nil ?_
    have hl2 := hl.add (t := 2) (hl.nil) rfl; clear hl; have hl := hl2; clear hl2
    refine then_normal ?_
    refine wp_ret ?_
    refine then_ret ?_
    refine f_ret1 (F' := []) hl hh rfl rfl (by repeat (first | exact keeps_nil | apply keeps_cons (by repeat (first | exact find_head | apply find_tail)) (by first  | rfl) | exact keeps_self | apply keeps_mv)) ?_
    exact ⟨rfl, rfl⟩
  · intro hc0
    try simp only [decide_eq_true_eq, decide_eq_false_iff_not, Bool.not_eq_true', Bool.not_eq_false', Bool.not_eq_true, Bool.not_eq_false, Bool.and_eq_true, Bool.or_eq_true, Bool.and_eq_false_iff, Bool.or_eq_false_iff, Bool.not_not, ne_eq, Int.not_lt, Int.not_le, Decidable.not_not, beq_iff_eq, bne_iff_ne] at hc0
    refine wp_skip ?_
    refine then_normal ?_
    refine c_seq ?_
    refine c_region ?_
    refine wl (wl_val hl rfl trivial (r_move hl rfl) ?_)
    clear hl a; intro a hl
    refine wl (w_call hl hh rfl trivial rfl cal13 rfl (start_spec sb c T fr p n cap ops hn h) (by repeat (first | exact keeps_nil | apply keeps_cons (by repeat (first | exact find_head | apply find_tail)) (by first  | rfl) | exact keeps_self | apply keeps_mv)) (OpsIn.keep (fun b hb => hh.frm.block b hb (by simp)) hpre) ?_)
    clear hl hh a w; intro vc Fc a w hR hl hh
    obtain ⟨gb, b, p2, n2, cap2, steps, G, hn2, rfl, hO, hst, hG0, hG1, rfl⟩ := hR
    try simp only [List.cons_append, List.nil_append] at hh
    refine wl (wl_val hl rfl trivial (r_move hl rfl) ?_)
    clear hl a; intro a hl
    refine wl (wl_val hl rfl trivial (r_extract hl rfl (by simp only [List.getElem?_toArray, List.getElem?_cons_zero, List.getElem?_cons_succ]; rfl)) ?_)
    clear hl a; intro a hl
    refine wl (wl_val hl rfl trivial (r_extract hl rfl (by simp only [List.getElem?_toArray, List.getElem?_cons_zero, List.getElem?_cons_succ]; rfl)) ?_)
    clear hl a; intro a hl
    refine wl (wl_val hl rfl trivial (r_assign hl rfl) ?_)
    clear hl a; intro a hl
    refine wl (wl_val hl rfl trivial (r_assign hl rfl) ?_)
    clear hl a; intro a hl
    refine w_nil ?_
    have hl2 := hl.add (t := 3) (hl.add (t := 4) (hl.nil) rfl) rfl; clear hl; have hl := hl2; clear hl2
    refine then_normal ?_
    refine c_seq ?_
    refine c_region ?_
    refine wl (w_alloc hl hh rfl trivial zero58 rfl ?_)
    clear hl hh a w; intro k5 a w hl hh
    refine w_nil ?_
    have hl2 := hl.add (t := 3) (hl.add (t := 4) (hl.add (t := 5) (hl.nil) rfl) rfl) rfl; clear hl; have hl := hl2; clear hl2
    refine then_normal ?_
    refine c_seq ?_
    refine c_seq ?_
    refine c_region ?_
    refine wl (wl_val hl rfl trivial (r_move hl rfl) ?_)
    clear hl a; intro a hl
    refine wl (wl_val hl rfl trivial (r_lenS hl rfl slc22) ?_)
    clear hl a; intro a hl
    refine wl (wl_val hl rfl trivial (r_move hl rfl) ?_)
    clear hl a; intro a hl
    refine w_nil ?_
    have hl2 := hl.add (t := 3) (hl.add (t := 5) (hl.add (t := 23) (hl.add (t := 24) (hl.add (t := 25) (hl.nil) rfl) rfl) rfl) rfl) rfl; clear hl; have hl := hl2; clear hl2
    refine then_normal ?_
    refine wp_block ?_
    obtain ⟨KS0, hKS0, hk⟩ := (hl.add (t := 3) (hl.add (t := 5) (hl.add (t := 23) (hl.add (t := 24) (hl.nil) rfl) rfl) rfl) rfl).name
    obtain ⟨HS0, hHS0, hh2⟩ := hh.name (keeps_cons (b := gb) (o' := C [.pointer (some ⟨b, 0, none⟩), .slice none 0 0] 41) (by repeat (first | exact find_head | apply find_tail)) (by first | exact wV_init G | rfl) (keeps_cons (b := b) (o' := C (encL (initF G)) 87) (by repeat (first | exact find_head | apply find_tail)) (by first | exact wV_init G | rfl) (keeps_cons (b := k5) (o' := C (arrL 4096 (wV (initF G))) 58) (by repeat (first | exact find_head | apply find_tail)) (by first | exact wV_init G | rfl) (keeps_nil))))
    refine c_loop (α := LS) (fun s => n2 - s.i) (fun s a w => (LI n2 s) ∧ Sl 156 ([(25, .int .i64 s.i)] ++ KS0) a ∧ Has _ w0 ([(gb, C [.pointer (some ⟨b, 0, none⟩), s.rv] 41), (b, C (encL s.f) 87), (k5, C (arrL 4096 (wV s.f)) 58)] ++ (HS0 ++ s.Er)) w) ⟨0, initF G, fun _ => [], [], .slice none 0 0, []⟩ ⟨LI.start G hG0 hG1, hl.addE (t := 25) (hk) rfl (by first | rfl), (by rw [List.append_nil]; exact hh2)⟩ ?_
    clear hk hh2 hl hh a w
    intro s a w hI
    obtain ⟨hI, hl, hh⟩ := hI
    subst hKS0; subst hHS0
    simp only [List.cons_append, List.nil_append, List.append_nil] at hl hh
    refine c_seq ?_
    refine c_region ?_
    refine wl (wl_val hl rfl trivial (r_lss hl rfl rfl) ?_)
    clear hl a; intro a hl
    refine w_nil ?_
    have hl2 := hl.add (t := 3) (hl.add (t := 5) (hl.add (t := 23) (hl.add (t := 24) (hl.add (t := 25) (hl.add (t := 26) (hl.nil) rfl) rfl) rfl) rfl) rfl) rfl; clear hl; have hl := hl2; clear hl2
    refine then_normal ?_
    refine c_seq ?_
    refine c_cond hl rfl ?_ ?_
    · intro hc1
      try simp only [decide_eq_true_eq, decide_eq_false_iff_not, Bool.not_eq_true', Bool.not_eq_false', Bool.not_eq_true, Bool.not_eq_false, Bool.and_eq_true, Bool.or_eq_true, Bool.and_eq_false_iff, Bool.or_eq_false_iff, Bool.not_not, ne_eq, Int.not_lt, Int.not_le, Decidable.not_not, beq_iff_eq, bne_iff_ne] at hc1
      have hi : s.i < n2 := by omega
      obtain ⟨so, rfl, hat⟩ := hO.at_ (by omega)
      obtain ⟨q, hq⟩ : ∃ q, steps[s.i]? = some q := ⟨_, List.getElem?_eq_getElem (by omega)⟩
      have hqv := hat s.i q hq
      have hqo := hO.ok q (List.mem_of_getElem? hq)
      have hm := hpre (by omega)
      obtain ⟨kd, x, A, B, E, D⟩ := q
      simp only [MOp.vals] at hqv
      refine wp_skip ?_
      refine then_normal ?_
      refine c_seq ?_
      refine wp_block ?_
      refine c_seq ?_
      refine c_region ?_
      refine wl (wl_val hl rfl trivial (r_indexS hl rfl rfl slc22 (by omega) (by omega) (by first | (simp only [Int.reduceToNat]; rfl) | exact toNat_add1 _ | exact toNat_add2 _ _ | exact toNat_emod _ _ | exact Int.toNat_natCast _ | rfl)) ?_)
      clear hl a; intro a hl
      first | refine wl (w_loadA hl hh rfl trivial agg36 rfl (by repeat (first | exact find_head | apply find_tail)) (by first | (simp only [List.getElem?_cons_zero, List.getElem?_cons_succ, Value.cells, List.take_zero, List.take_succ_cons, List.take_nil, List.drop_zero, List.drop_succ_cons, List.drop_nil, List.length_cons, List.length_nil, List.cons_append, List.nil_append, List.append_nil, Nat.zero_add, Nat.add_zero, Nat.reduceAdd, Nat.reduceBEq, Nat.reduceEqDiff, Nat.ble, BEq.rfl, Bool.and_true, Bool.and_self, cond_true, beq_self_eq_true]; rfl)) (by first | rfl | (simp; done)) ?_) | refine wl (w_loadRA hl hh rfl trivial agg36 rfl hm (by simp) hqv rfl ?_)
      clear hl a; intro a hl
      refine wl (w_alloc hl hh rfl trivial zero36 rfl ?_)
      clear hl hh a w; intro k7 a w hl hh
      refine wl (w_storeA hl hh trivial agg36 rfl rfl (by repeat (first | exact find_head | apply find_tail)) (by first | rfl | (simp; done)) (by first | (simp; done) | (simp; omega)) (by first | rfl | (simp; done)) (by first | (simp only [setL, List.getElem?_cons_zero, List.getElem?_cons_succ, Value.cells, List.take_zero, List.take_succ_cons, List.take_nil, List.drop_zero, List.drop_succ_cons, List.drop_nil, List.length_cons, List.length_nil, List.cons_append, List.nil_append, List.append_nil, Nat.zero_add, Nat.add_zero, Nat.reduceAdd, Nat.reduceBEq, Nat.reduceEqDiff, Nat.ble, BEq.rfl, Bool.and_true, Bool.and_self, cond_true, beq_self_eq_true]; rfl)) ?_)
      clear hh w; intro w hh
      refine w_nil ?_
      have hl2 := hl.add (t := 3) (hl.add (t := 5) (hl.add (t := 7) (hl.add (t := 23) (hl.add (t := 24) (hl.add (t := 25) (hl.nil) rfl) rfl) rfl) rfl) rfl) rfl; clear hl; have hl := hl2; clear hl2
      refine then_normal ?_
      refine c_seq ?_
      refine c_draw [(gb, C [.pointer (some ⟨b, 0, none⟩), s.rv] 41), (k7, C [.int .u8 kd, .int .u32 x, .int .u64 A, .int .u64 B, .int .u64 E, .int .u64 D] 36)] [7] mixed hh ?_
      clear hh w; intro w hh
      have hM : Mem [(gb, C [.pointer (some ⟨b, 0, none⟩), s.rv] 41), (k7, C [.int .u8 kd, .int .u32 x, .int .u64 A, .int .u64 B, .int .u64 E, .int .u64 D] 36)] w := (by repeat (first | exact Mem.nil | refine Mem.cons hh.mem (by repeat (first | exact find_head | apply find_tail)) ?_ | refine Mem.consR hh (by assumption) (by simp) ?_))
      refine d_take (i := 0) hl rfl (by kernel_rfl) (by kernel_rfl) (by kernel_rfl) (by kernel_rfl) (by kernel_rfl) rfl trivial (fun _ _ _ h => h) hM (fun w hC => r_loadCA hl rfl agg36 hC (by repeat (first | exact find_head | apply find_tail)) (by first | (simp only [List.getElem?_cons_zero, List.getElem?_cons_succ, Value.cells, List.take_zero, List.take_succ_cons, List.take_nil, List.drop_zero, List.drop_succ_cons, List.drop_nil, List.length_cons, List.length_nil, List.cons_append, List.nil_append, List.append_nil, Nat.zero_add, Nat.add_zero, Nat.reduceAdd, Nat.reduceBEq, Nat.reduceEqDiff, Nat.ble, BEq.rfl, Bool.and_true, Bool.and_self, cond_true, beq_self_eq_true]; rfl)) (by first | rfl | (simp; done))) rfl ?_
      clear hl a; intro a hl
      refine d_take (i := 1) hl rfl (by kernel_rfl) (by kernel_rfl) (by kernel_rfl) (by kernel_rfl) (by kernel_rfl) rfl trivial (fun _ _ _ h => h) hM (fun w hC => r_move hl rfl) rfl ?_
      clear hl a; intro a hl
      refine d_take (i := 2) hl rfl (by kernel_rfl) (by kernel_rfl) (by kernel_rfl) (by kernel_rfl) (by kernel_rfl) rfl trivial (fun _ _ _ h => h) hM (fun w hC => r_nilCheck hl rfl) rfl ?_
      clear hl a; intro a hl
      refine d_take (i := 3) hl rfl (by kernel_rfl) (by kernel_rfl) (by kernel_rfl) (by kernel_rfl) (by kernel_rfl) rfl trivial (fun _ _ _ h => h) hM (fun w hC => r_field hl rfl fld41_1) rfl ?_
      clear hl a; intro a hl
      refine d_take (i := 4) hl rfl (by kernel_rfl) (by kernel_rfl) (by kernel_rfl) (by kernel_rfl) (by kernel_rfl) rfl trivial (fun _ _ _ h => h) hM (fun w hC => r_loadC hl rfl one39 hC (by repeat (first | exact find_head | apply find_tail)) (by first | rfl)) rfl ?_
      clear hl a; intro a hl
      refine d_two (i := 5) (j := 6) (by kernel_rfl) rfl rfl ?_ ?_
      ·
        try clear hM
        refine id (w_call hl hh rfl trivial rfl cal16 rfl (plain_spec s.rs s.rv s.Er hI.row (by have := hI.len; omega) ⟨kd, x, A, B, E, D⟩) (by repeat (first | exact keeps_nil | apply keeps_cons (by repeat (first | exact find_head | apply find_tail)) (by first  | rfl) | exact keeps_self | apply keeps_mv)) trivial ?_)
        clear hl hh a w; intro vc Fc a w hR hl hh
        obtain ⟨rfl, rfl⟩ := hR
        try simp only [List.cons_append, List.nil_append] at hh
        replace hh := hh.comm; simp only [List.cons_append, List.nil_append, List.append_nil] at hh; have hok : (plainF s.rs ⟨kd, x, A, B, E, D⟩).ok := plainF_ok hqo hI.ok; generalize hp2 : plainF s.rs ⟨kd, x, A, B, E, D⟩ = o2 at hl hok; obtain ⟨kd2, x2, A2, B2, E2, D2⟩ := o2; simp only [MOp.vals] at hl; obtain ⟨fl2, hI2⟩ := hI.inv.do hok
        have hM : Mem [(gb, C [.pointer (some ⟨b, 0, none⟩), s.rv] 41), (k7, C [.int .u8 kd, .int .u32 x, .int .u64 A, .int .u64 B, .int .u64 E, .int .u64 D] 36)] w := (by repeat (first | exact Mem.nil | refine Mem.cons hh.mem (by repeat (first | exact find_head | apply find_tail)) ?_ | refine Mem.consR hh (by assumption) (by simp) ?_))
        refine d_step (fun _ => hM) ?_
        refine d_one (i := 6) (by kernel_rfl) rfl ?_
        try clear hM
        refine id (w_alloc hl hh rfl trivial zero36 rfl ?_)
        clear hl hh a w; intro k8 a w hl hh
        have hM : Mem [(gb, C [.pointer (some ⟨b, 0, none⟩), s.rv] 41), (k7, C [.int .u8 kd, .int .u32 x, .int .u64 A, .int .u64 B, .int .u64 E, .int .u64 D] 36)] w := (by repeat (first | exact Mem.nil | refine Mem.cons hh.mem (by repeat (first | exact find_head | apply find_tail)) ?_ | refine Mem.consR hh (by assumption) (by simp) ?_))
        refine d_step (fun _ => hM) ?_
        refine d_one (i := 7) (by kernel_rfl) rfl ?_
        try clear hM
        refine id (w_storeA hl hh trivial agg36 rfl rfl (by repeat (first | exact find_head | apply find_tail)) (by first | rfl | (simp; done)) (by first | (simp; done) | (simp; omega)) (by first | rfl | (simp; done)) (by first | (simp only [setL, List.getElem?_cons_zero, List.getElem?_cons_succ, Value.cells, List.take_zero, List.take_succ_cons, List.take_nil, List.drop_zero, List.drop_succ_cons, List.drop_nil, List.length_cons, List.length_nil, List.cons_append, List.nil_append, List.append_nil, Nat.zero_add, Nat.add_zero, Nat.reduceAdd, Nat.reduceBEq, Nat.reduceEqDiff, Nat.ble, BEq.rfl, Bool.and_true, Bool.and_self, cond_true, beq_self_eq_true]; rfl)) ?_)
        clear hh w; intro w hh
        refine d_step (fun h => absurd h (by decide)) ?_
        refine d_done (by kernel_rfl) ?_
        try clear hM
        have hl2 := hl.add (t := 3) (hl.add (t := 5) (hl.add (t := 8) (hl.add (t := 23) (hl.add (t := 24) (hl.add (t := 25) (hl.nil) rfl) rfl) rfl) rfl) rfl) rfl; clear hl; have hl := hl2; clear hl2
        refine then_normal ?_
        refine c_seq ?_
        refine c_region ?_
        refine wl (wl_val hl rfl trivial (r_move hl rfl) ?_)
        clear hl a; intro a hl
        first | refine wl (w_loadA hl hh rfl trivial agg36 rfl (by repeat (first | exact find_head | apply find_tail)) (by first | (simp only [List.getElem?_cons_zero, List.getElem?_cons_succ, Value.cells, List.take_zero, List.take_succ_cons, List.take_nil, List.drop_zero, List.drop_succ_cons, List.drop_nil, List.length_cons, List.length_nil, List.cons_append, List.nil_append, List.append_nil, Nat.zero_add, Nat.add_zero, Nat.reduceAdd, Nat.reduceBEq, Nat.reduceEqDiff, Nat.ble, BEq.rfl, Bool.and_true, Bool.and_self, cond_true, beq_self_eq_true]; rfl)) (by first | rfl | (simp; done)) ?_) | refine wl (w_loadRA hl hh rfl trivial agg36 rfl hm (by simp) hqv rfl ?_)
        clear hl a; intro a hl
        refine wl (w_call hl hh rfl trivial rfl cal17 rfl (gdo_spec gb b hI.inv (by omega) s.rs s.rv s.Er hI.row (by have := hI.len; omega) ⟨kd2, x2, A2, B2, E2, D2⟩ hok) (by repeat (first | exact keeps_nil | apply keeps_cons (by repeat (first | exact find_head | apply find_tail)) (by first  | rfl) | exact keeps_self | apply keeps_mv)) trivial ?_)
        clear hl hh a w; intro vc Fc a w hR hl hh
        obtain ⟨rfl, rv2, E3, hR2, rfl⟩ := hR
        try simp only [List.cons_append, List.nil_append] at hh
        replace hh := has_comm2 hh; simp only [List.cons_append, List.nil_append, List.append_nil] at hh; have hts := doF_st s.f ⟨kd2, x2, A2, B2, E2, D2⟩; generalize hr : (doF s.f ⟨kd2, x2, A2, B2, E2, D2⟩).ans = r at hl hts; obtain ⟨t, pp, u, u1⟩ := r; simp only [Ans.l] at hl; simp only at hts
        refine wl (w_alloc hl hh rfl trivial zero44 rfl ?_)
        clear hl hh a w; intro k9 a w hl hh
        refine wl (w_storeA hl hh trivial agg44 rfl rfl (by repeat (first | exact find_head | apply find_tail)) (by first | rfl | (simp; done)) (by first | (simp; done) | (simp; omega)) (by first | rfl | (simp; done)) (by first | (simp only [setL, List.getElem?_cons_zero, List.getElem?_cons_succ, Value.cells, List.take_zero, List.take_succ_cons, List.take_nil, List.drop_zero, List.drop_succ_cons, List.drop_nil, List.length_cons, List.length_nil, List.cons_append, List.nil_append, List.append_nil, Nat.zero_add, Nat.add_zero, Nat.reduceAdd, Nat.reduceBEq, Nat.reduceEqDiff, Nat.ble, BEq.rfl, Bool.and_true, Bool.and_self, cond_true, beq_self_eq_true]; rfl)) ?_)
        clear hh w; intro w hh
        refine w_nil ?_
        have hl2 := hl.add (t := 3) (hl.add (t := 5) (hl.add (t := 8) (hl.add (t := 9) (hl.add (t := 23) (hl.add (t := 24) (hl.add (t := 25) (hl.nil) rfl) rfl) rfl) rfl) rfl) rfl) rfl; clear hl; have hl := hl2; clear hl2
        refine then_normal ?_
        refine c_seq ?_
        refine c_region ?_
        refine wl (wl_val hl rfl trivial (r_field hl rfl fld36_1) ?_)
        clear hl a; intro a hl
        refine wl (w_load hl hh rfl trivial one34 rfl (by repeat (first | exact find_head | apply find_tail)) (by first | rfl) ?_)
        clear hl a; intro a hl
        refine wl (wl_val hl rfl trivial (r_assign hl rfl) ?_)
        clear hl a; intro a hl
        refine w_nil ?_
        have hl2 := hl.add (t := 3) (hl.add (t := 5) (hl.add (t := 8) (hl.add (t := 9) (hl.add (t := 10) (hl.add (t := 23) (hl.add (t := 24) (hl.add (t := 25) (hl.nil) rfl) rfl) rfl) rfl) rfl) rfl) rfl) rfl; clear hl; have hl := hl2; clear hl2
        refine then_normal ?_
        refine c_seq ?_
        refine c_seq ?_
        refine c_region ?_
        refine wl (wl_val hl rfl trivial (r_field hl rfl fld36_0) ?_)
        clear hl a; intro a hl
        refine wl (w_load hl hh rfl trivial one32 rfl (by repeat (first | exact find_head | apply find_tail)) (by first | rfl) ?_)
        clear hl a; intro a hl
        refine wl (wl_val hl rfl trivial (r_gtr hl rfl rfl) ?_)
        clear hl a; intro a hl
        refine w_nil ?_
        have hl2 := hl.add (t := 3) (hl.add (t := 5) (hl.add (t := 8) (hl.add (t := 9) (hl.add (t := 10) (hl.add (t := 23) (hl.add (t := 24) (hl.add (t := 25) (hl.add (t := 42) (hl.nil) rfl) rfl) rfl) rfl) rfl) rfl) rfl) rfl) rfl; clear hl; have hl := hl2; clear hl2
        refine then_normal ?_
        refine c_cond hl rfl ?_ ?_
        · intro hc2
          try simp only [decide_eq_true_eq, decide_eq_false_iff_not, Bool.not_eq_true', Bool.not_eq_false', Bool.not_eq_true, Bool.not_eq_false, Bool.and_eq_true, Bool.or_eq_true, Bool.and_eq_false_iff, Bool.or_eq_false_iff, Bool.not_not, ne_eq, Int.not_lt, Int.not_le, Decidable.not_not, beq_iff_eq, bne_iff_ne] at hc2
          have hfk := fun i hi => doF_words hI.inv ⟨kd2, x2, A2, B2, E2, D2⟩ (by simp only; omega) i hi
          refine wp_exit ?_
          refine then_exit ?_
          refine blk_exit ?_
          refine then_normal ?_
          refine c_region ?_
          first | refine wl (wl_val hl rfl trivial (r_add hl rfl rfl (by simp only [Fits]; omega)) ?_) | refine wl (wl_val hl rfl trivial (r_addW hl rfl rfl) ?_)
          clear hl a; intro a hl
          refine wl (wl_val hl rfl trivial (r_move hl rfl) ?_)
          clear hl a; intro a hl
          refine w_nil ?_
          have hl2 := hl.add (t := 3) (hl.add (t := 5) (hl.add (t := 23) (hl.add (t := 24) (hl.add (t := 25) (hl.nil) rfl) rfl) rfl) rfl) rfl; clear hl; have hl := hl2; clear hl2
          refine then_normal ?_
          refine ⟨⟨s.i + 1, (doF s.f ⟨kd2, x2, A2, B2, E2, D2⟩).f, fl2, keepF s.rs ⟨kd2, x2, A2, B2, E2, D2⟩ (doF s.f ⟨kd2, x2, A2, B2, E2, D2⟩).ans, rv2, E3⟩, (by dsimp only; omega), hI.next hi hok hI2 hR2, hl.addE (t := 25) (hl.addE (t := 3) (hl.addE (t := 5) (hl.addE (t := 23) (hl.addE (t := 24) (hl.nil) rfl (by first | rfl | rfl)) rfl (by first | rfl | rfl)) rfl (by first | rfl | rfl)) rfl (by first | rfl | rfl)) rfl (by first | rfl | rfl), (by simp only [List.cons_append, List.nil_append, List.append_nil]; exact hh.keep (by repeat (first | exact keeps_nil | apply keeps_cons (by repeat (first | exact find_head | apply find_tail)) (by first  | exact arr_obj (fun i hi => by first | (simp only [hfk, wV, updV, word_setWord]; done) | (simp only [hfk, wV, updV, word_setWord]; (repeat' split) <;> first | rfl | omega | (simp_all; done)) | (simp only [wV]; rw [hfk i hi])) | rfl) | exact keeps_self | apply keeps_mv)))⟩
        · intro hc2
          try simp only [decide_eq_true_eq, decide_eq_false_iff_not, Bool.not_eq_true', Bool.not_eq_false', Bool.not_eq_true, Bool.not_eq_false, Bool.and_eq_true, Bool.or_eq_true, Bool.and_eq_false_iff, Bool.or_eq_false_iff, Bool.not_not, ne_eq, Int.not_lt, Int.not_le, Decidable.not_not, beq_iff_eq, bne_iff_ne] at hc2
          refine wp_skip ?_
          refine then_normal ?_
          refine c_seq ?_
          refine c_seq ?_
          refine c_region ?_
          refine wl (wl_val hl rfl trivial (r_move hl rfl) ?_)
          clear hl a; intro a hl
          refine wl (w_call hl hh rfl trivial rfl cal24 rfl (usable_spec x2) (by repeat (first | exact keeps_nil | apply keeps_cons (by repeat (first | exact find_head | apply find_tail)) (by first  | rfl) | exact keeps_self | apply keeps_mv)) trivial ?_)
          clear hl hh a w; intro vc Fc a w hR hl hh
          obtain ⟨rfl, rfl⟩ := hR
          try simp only [List.cons_append, List.nil_append] at hh
          refine wl (wl_val hl rfl trivial (r_not hl rfl) ?_)
          clear hl a; intro a hl
          refine wl (wl_val hl rfl trivial (r_move hl rfl) ?_)
          clear hl a; intro a hl
          refine sl_split (t := 46) hl rfl ?_ ?_
          · intro hg1; clear hl; intro hl
            try simp only [decide_eq_true_eq, decide_eq_false_iff_not, Bool.not_eq_true', Bool.not_eq_false', Bool.not_eq_true, Bool.not_eq_false, Bool.and_eq_true, Bool.or_eq_true, Bool.and_eq_false_iff, Bool.or_eq_false_iff, Bool.not_not, ne_eq, Int.not_lt, Int.not_le, Decidable.not_not, beq_iff_eq, bne_iff_ne] at hg1
            refine wl (wl_skip hl rfl ⟨_, _, rfl, rfl, rfl⟩ ?_)
            clear hl a; intro a hl
            refine wl (wl_skip hl rfl ⟨_, _, rfl, rfl, rfl⟩ ?_)
            clear hl a; intro a hl
            refine wl (wl_skip hl rfl ⟨_, _, rfl, rfl, rfl⟩ ?_)
            clear hl a; intro a hl
            refine wl (wl_skip hl rfl ⟨_, _, rfl, rfl, rfl⟩ ?_)
            clear hl a; intro a hl
            refine wl (wl_skipU hl rfl ⟨_, _, rfl, rfl, rfl⟩ ?_)
            clear hl a; intro a hl
            refine wl (wl_skipU hl rfl ⟨_, _, rfl, rfl, rfl⟩ ?_)
            clear hl a; intro a hl
            refine wl (wl_skipU hl rfl ⟨_, _, rfl, rfl, rfl⟩ ?_)
            clear hl a; intro a hl
            refine wl (wl_skip hl rfl ⟨_, _, rfl, rfl, rfl⟩ ?_)
            clear hl a; intro a hl
            refine wl (wl_val hl rfl trivial (r_pickT hl rfl rfl) ?_)
            clear hl a; intro a hl
            refine w_nil ?_
            have hl2 := hl.add (t := 3) (hl.add (t := 5) (hl.add (t := 8) (hl.add (t := 9) (hl.add (t := 10) (hl.add (t := 23) (hl.add (t := 24) (hl.add (t := 25) (hl.add (t := 55) (hl.nil) rfl) rfl) rfl) rfl) rfl) rfl) rfl) rfl) rfl; clear hl; have hl := hl2; clear hl2
            refine then_normal ?_
            refine c_condT hl rfl ?_
            have hbad := doF_bad s.f ⟨kd2, x2, A2, B2, E2, D2⟩ (by simp only; omega) (by simp only; omega)
            obtain ⟨hfk, _⟩ := doF_refuse s.f ⟨kd2, x2, A2, B2, E2, D2⟩ hbad
            rw [hr] at hbad
            simp only at hbad
            refine c_seq ?_
            refine c_seq ?_
            refine c_region ?_
            refine wl (wl_val hl rfl trivial (r_field hl rfl fld44_0) ?_)
            clear hl a; intro a hl
            refine wl (w_load hl hh rfl trivial one42 rfl (by repeat (first | exact find_head | apply find_tail)) (by first | rfl) ?_)
            clear hl a; intro a hl
            refine wl (wl_val hl rfl trivial (r_eql hl rfl rfl) ?_)
            clear hl a; intro a hl
            refine w_nil ?_
            have hl2 := hl.add (t := 3) (hl.add (t := 5) (hl.add (t := 23) (hl.add (t := 24) (hl.add (t := 25) (hl.add (t := 58) (hl.nil) rfl) rfl) rfl) rfl) rfl) rfl; clear hl; have hl := hl2; clear hl2
            refine then_normal ?_
            refine c_cond hl rfl ?_ ?_
            · intro hc4
              try simp only [decide_eq_true_eq, decide_eq_false_iff_not, Bool.not_eq_true', Bool.not_eq_false', Bool.not_eq_true, Bool.not_eq_false, Bool.and_eq_true, Bool.or_eq_true, Bool.and_eq_false_iff, Bool.or_eq_false_iff, Bool.not_not, ne_eq, Int.not_lt, Int.not_le, Decidable.not_not, beq_iff_eq, bne_iff_ne] at hc4
              exact absurd hc4 hbad
            · intro hc4
              try simp only [decide_eq_true_eq, decide_eq_false_iff_not, Bool.not_eq_true', Bool.not_eq_false', Bool.not_eq_true, Bool.not_eq_false, Bool.and_eq_true, Bool.or_eq_true, Bool.and_eq_false_iff, Bool.or_eq_false_iff, Bool.not_not, ne_eq, Int.not_lt, Int.not_le, Decidable.not_not, beq_iff_eq, bne_iff_ne] at hc4
              refine wp_skip ?_
              refine then_normal ?_
              refine wp_exit ?_
              refine then_exit ?_
              refine blk_exit ?_
              refine then_normal ?_
              refine c_region ?_
              first | refine wl (wl_val hl rfl trivial (r_add hl rfl rfl (by simp only [Fits]; omega)) ?_) | refine wl (wl_val hl rfl trivial (r_addW hl rfl rfl) ?_)
              clear hl a; intro a hl
              refine wl (wl_val hl rfl trivial (r_move hl rfl) ?_)
              clear hl a; intro a hl
              refine w_nil ?_
              have hl2 := hl.add (t := 3) (hl.add (t := 5) (hl.add (t := 23) (hl.add (t := 24) (hl.add (t := 25) (hl.nil) rfl) rfl) rfl) rfl) rfl; clear hl; have hl := hl2; clear hl2
              refine then_normal ?_
              refine ⟨⟨s.i + 1, (doF s.f ⟨kd2, x2, A2, B2, E2, D2⟩).f, fl2, keepF s.rs ⟨kd2, x2, A2, B2, E2, D2⟩ (doF s.f ⟨kd2, x2, A2, B2, E2, D2⟩).ans, rv2, E3⟩, (by dsimp only; omega), hI.next hi hok hI2 hR2, hl.addE (t := 25) (hl.addE (t := 3) (hl.addE (t := 5) (hl.addE (t := 23) (hl.addE (t := 24) (hl.nil) rfl (by first | rfl | rfl)) rfl (by first | rfl | rfl)) rfl (by first | rfl | rfl)) rfl (by first | rfl | rfl)) rfl (by first | rfl | rfl), (by simp only [List.cons_append, List.nil_append, List.append_nil]; exact hh.keep (by repeat (first | exact keeps_nil | apply keeps_cons (by repeat (first | exact find_head | apply find_tail)) (by first  | exact arr_obj (fun i hi => by first | (simp only [hfk, wV, updV, word_setWord]; done) | (simp only [hfk, wV, updV, word_setWord]; (repeat' split) <;> first | rfl | omega | (simp_all; done)) | (simp only [wV]; rw [hfk i hi])) | rfl) | exact keeps_self | apply keeps_mv)))⟩
          · intro hg1; clear hl; intro hl
            try simp only [decide_eq_true_eq, decide_eq_false_iff_not, Bool.not_eq_true', Bool.not_eq_false', Bool.not_eq_true, Bool.not_eq_false, Bool.and_eq_true, Bool.or_eq_true, Bool.and_eq_false_iff, Bool.or_eq_false_iff, Bool.not_not, ne_eq, Int.not_lt, Int.not_le, Decidable.not_not, beq_iff_eq, bne_iff_ne] at hg1
            refine wl (wl_val hl rfl ⟨_, _, rfl, rfl, rfl⟩ (r_field hl rfl fld36_0) ?_)
            clear hl a; intro a hl
            refine wl (w_load hl hh rfl ⟨_, _, rfl, rfl, rfl⟩ one32 rfl (by repeat (first | exact find_head | apply find_tail)) (by first | rfl) ?_)
            clear hl a; intro a hl
            refine wl (wl_val hl rfl ⟨_, _, rfl, rfl, rfl⟩ (r_eql hl rfl rfl) ?_)
            clear hl a; intro a hl
            refine wl (wl_val hl rfl ⟨_, _, rfl, rfl, rfl⟩ (r_move hl rfl) ?_)
            clear hl a; intro a hl
            refine sl_split (t := 50) hl rfl ?_ ?_
            · intro hg2; clear hl; intro hl
              try simp only [decide_eq_true_eq, decide_eq_false_iff_not, Bool.not_eq_true', Bool.not_eq_false', Bool.not_eq_true, Bool.not_eq_false, Bool.and_eq_true, Bool.or_eq_true, Bool.and_eq_false_iff, Bool.or_eq_false_iff, Bool.not_not, ne_eq, Int.not_lt, Int.not_le, Decidable.not_not, beq_iff_eq, bne_iff_ne] at hg2
              refine wl (wl_val hl rfl ⟨_, _, rfl, rfl, rfl⟩ (r_move hl rfl) ?_)
              clear hl a; intro a hl
              first | refine wl (wl_val hl rfl ⟨_, _, rfl, rfl, rfl⟩ (r_rem hl rfl rfl (by omega) (by omega)) ?_) | refine wl (wl_val hl rfl ⟨_, _, rfl, rfl, rfl⟩ (r_remT hl rfl rfl (by omega)) ?_)
              clear hl a; intro a hl
              refine wl (wl_val hl rfl ⟨_, _, rfl, rfl, rfl⟩ (r_eql hl rfl rfl) ?_)
              clear hl a; intro a hl
              refine wl (wl_val hl rfl ⟨_, _, rfl, rfl, rfl⟩ (r_pickT hl rfl rfl) ?_)
              clear hl a; intro a hl
              refine wl (wl_val hl rfl trivial (r_pickF hl rfl rfl) ?_)
              clear hl a; intro a hl
              refine w_nil ?_
              have hl2 := hl.add (t := 3) (hl.add (t := 5) (hl.add (t := 8) (hl.add (t := 9) (hl.add (t := 10) (hl.add (t := 23) (hl.add (t := 24) (hl.add (t := 25) (hl.add (t := 55) (hl.nil) rfl) rfl) rfl) rfl) rfl) rfl) rfl) rfl) rfl; clear hl; have hl := hl2; clear hl2
              refine then_normal ?_
              refine c_cond hl rfl ?_ ?_
              · intro hc3
                try simp only [decide_eq_true_eq, decide_eq_false_iff_not, Bool.not_eq_true', Bool.not_eq_false', Bool.not_eq_true, Bool.not_eq_false, Bool.and_eq_true, Bool.or_eq_true, Bool.and_eq_false_iff, Bool.or_eq_false_iff, Bool.not_not, ne_eq, Int.not_lt, Int.not_le, Decidable.not_not, beq_iff_eq, bne_iff_ne] at hc3
                have hbad := doF_bad s.f ⟨kd2, x2, A2, B2, E2, D2⟩ (by simp only; omega) (by simp only; omega)
                obtain ⟨hfk, _⟩ := doF_refuse s.f ⟨kd2, x2, A2, B2, E2, D2⟩ hbad
                rw [hr] at hbad
                simp only at hbad
                refine c_seq ?_
                refine c_seq ?_
                refine c_region ?_
                refine wl (wl_val hl rfl trivial (r_field hl rfl fld44_0) ?_)
                clear hl a; intro a hl
                refine wl (w_load hl hh rfl trivial one42 rfl (by repeat (first | exact find_head | apply find_tail)) (by first | rfl) ?_)
                clear hl a; intro a hl
                refine wl (wl_val hl rfl trivial (r_eql hl rfl rfl) ?_)
                clear hl a; intro a hl
                refine w_nil ?_
                have hl2 := hl.add (t := 3) (hl.add (t := 5) (hl.add (t := 23) (hl.add (t := 24) (hl.add (t := 25) (hl.add (t := 58) (hl.nil) rfl) rfl) rfl) rfl) rfl) rfl; clear hl; have hl := hl2; clear hl2
                refine then_normal ?_
                refine c_cond hl rfl ?_ ?_
                · intro hc4
                  try simp only [decide_eq_true_eq, decide_eq_false_iff_not, Bool.not_eq_true', Bool.not_eq_false', Bool.not_eq_true, Bool.not_eq_false, Bool.and_eq_true, Bool.or_eq_true, Bool.and_eq_false_iff, Bool.or_eq_false_iff, Bool.not_not, ne_eq, Int.not_lt, Int.not_le, Decidable.not_not, beq_iff_eq, bne_iff_ne] at hc4
                  exact absurd hc4 hbad
                · intro hc4
                  try simp only [decide_eq_true_eq, decide_eq_false_iff_not, Bool.not_eq_true', Bool.not_eq_false', Bool.not_eq_true, Bool.not_eq_false, Bool.and_eq_true, Bool.or_eq_true, Bool.and_eq_false_iff, Bool.or_eq_false_iff, Bool.not_not, ne_eq, Int.not_lt, Int.not_le, Decidable.not_not, beq_iff_eq, bne_iff_ne] at hc4
                  refine wp_skip ?_
                  refine then_normal ?_
                  refine wp_exit ?_
                  refine then_exit ?_
                  refine blk_exit ?_
                  refine then_normal ?_
                  refine c_region ?_
                  first | refine wl (wl_val hl rfl trivial (r_add hl rfl rfl (by simp only [Fits]; omega)) ?_) | refine wl (wl_val hl rfl trivial (r_addW hl rfl rfl) ?_)
                  clear hl a; intro a hl
                  refine wl (wl_val hl rfl trivial (r_move hl rfl) ?_)
                  clear hl a; intro a hl
                  refine w_nil ?_
                  have hl2 := hl.add (t := 3) (hl.add (t := 5) (hl.add (t := 23) (hl.add (t := 24) (hl.add (t := 25) (hl.nil) rfl) rfl) rfl) rfl) rfl; clear hl; have hl := hl2; clear hl2
                  refine then_normal ?_
                  refine ⟨⟨s.i + 1, (doF s.f ⟨kd2, x2, A2, B2, E2, D2⟩).f, fl2, keepF s.rs ⟨kd2, x2, A2, B2, E2, D2⟩ (doF s.f ⟨kd2, x2, A2, B2, E2, D2⟩).ans, rv2, E3⟩, (by dsimp only; omega), hI.next hi hok hI2 hR2, hl.addE (t := 25) (hl.addE (t := 3) (hl.addE (t := 5) (hl.addE (t := 23) (hl.addE (t := 24) (hl.nil) rfl (by first | rfl | rfl)) rfl (by first | rfl | rfl)) rfl (by first | rfl | rfl)) rfl (by first | rfl | rfl)) rfl (by first | rfl | rfl), (by simp only [List.cons_append, List.nil_append, List.append_nil]; exact hh.keep (by repeat (first | exact keeps_nil | apply keeps_cons (by repeat (first | exact find_head | apply find_tail)) (by first  | exact arr_obj (fun i hi => by first | (simp only [hfk, wV, updV, word_setWord]; done) | (simp only [hfk, wV, updV, word_setWord]; (repeat' split) <;> first | rfl | omega | (simp_all; done)) | (simp only [wV]; rw [hfk i hi])) | rfl) | exact keeps_self | apply keeps_mv)))⟩
              · intro hc3
                try simp only [decide_eq_true_eq, decide_eq_false_iff_not, Bool.not_eq_true', Bool.not_eq_false', Bool.not_eq_true, Bool.not_eq_false, Bool.and_eq_true, Bool.or_eq_true, Bool.and_eq_false_iff, Bool.or_eq_false_iff, Bool.not_not, ne_eq, Int.not_lt, Int.not_le, Decidable.not_not, beq_iff_eq, bne_iff_ne] at hc3
                have hx : 2 ≤ x2 ∧ x2 < 4096 := by omega
                have hwd := hI.inv.words x2 hx.2
                simp only [Fits] at hwd
                refine wp_skip ?_
                refine then_normal ?_
                refine c_seq ?_
                refine c_region ?_
                refine wl (wl_val hl rfl trivial (r_move hl rfl) ?_)
                clear hl a; intro a hl
                refine wl (wl_val hl rfl trivial (r_indexA hl rfl rfl arr58 (by omega) (by omega) (by first | (simp only [Int.reduceToNat]; rfl) | exact toNat_add1 _ | exact toNat_add2 _ _ | exact toNat_emod _ _ | exact Int.toNat_natCast _ | rfl)) ?_)
                clear hl a; intro a hl
                refine wl (w_load hl hh rfl trivial one27 rfl (by repeat (first | exact find_head | apply find_tail)) (by exact arr_load (by omega)) ?_)
                clear hl a; intro a hl
                refine wl (wl_val hl rfl trivial (r_build hl rfl zero44 bld44 (by simp only [fillL, setL, List.getElem?_cons_zero, List.getElem?_cons_succ, Value.cells, List.take_zero, List.take_succ_cons, List.take_nil, List.drop_zero, List.drop_succ_cons, List.drop_nil, List.length_cons, List.length_nil, List.cons_append, List.nil_append, List.append_nil, Nat.zero_add, Nat.add_zero, Nat.reduceAdd, Nat.reduceBEq, Nat.reduceEqDiff, Nat.ble, BEq.rfl, Bool.and_true, Bool.and_self, cond_true, beq_self_eq_true]; rfl)) ?_)
                clear hl a; intro a hl
                refine wl (w_alloc hl hh rfl trivial zero44 rfl ?_)
                clear hl hh a w; intro k11 a w hl hh
                refine wl (w_storeA hl hh trivial agg44 rfl rfl (by repeat (first | exact find_head | apply find_tail)) (by first | rfl | (simp; done)) (by first | (simp; done) | (simp; omega)) (by first | rfl | (simp; done)) (by first | (simp only [setL, List.getElem?_cons_zero, List.getElem?_cons_succ, Value.cells, List.take_zero, List.take_succ_cons, List.take_nil, List.drop_zero, List.drop_succ_cons, List.drop_nil, List.length_cons, List.length_nil, List.cons_append, List.nil_append, List.append_nil, Nat.zero_add, Nat.add_zero, Nat.reduceAdd, Nat.reduceBEq, Nat.reduceEqDiff, Nat.ble, BEq.rfl, Bool.and_true, Bool.and_self, cond_true, beq_self_eq_true]; rfl)) ?_)
                clear hh w; intro w hh
                refine w_nil ?_
                have hl2 := hl.add (t := 3) (hl.add (t := 5) (hl.add (t := 8) (hl.add (t := 9) (hl.add (t := 10) (hl.add (t := 11) (hl.add (t := 23) (hl.add (t := 24) (hl.add (t := 25) (hl.nil) rfl) rfl) rfl) rfl) rfl) rfl) rfl) rfl) rfl; clear hl; have hl := hl2; clear hl2
                refine then_normal ?_
                refine c_seq ?_
                refine c_seq ?_
                refine c_region ?_
                refine wl (wl_val hl rfl trivial (r_field hl rfl fld36_0) ?_)
                clear hl a; intro a hl
                refine wl (w_load hl hh rfl trivial one32 rfl (by repeat (first | exact find_head | apply find_tail)) (by first | rfl) ?_)
                clear hl a; intro a hl
                refine w_nil ?_
                have hl2 := hl.add (t := 3) (hl.add (t := 5) (hl.add (t := 8) (hl.add (t := 9) (hl.add (t := 10) (hl.add (t := 11) (hl.add (t := 23) (hl.add (t := 24) (hl.add (t := 25) (hl.add (t := 64) (hl.nil) rfl) rfl) rfl) rfl) rfl) rfl) rfl) rfl) rfl) rfl; clear hl; have hl := hl2; clear hl2
                refine then_normal ?_
                refine wp_block ?_
                refine c_seq ?_
                refine c_region ?_
                refine wl (wl_val hl rfl trivial (r_eql hl rfl rfl) ?_)
                clear hl a; intro a hl
                refine wl (wl_val hl rfl trivial (r_assign hl rfl) ?_)
                clear hl a; intro a hl
                refine w_nil ?_
                have hl2 := hl.add (t := 3) (hl.add (t := 5) (hl.add (t := 8) (hl.add (t := 9) (hl.add (t := 10) (hl.add (t := 11) (hl.add (t := 23) (hl.add (t := 24) (hl.add (t := 25) (hl.add (t := 64) (hl.add (t := 65) (hl.nil) rfl) rfl) rfl) rfl) rfl) rfl) rfl) rfl) rfl) rfl) rfl; clear hl; have hl := hl2; clear hl2
                refine then_normal ?_
                refine c_cond hl rfl ?_ ?_
                · intro hc5
                  try simp only [decide_eq_true_eq, decide_eq_false_iff_not, Bool.not_eq_true', Bool.not_eq_false', Bool.not_eq_true, Bool.not_eq_false, Bool.and_eq_true, Bool.or_eq_true, Bool.and_eq_false_iff, Bool.or_eq_false_iff, Bool.not_not, ne_eq, Int.not_lt, Int.not_le, Decidable.not_not, beq_iff_eq, bne_iff_ne] at hc5
                  obtain ⟨ha, hfk⟩ := doF_1 s.f ⟨kd2, x2, A2, B2, E2, D2⟩ (by simp only; omega) hx
                  rw [hr] at ha
                  try simp only at hfk
                  injection ha with e0 e1 e2 e3
                  subst e0; subst e1; subst e2; subst e3
                  refine c_seq ?_
                  refine c_region ?_
                  refine wl (wl_val hl rfl trivial (r_field hl rfl fld44_2) ?_)
                  clear hl a; intro a hl
                  refine wl (w_store hl hh trivial one27 rfl rfl (by repeat (first | exact find_head | apply find_tail)) (by first | (simp; done) | (simp; omega)) (by first | rfl | (apply Row.one; assumption)) (by first | (simp only [setL, List.getElem?_cons_zero, List.getElem?_cons_succ, Value.cells, List.take_zero, List.take_succ_cons, List.take_nil, List.drop_zero, List.drop_succ_cons, List.drop_nil, List.length_cons, List.length_nil, List.cons_append, List.nil_append, List.append_nil, Nat.zero_add, Nat.add_zero, Nat.reduceAdd, Nat.reduceBEq, Nat.reduceEqDiff, Nat.ble, BEq.rfl, Bool.and_true, Bool.and_self, cond_true, beq_self_eq_true]; rfl)) ?_)
                  clear hh w; intro w hh
                  refine w_nil ?_
                  have hl2 := hl.add (t := 3) (hl.add (t := 5) (hl.add (t := 8) (hl.add (t := 9) (hl.add (t := 10) (hl.add (t := 11) (hl.add (t := 23) (hl.add (t := 24) (hl.add (t := 25) (hl.nil) rfl) rfl) rfl) rfl) rfl) rfl) rfl) rfl) rfl; clear hl; have hl := hl2; clear hl2
                  refine then_normal ?_
                  refine c_region ?_
                  refine wl (wl_val hl rfl trivial (r_move hl rfl) ?_)
                  clear hl a; intro a hl
                  refine wl (wl_val hl rfl trivial (r_field hl rfl fld36_2) ?_)
                  clear hl a; intro a hl
                  refine wl (w_load hl hh rfl trivial one27 rfl (by repeat (first | exact find_head | apply find_tail)) (by first | rfl) ?_)
                  clear hl a; intro a hl
                  refine wl (wl_val hl rfl trivial (r_indexA hl rfl rfl arr58 (by omega) (by omega) (by first | (simp only [Int.reduceToNat]; rfl) | exact toNat_add1 _ | exact toNat_add2 _ _ | exact toNat_emod _ _ | exact Int.toNat_natCast _ | rfl)) ?_)
                  clear hl a; intro a hl
                  refine wl (w_store hl hh trivial one27 rfl rfl (by repeat (first | exact find_head | apply find_tail)) (by rw [arrL_length]; omega) (by first | rfl | (apply Row.one; assumption)) (by exact arr_store (by omega)) ?_)
                  clear hh w; intro w hh
                  refine w_nil ?_
                  have hl2 := hl.add (t := 3) (hl.add (t := 5) (hl.add (t := 9) (hl.add (t := 11) (hl.add (t := 23) (hl.add (t := 24) (hl.add (t := 25) (hl.nil) rfl) rfl) rfl) rfl) rfl) rfl) rfl; clear hl; have hl := hl2; clear hl2
                  refine blk_normal ?_
                  refine then_normal ?_
                  refine c_seq ?_
                  refine c_region ?_
                  first | refine wl (w_loadA hl hh rfl trivial agg44 rfl (by repeat (first | exact find_head | apply find_tail)) (by first | (simp only [List.getElem?_cons_zero, List.getElem?_cons_succ, Value.cells, List.take_zero, List.take_succ_cons, List.take_nil, List.drop_zero, List.drop_succ_cons, List.drop_nil, List.length_cons, List.length_nil, List.cons_append, List.nil_append, List.append_nil, Nat.zero_add, Nat.add_zero, Nat.reduceAdd, Nat.reduceBEq, Nat.reduceEqDiff, Nat.ble, BEq.rfl, Bool.and_true, Bool.and_self, cond_true, beq_self_eq_true]; rfl)) (by first | rfl | (simp; done)) ?_) | refine wl (w_loadRA hl hh rfl trivial agg44 rfl hm (by simp) hqv rfl ?_)
                  clear hl a; intro a hl
                  first | refine wl (w_loadA hl hh rfl trivial agg44 rfl (by repeat (first | exact find_head | apply find_tail)) (by first | (simp only [List.getElem?_cons_zero, List.getElem?_cons_succ, Value.cells, List.take_zero, List.take_succ_cons, List.take_nil, List.drop_zero, List.drop_succ_cons, List.drop_nil, List.length_cons, List.length_nil, List.cons_append, List.nil_append, List.append_nil, Nat.zero_add, Nat.add_zero, Nat.reduceAdd, Nat.reduceBEq, Nat.reduceEqDiff, Nat.ble, BEq.rfl, Bool.and_true, Bool.and_self, cond_true, beq_self_eq_true]; rfl)) (by first | rfl | (simp; done)) ?_) | refine wl (w_loadRA hl hh rfl trivial agg44 rfl hm (by simp) hqv rfl ?_)
                  clear hl a; intro a hl
                  refine wl (wl_val hl rfl trivial (r_neqA hl rfl rfl eqf44 shp44 (by simp only [unlitL, unlit]; rfl) (by simp only [unlitL, unlit]; rfl) (by first | exact ⟨trivial⟩ | (refine ⟨?_⟩; simp [LitsOk, litOk, Fits]; done) | (refine ⟨?_⟩; simp [LitsOk, litOk, Fits]; omega)) (by first | exact ⟨trivial⟩ | (refine ⟨?_⟩; simp [LitsOk, litOk, Fits]; done) | (refine ⟨?_⟩; simp [LitsOk, litOk, Fits]; omega))) ?_)
                  clear hl a; intro a hl
                  refine w_nil ?_
                  have hl2 := hl.add (t := 3) (hl.add (t := 5) (hl.add (t := 23) (hl.add (t := 24) (hl.add (t := 25) (hl.add (t := 132) (hl.nil) rfl) rfl) rfl) rfl) rfl) rfl; clear hl; have hl := hl2; clear hl2
                  refine then_normal ?_
                  refine c_cond hl rfl ?_ ?_
                  · intro hc11
                    try simp only [decide_eq_true_eq, decide_eq_false_iff_not, Bool.not_eq_true', Bool.not_eq_false', Bool.not_eq_true, Bool.not_eq_false, Bool.and_eq_true, Bool.or_eq_true, Bool.and_eq_false_iff, Bool.or_eq_false_iff, Bool.not_not, ne_eq, Int.not_lt, Int.not_le, Decidable.not_not, beq_iff_eq, bne_iff_ne] at hc11
                    exfalso; first | (simp [eqLits, litBeq] at hc11; done) | (simp_all [eqLits, litBeq]; done)
                  · intro hc11
                    try simp only [decide_eq_true_eq, decide_eq_false_iff_not, Bool.not_eq_true', Bool.not_eq_false', Bool.not_eq_true, Bool.not_eq_false, Bool.and_eq_true, Bool.or_eq_true, Bool.and_eq_false_iff, Bool.or_eq_false_iff, Bool.not_not, ne_eq, Int.not_lt, Int.not_le, Decidable.not_not, beq_iff_eq, bne_iff_ne] at hc11
                    refine wp_skip ?_
                    refine blk_normal ?_
                    refine then_normal ?_
                    refine c_region ?_
                    first | refine wl (wl_val hl rfl trivial (r_add hl rfl rfl (by simp only [Fits]; omega)) ?_) | refine wl (wl_val hl rfl trivial (r_addW hl rfl rfl) ?_)
                    clear hl a; intro a hl
                    refine wl (wl_val hl rfl trivial (r_move hl rfl) ?_)
                    clear hl a; intro a hl
                    refine w_nil ?_
                    have hl2 := hl.add (t := 3) (hl.add (t := 5) (hl.add (t := 23) (hl.add (t := 24) (hl.add (t := 25) (hl.nil) rfl) rfl) rfl) rfl) rfl; clear hl; have hl := hl2; clear hl2
                    refine then_normal ?_
                    refine ⟨⟨s.i + 1, (doF s.f ⟨kd2, x2, A2, B2, E2, D2⟩).f, fl2, keepF s.rs ⟨kd2, x2, A2, B2, E2, D2⟩ (doF s.f ⟨kd2, x2, A2, B2, E2, D2⟩).ans, rv2, E3⟩, (by dsimp only; omega), hI.next hi hok hI2 hR2, hl.addE (t := 25) (hl.addE (t := 3) (hl.addE (t := 5) (hl.addE (t := 23) (hl.addE (t := 24) (hl.nil) rfl (by first | rfl | rfl)) rfl (by first | rfl | rfl)) rfl (by first | rfl | rfl)) rfl (by first | rfl | rfl)) rfl (by first | rfl | rfl), (by simp only [List.cons_append, List.nil_append, List.append_nil]; exact hh.keep (by repeat (first | exact keeps_nil | apply keeps_cons (by repeat (first | exact find_head | apply find_tail)) (by first  | exact arr_obj (fun i hi => by first | (simp only [hfk, wV, updV, word_setWord]; done) | (simp only [hfk, wV, updV, word_setWord]; (repeat' split) <;> first | rfl | omega | (simp_all; done)) | (simp only [wV]; rw [hfk i hi])) | rfl) | exact keeps_self | apply keeps_mv)))⟩
                · intro hc5
                  try simp only [decide_eq_true_eq, decide_eq_false_iff_not, Bool.not_eq_true', Bool.not_eq_false', Bool.not_eq_true, Bool.not_eq_false, Bool.and_eq_true, Bool.or_eq_true, Bool.and_eq_false_iff, Bool.or_eq_false_iff, Bool.not_not, ne_eq, Int.not_lt, Int.not_le, Decidable.not_not, beq_iff_eq, bne_iff_ne] at hc5
                  refine c_seq ?_
                  refine c_region ?_
                  refine wl (wl_val hl rfl trivial (r_eql hl rfl rfl) ?_)
                  clear hl a; intro a hl
                  refine wl (wl_val hl rfl trivial (r_assign hl rfl) ?_)
                  clear hl a; intro a hl
                  refine w_nil ?_
                  have hl2 := hl.add (t := 3) (hl.add (t := 5) (hl.add (t := 8) (hl.add (t := 9) (hl.add (t := 10) (hl.add (t := 11) (hl.add (t := 23) (hl.add (t := 24) (hl.add (t := 25) (hl.add (t := 64) (hl.add (t := 72) (hl.nil) rfl) rfl) rfl) rfl) rfl) rfl) rfl) rfl) rfl) rfl) rfl; clear hl; have hl := hl2; clear hl2
                  refine then_normal ?_
                  refine c_cond hl rfl ?_ ?_
                  · intro hc6
                    try simp only [decide_eq_true_eq, decide_eq_false_iff_not, Bool.not_eq_true', Bool.not_eq_false', Bool.not_eq_true, Bool.not_eq_false, Bool.and_eq_true, Bool.or_eq_true, Bool.and_eq_false_iff, Bool.or_eq_false_iff, Bool.not_not, ne_eq, Int.not_lt, Int.not_le, Decidable.not_not, beq_iff_eq, bne_iff_ne] at hc6
                    obtain ⟨ha, hfk⟩ := doF_2 s.f ⟨kd2, x2, A2, B2, E2, D2⟩ (by simp only; omega) hx
                    rw [hr] at ha
                    try simp only at hfk
                    injection ha with e0 e1 e2 e3
                    subst e0; subst e1; subst e2; subst e3
                    refine c_seq ?_
                    refine c_draw [(k5, C (arrL 4096 (wV s.f)) 58), (k8, C [.int .u8 kd2, .int .u32 x2, .int .u64 A2, .int .u64 B2, .int .u64 E2, .int .u64 D2] 36)] [5, 6, 7] mixed hh ?_
                    clear hh w; intro w hh
                    have hM : Mem [(k5, C (arrL 4096 (wV s.f)) 58), (k8, C [.int .u8 kd2, .int .u32 x2, .int .u64 A2, .int .u64 B2, .int .u64 E2, .int .u64 D2] 36)] w := (by repeat (first | exact Mem.nil | refine Mem.cons hh.mem (by repeat (first | exact find_head | apply find_tail)) ?_ | refine Mem.consR hh (by assumption) (by simp) ?_))
                    refine d_take (i := 0) hl rfl (by kernel_rfl) (by kernel_rfl) (by kernel_rfl) (by kernel_rfl) (by kernel_rfl) rfl trivial (fun _ _ _ h => h) hM (fun w hC => r_move hl rfl) rfl ?_
                    clear hl a; intro a hl
                    refine d_take (i := 1) hl rfl (by kernel_rfl) (by kernel_rfl) (by kernel_rfl) (by kernel_rfl) (by kernel_rfl) rfl trivial (fun _ _ _ h => h) hM (fun w hC => r_indexA hl rfl rfl arr58 (by omega) (by omega) (by first | (simp only [Int.reduceToNat]; rfl) | exact toNat_add1 _ | exact toNat_add2 _ _ | exact toNat_emod _ _ | exact Int.toNat_natCast _ | rfl)) rfl ?_
                    clear hl a; intro a hl
                    refine d_take (i := 2) hl rfl (by kernel_rfl) (by kernel_rfl) (by kernel_rfl) (by kernel_rfl) (by kernel_rfl) rfl trivial (fun _ _ _ h => h) hM (fun w hC => r_loadC hl rfl one27 hC (by repeat (first | exact find_head | apply find_tail)) (by exact arr_load (by omega))) rfl ?_
                    clear hl a; intro a hl
                    refine d_take (i := 3) hl rfl (by kernel_rfl) (by kernel_rfl) (by kernel_rfl) (by kernel_rfl) (by kernel_rfl) rfl trivial (fun _ _ _ h => h) hM (fun w hC => r_field hl rfl fld36_2) rfl ?_
                    clear hl a; intro a hl
                    refine d_take (i := 4) hl rfl (by kernel_rfl) (by kernel_rfl) (by kernel_rfl) (by kernel_rfl) (by kernel_rfl) rfl trivial (fun _ _ _ h => h) hM (fun w hC => r_loadC hl rfl one27 hC (by repeat (first | exact find_head | apply find_tail)) (by first | rfl)) rfl ?_
                    clear hl a; intro a hl
                    refine d_takeL (i := 5) hl rfl (by kernel_rfl) (by kernel_rfl) (by kernel_rfl) (by kernel_rfl) (by kernel_rfl) rfl trivial (fun _ _ _ h => h) (fun w => r_eql hl rfl rfl) rfl ?_
                    clear hl a; intro a hl
                    refine d_takeL (i := 6) hl rfl (by kernel_rfl) (by kernel_rfl) (by kernel_rfl) (by kernel_rfl) (by kernel_rfl) rfl trivial (fun _ _ _ h => h) (fun w => r_field hl rfl fld44_1) rfl ?_
                    clear hl a; intro a hl
                    refine d_one (i := 7) (by kernel_rfl) rfl ?_
                    try clear hM
                    refine id (w_store hl hh trivial one4 rfl rfl (by repeat (first | exact find_head | apply find_tail)) (by first | (simp; done) | (simp; omega)) (by first | rfl | (apply Row.one; assumption)) (by first | (simp only [setL, List.getElem?_cons_zero, List.getElem?_cons_succ, Value.cells, List.take_zero, List.take_succ_cons, List.take_nil, List.drop_zero, List.drop_succ_cons, List.drop_nil, List.length_cons, List.length_nil, List.cons_append, List.nil_append, List.append_nil, Nat.zero_add, Nat.add_zero, Nat.reduceAdd, Nat.reduceBEq, Nat.reduceEqDiff, Nat.ble, BEq.rfl, Bool.and_true, Bool.and_self, cond_true, beq_self_eq_true]; rfl)) ?_)
                    clear hh w; intro w hh
                    refine d_step (fun h => absurd h (by decide)) ?_
                    refine d_done (by kernel_rfl) ?_
                    try clear hM
                    have hl2 := hl.add (t := 3) (hl.add (t := 5) (hl.add (t := 8) (hl.add (t := 9) (hl.add (t := 10) (hl.add (t := 11) (hl.add (t := 23) (hl.add (t := 24) (hl.add (t := 25) (hl.nil) rfl) rfl) rfl) rfl) rfl) rfl) rfl) rfl) rfl; clear hl; have hl := hl2; clear hl2
                    refine then_normal ?_
                    refine c_seq ?_
                    refine c_region ?_
                    refine wl (wl_val hl rfl trivial (r_field hl rfl fld44_1) ?_)
                    clear hl a; intro a hl
                    refine wl (w_load hl hh rfl trivial one4 rfl (by repeat (first | exact find_head | apply find_tail)) (by first | rfl) ?_)
                    clear hl a; intro a hl
                    refine w_nil ?_
                    have hl2 := hl.add (t := 3) (hl.add (t := 5) (hl.add (t := 8) (hl.add (t := 9) (hl.add (t := 10) (hl.add (t := 11) (hl.add (t := 23) (hl.add (t := 24) (hl.add (t := 25) (hl.add (t := 82) (hl.nil) rfl) rfl) rfl) rfl) rfl) rfl) rfl) rfl) rfl) rfl; clear hl; have hl := hl2; clear hl2
                    refine then_normal ?_
                    refine c_cond hl rfl ?_ ?_
                    · intro hc7
                      try simp only [decide_eq_true_eq, decide_eq_false_iff_not, Bool.not_eq_true', Bool.not_eq_false', Bool.not_eq_true, Bool.not_eq_false, Bool.and_eq_true, Bool.or_eq_true, Bool.and_eq_false_iff, Bool.or_eq_false_iff, Bool.not_not, ne_eq, Int.not_lt, Int.not_le, Decidable.not_not, beq_iff_eq, bne_iff_ne] at hc7
                      rw [if_pos (by assumption)] at hfk
                      refine c_region ?_
                      refine wl (wl_val hl rfl trivial (r_move hl rfl) ?_)
                      clear hl a; intro a hl
                      refine wl (wl_val hl rfl trivial (r_field hl rfl fld36_3) ?_)
                      clear hl a; intro a hl
                      refine wl (w_load hl hh rfl trivial one27 rfl (by repeat (first | exact find_head | apply find_tail)) (by first | rfl) ?_)
                      clear hl a; intro a hl
                      refine wl (wl_val hl rfl trivial (r_indexA hl rfl rfl arr58 (by omega) (by omega) (by first | (simp only [Int.reduceToNat]; rfl) | exact toNat_add1 _ | exact toNat_add2 _ _ | exact toNat_emod _ _ | exact Int.toNat_natCast _ | rfl)) ?_)
                      clear hl a; intro a hl
                      refine wl (w_store hl hh trivial one27 rfl rfl (by repeat (first | exact find_head | apply find_tail)) (by rw [arrL_length]; omega) (by first | rfl | (apply Row.one; assumption)) (by exact arr_store (by omega)) ?_)
                      clear hh w; intro w hh
                      refine w_nil ?_
                      have hl2 := hl.add (t := 3) (hl.add (t := 5) (hl.add (t := 9) (hl.add (t := 11) (hl.add (t := 23) (hl.add (t := 24) (hl.add (t := 25) (hl.nil) rfl) rfl) rfl) rfl) rfl) rfl) rfl; clear hl; have hl := hl2; clear hl2
                      refine blk_normal ?_
                      refine then_normal ?_
                      refine c_seq ?_
                      refine c_region ?_
                      first | refine wl (w_loadA hl hh rfl trivial agg44 rfl (by repeat (first | exact find_head | apply find_tail)) (by first | (simp only [List.getElem?_cons_zero, List.getElem?_cons_succ, Value.cells, List.take_zero, List.take_succ_cons, List.take_nil, List.drop_zero, List.drop_succ_cons, List.drop_nil, List.length_cons, List.length_nil, List.cons_append, List.nil_append, List.append_nil, Nat.zero_add, Nat.add_zero, Nat.reduceAdd, Nat.reduceBEq, Nat.reduceEqDiff, Nat.ble, BEq.rfl, Bool.and_true, Bool.and_self, cond_true, beq_self_eq_true]; rfl)) (by first | rfl | (simp; done)) ?_) | refine wl (w_loadRA hl hh rfl trivial agg44 rfl hm (by simp) hqv rfl ?_)
                      clear hl a; intro a hl
                      first | refine wl (w_loadA hl hh rfl trivial agg44 rfl (by repeat (first | exact find_head | apply find_tail)) (by first | (simp only [List.getElem?_cons_zero, List.getElem?_cons_succ, Value.cells, List.take_zero, List.take_succ_cons, List.take_nil, List.drop_zero, List.drop_succ_cons, List.drop_nil, List.length_cons, List.length_nil, List.cons_append, List.nil_append, List.append_nil, Nat.zero_add, Nat.add_zero, Nat.reduceAdd, Nat.reduceBEq, Nat.reduceEqDiff, Nat.ble, BEq.rfl, Bool.and_true, Bool.and_self, cond_true, beq_self_eq_true]; rfl)) (by first | rfl | (simp; done)) ?_) | refine wl (w_loadRA hl hh rfl trivial agg44 rfl hm (by simp) hqv rfl ?_)
                      clear hl a; intro a hl
                      refine wl (wl_val hl rfl trivial (r_neqA hl rfl rfl eqf44 shp44 (by simp only [unlitL, unlit]; rfl) (by simp only [unlitL, unlit]; rfl) (by first | exact ⟨trivial⟩ | (refine ⟨?_⟩; simp [LitsOk, litOk, Fits]; done) | (refine ⟨?_⟩; simp [LitsOk, litOk, Fits]; omega)) (by first | exact ⟨trivial⟩ | (refine ⟨?_⟩; simp [LitsOk, litOk, Fits]; done) | (refine ⟨?_⟩; simp [LitsOk, litOk, Fits]; omega))) ?_)
                      clear hl a; intro a hl
                      refine w_nil ?_
                      have hl2 := hl.add (t := 3) (hl.add (t := 5) (hl.add (t := 23) (hl.add (t := 24) (hl.add (t := 25) (hl.add (t := 132) (hl.nil) rfl) rfl) rfl) rfl) rfl) rfl; clear hl; have hl := hl2; clear hl2
                      refine then_normal ?_
                      refine c_cond hl rfl ?_ ?_
                      · intro hc11
                        try simp only [decide_eq_true_eq, decide_eq_false_iff_not, Bool.not_eq_true', Bool.not_eq_false', Bool.not_eq_true, Bool.not_eq_false, Bool.and_eq_true, Bool.or_eq_true, Bool.and_eq_false_iff, Bool.or_eq_false_iff, Bool.not_not, ne_eq, Int.not_lt, Int.not_le, Decidable.not_not, beq_iff_eq, bne_iff_ne] at hc11
                        exfalso; first | (simp [eqLits, litBeq] at hc11; done) | (simp_all [eqLits, litBeq]; done)
                      · intro hc11
                        try simp only [decide_eq_true_eq, decide_eq_false_iff_not, Bool.not_eq_true', Bool.not_eq_false', Bool.not_eq_true, Bool.not_eq_false, Bool.and_eq_true, Bool.or_eq_true, Bool.and_eq_false_iff, Bool.or_eq_false_iff, Bool.not_not, ne_eq, Int.not_lt, Int.not_le, Decidable.not_not, beq_iff_eq, bne_iff_ne] at hc11
                        refine wp_skip ?_
                        refine blk_normal ?_
                        refine then_normal ?_
                        refine c_region ?_
                        first | refine wl (wl_val hl rfl trivial (r_add hl rfl rfl (by simp only [Fits]; omega)) ?_) | refine wl (wl_val hl rfl trivial (r_addW hl rfl rfl) ?_)
                        clear hl a; intro a hl
                        refine wl (wl_val hl rfl trivial (r_move hl rfl) ?_)
                        clear hl a; intro a hl
                        refine w_nil ?_
                        have hl2 := hl.add (t := 3) (hl.add (t := 5) (hl.add (t := 23) (hl.add (t := 24) (hl.add (t := 25) (hl.nil) rfl) rfl) rfl) rfl) rfl; clear hl; have hl := hl2; clear hl2
                        refine then_normal ?_
                        refine ⟨⟨s.i + 1, (doF s.f ⟨kd2, x2, A2, B2, E2, D2⟩).f, fl2, keepF s.rs ⟨kd2, x2, A2, B2, E2, D2⟩ (doF s.f ⟨kd2, x2, A2, B2, E2, D2⟩).ans, rv2, E3⟩, (by dsimp only; omega), hI.next hi hok hI2 hR2, hl.addE (t := 25) (hl.addE (t := 3) (hl.addE (t := 5) (hl.addE (t := 23) (hl.addE (t := 24) (hl.nil) rfl (by first | rfl | rfl)) rfl (by first | rfl | rfl)) rfl (by first | rfl | rfl)) rfl (by first | rfl | rfl)) rfl (by first | rfl | rfl), (by simp only [List.cons_append, List.nil_append, List.append_nil]; exact hh.keep (by repeat (first | exact keeps_nil | apply keeps_cons (by repeat (first | exact find_head | apply find_tail)) (by first  | exact arr_obj (fun i hi => by first | (simp only [hfk, wV, updV, word_setWord]; done) | (simp only [hfk, wV, updV, word_setWord]; (repeat' split) <;> first | rfl | omega | (simp_all; done)) | (simp only [wV]; rw [hfk i hi])) | rfl) | exact keeps_self | apply keeps_mv)))⟩
                    · intro hc7
                      try simp only [decide_eq_true_eq, decide_eq_false_iff_not, Bool.not_eq_true', Bool.not_eq_false', Bool.not_eq_true, Bool.not_eq_false, Bool.and_eq_true, Bool.or_eq_true, Bool.and_eq_false_iff, Bool.or_eq_false_iff, Bool.not_not, ne_eq, Int.not_lt, Int.not_le, Decidable.not_not, beq_iff_eq, bne_iff_ne] at hc7
                      rw [if_neg (by assumption)] at hfk
                      refine wp_skip ?_
                      refine blk_normal ?_
                      refine then_normal ?_
                      refine c_seq ?_
                      refine c_region ?_
                      first | refine wl (w_loadA hl hh rfl trivial agg44 rfl (by repeat (first | exact find_head | apply find_tail)) (by first | (simp only [List.getElem?_cons_zero, List.getElem?_cons_succ, Value.cells, List.take_zero, List.take_succ_cons, List.take_nil, List.drop_zero, List.drop_succ_cons, List.drop_nil, List.length_cons, List.length_nil, List.cons_append, List.nil_append, List.append_nil, Nat.zero_add, Nat.add_zero, Nat.reduceAdd, Nat.reduceBEq, Nat.reduceEqDiff, Nat.ble, BEq.rfl, Bool.and_true, Bool.and_self, cond_true, beq_self_eq_true]; rfl)) (by first | rfl | (simp; done)) ?_) | refine wl (w_loadRA hl hh rfl trivial agg44 rfl hm (by simp) hqv rfl ?_)
                      clear hl a; intro a hl
                      first | refine wl (w_loadA hl hh rfl trivial agg44 rfl (by repeat (first | exact find_head | apply find_tail)) (by first | (simp only [List.getElem?_cons_zero, List.getElem?_cons_succ, Value.cells, List.take_zero, List.take_succ_cons, List.take_nil, List.drop_zero, List.drop_succ_cons, List.drop_nil, List.length_cons, List.length_nil, List.cons_append, List.nil_append, List.append_nil, Nat.zero_add, Nat.add_zero, Nat.reduceAdd, Nat.reduceBEq, Nat.reduceEqDiff, Nat.ble, BEq.rfl, Bool.and_true, Bool.and_self, cond_true, beq_self_eq_true]; rfl)) (by first | rfl | (simp; done)) ?_) | refine wl (w_loadRA hl hh rfl trivial agg44 rfl hm (by simp) hqv rfl ?_)
                      clear hl a; intro a hl
                      refine wl (wl_val hl rfl trivial (r_neqA hl rfl rfl eqf44 shp44 (by simp only [unlitL, unlit]; rfl) (by simp only [unlitL, unlit]; rfl) (by first | exact ⟨trivial⟩ | (refine ⟨?_⟩; simp [LitsOk, litOk, Fits]; done) | (refine ⟨?_⟩; simp [LitsOk, litOk, Fits]; omega)) (by first | exact ⟨trivial⟩ | (refine ⟨?_⟩; simp [LitsOk, litOk, Fits]; done) | (refine ⟨?_⟩; simp [LitsOk, litOk, Fits]; omega))) ?_)
                      clear hl a; intro a hl
                      refine w_nil ?_
                      have hl2 := hl.add (t := 3) (hl.add (t := 5) (hl.add (t := 23) (hl.add (t := 24) (hl.add (t := 25) (hl.add (t := 132) (hl.nil) rfl) rfl) rfl) rfl) rfl) rfl; clear hl; have hl := hl2; clear hl2
                      refine then_normal ?_
                      refine c_cond hl rfl ?_ ?_
                      · intro hc11
                        try simp only [decide_eq_true_eq, decide_eq_false_iff_not, Bool.not_eq_true', Bool.not_eq_false', Bool.not_eq_true, Bool.not_eq_false, Bool.and_eq_true, Bool.or_eq_true, Bool.and_eq_false_iff, Bool.or_eq_false_iff, Bool.not_not, ne_eq, Int.not_lt, Int.not_le, Decidable.not_not, beq_iff_eq, bne_iff_ne] at hc11
                        exfalso; first | (simp [eqLits, litBeq] at hc11; done) | (simp_all [eqLits, litBeq]; done)
                      · intro hc11
                        try simp only [decide_eq_true_eq, decide_eq_false_iff_not, Bool.not_eq_true', Bool.not_eq_false', Bool.not_eq_true, Bool.not_eq_false, Bool.and_eq_true, Bool.or_eq_true, Bool.and_eq_false_iff, Bool.or_eq_false_iff, Bool.not_not, ne_eq, Int.not_lt, Int.not_le, Decidable.not_not, beq_iff_eq, bne_iff_ne] at hc11
                        refine wp_skip ?_
                        refine blk_normal ?_
                        refine then_normal ?_
                        refine c_region ?_
                        first | refine wl (wl_val hl rfl trivial (r_add hl rfl rfl (by simp only [Fits]; omega)) ?_) | refine wl (wl_val hl rfl trivial (r_addW hl rfl rfl) ?_)
                        clear hl a; intro a hl
                        refine wl (wl_val hl rfl trivial (r_move hl rfl) ?_)
                        clear hl a; intro a hl
                        refine w_nil ?_
                        have hl2 := hl.add (t := 3) (hl.add (t := 5) (hl.add (t := 23) (hl.add (t := 24) (hl.add (t := 25) (hl.nil) rfl) rfl) rfl) rfl) rfl; clear hl; have hl := hl2; clear hl2
                        refine then_normal ?_
                        refine ⟨⟨s.i + 1, (doF s.f ⟨kd2, x2, A2, B2, E2, D2⟩).f, fl2, keepF s.rs ⟨kd2, x2, A2, B2, E2, D2⟩ (doF s.f ⟨kd2, x2, A2, B2, E2, D2⟩).ans, rv2, E3⟩, (by dsimp only; omega), hI.next hi hok hI2 hR2, hl.addE (t := 25) (hl.addE (t := 3) (hl.addE (t := 5) (hl.addE (t := 23) (hl.addE (t := 24) (hl.nil) rfl (by first | rfl | rfl)) rfl (by first | rfl | rfl)) rfl (by first | rfl | rfl)) rfl (by first | rfl | rfl)) rfl (by first | rfl | rfl), (by simp only [List.cons_append, List.nil_append, List.append_nil]; exact hh.keep (by repeat (first | exact keeps_nil | apply keeps_cons (by repeat (first | exact find_head | apply find_tail)) (by first  | exact arr_obj (fun i hi => by first | (simp only [hfk, wV, updV, word_setWord]; done) | (simp only [hfk, wV, updV, word_setWord]; (repeat' split) <;> first | rfl | omega | (simp_all; done)) | (simp only [wV]; rw [hfk i hi])) | rfl) | exact keeps_self | apply keeps_mv)))⟩
                  · intro hc6
                    try simp only [decide_eq_true_eq, decide_eq_false_iff_not, Bool.not_eq_true', Bool.not_eq_false', Bool.not_eq_true, Bool.not_eq_false, Bool.and_eq_true, Bool.or_eq_true, Bool.and_eq_false_iff, Bool.or_eq_false_iff, Bool.not_not, ne_eq, Int.not_lt, Int.not_le, Decidable.not_not, beq_iff_eq, bne_iff_ne] at hc6
                    refine c_seq ?_
                    refine c_region ?_
                    refine wl (wl_val hl rfl trivial (r_eql hl rfl rfl) ?_)
                    clear hl a; intro a hl
                    refine wl (wl_val hl rfl trivial (r_assign hl rfl) ?_)
                    clear hl a; intro a hl
                    refine w_nil ?_
                    have hl2 := hl.add (t := 3) (hl.add (t := 5) (hl.add (t := 8) (hl.add (t := 9) (hl.add (t := 10) (hl.add (t := 11) (hl.add (t := 23) (hl.add (t := 24) (hl.add (t := 25) (hl.add (t := 64) (hl.add (t := 87) (hl.nil) rfl) rfl) rfl) rfl) rfl) rfl) rfl) rfl) rfl) rfl) rfl; clear hl; have hl := hl2; clear hl2
                    refine then_normal ?_
                    refine c_cond hl rfl ?_ ?_
                    · intro hc8
                      try simp only [decide_eq_true_eq, decide_eq_false_iff_not, Bool.not_eq_true', Bool.not_eq_false', Bool.not_eq_true, Bool.not_eq_false, Bool.and_eq_true, Bool.or_eq_true, Bool.and_eq_false_iff, Bool.or_eq_false_iff, Bool.not_not, ne_eq, Int.not_lt, Int.not_le, Decidable.not_not, beq_iff_eq, bne_iff_ne] at hc8
                      obtain ⟨ha, hfk⟩ := doF_3 s.f ⟨kd2, x2, A2, B2, E2, D2⟩ (by simp only; omega) hx
                      rw [hr] at ha
                      try simp only at hfk
                      injection ha with e0 e1 e2 e3
                      subst e0; subst e1; subst e2; subst e3
                      refine c_draw [(k5, C (arrL 4096 (wV s.f)) 58), (k8, C [.int .u8 kd2, .int .u32 x2, .int .u64 A2, .int .u64 B2, .int .u64 E2, .int .u64 D2] 36)] [5, 6, 7] mixed hh ?_
                      clear hh w; intro w hh
                      have hM : Mem [(k5, C (arrL 4096 (wV s.f)) 58), (k8, C [.int .u8 kd2, .int .u32 x2, .int .u64 A2, .int .u64 B2, .int .u64 E2, .int .u64 D2] 36)] w := (by repeat (first | exact Mem.nil | refine Mem.cons hh.mem (by repeat (first | exact find_head | apply find_tail)) ?_ | refine Mem.consR hh (by assumption) (by simp) ?_))
                      refine d_take (i := 0) hl rfl (by kernel_rfl) (by kernel_rfl) (by kernel_rfl) (by kernel_rfl) (by kernel_rfl) rfl trivial (fun _ _ _ h => h) hM (fun w hC => r_move hl rfl) rfl ?_
                      clear hl a; intro a hl
                      refine d_take (i := 1) hl rfl (by kernel_rfl) (by kernel_rfl) (by kernel_rfl) (by kernel_rfl) (by kernel_rfl) rfl trivial (fun _ _ _ h => h) hM (fun w hC => r_indexA hl rfl rfl arr58 (by omega) (by omega) (by first | (simp only [Int.reduceToNat]; rfl) | exact toNat_add1 _ | exact toNat_add2 _ _ | exact toNat_emod _ _ | exact Int.toNat_natCast _ | rfl)) rfl ?_
                      clear hl a; intro a hl
                      refine d_take (i := 2) hl rfl (by kernel_rfl) (by kernel_rfl) (by kernel_rfl) (by kernel_rfl) (by kernel_rfl) rfl trivial (fun _ _ _ h => h) hM (fun w hC => r_loadC hl rfl one27 hC (by repeat (first | exact find_head | apply find_tail)) (by exact arr_load (by omega))) rfl ?_
                      clear hl a; intro a hl
                      refine d_take (i := 3) hl rfl (by kernel_rfl) (by kernel_rfl) (by kernel_rfl) (by kernel_rfl) (by kernel_rfl) rfl trivial (fun _ _ _ h => h) hM (fun w hC => r_field hl rfl fld36_2) rfl ?_
                      clear hl a; intro a hl
                      refine d_take (i := 4) hl rfl (by kernel_rfl) (by kernel_rfl) (by kernel_rfl) (by kernel_rfl) (by kernel_rfl) rfl trivial (fun _ _ _ h => h) hM (fun w hC => r_loadC hl rfl one27 hC (by repeat (first | exact find_head | apply find_tail)) (by first | rfl)) rfl ?_
                      clear hl a; intro a hl
                      first | refine d_takeL (i := 5) hl rfl (by kernel_rfl) (by kernel_rfl) (by kernel_rfl) (by kernel_rfl) (by kernel_rfl) rfl trivial (fun _ _ _ h => h) (fun w => r_add hl rfl rfl (by simp only [Fits]; omega)) rfl ?_ | refine d_takeL (i := 5) hl rfl (by kernel_rfl) (by kernel_rfl) (by kernel_rfl) (by kernel_rfl) (by kernel_rfl) rfl trivial (fun _ _ _ h => h) (fun w => r_addW hl rfl rfl) rfl ?_
                      clear hl a; intro a hl
                      refine d_takeL (i := 6) hl rfl (by kernel_rfl) (by kernel_rfl) (by kernel_rfl) (by kernel_rfl) (by kernel_rfl) rfl trivial (fun _ _ _ h => h) (fun w => r_indexA hl rfl rfl arr58 (by omega) (by omega) (by first | (simp only [Int.reduceToNat]; rfl) | exact toNat_add1 _ | exact toNat_add2 _ _ | exact toNat_emod _ _ | exact Int.toNat_natCast _ | rfl)) rfl ?_
                      clear hl a; intro a hl
                      refine d_one (i := 7) (by kernel_rfl) rfl ?_
                      try clear hM
                      refine id (w_store hl hh trivial one27 rfl rfl (by repeat (first | exact find_head | apply find_tail)) (by rw [arrL_length]; omega) (by first | rfl | (apply Row.one; assumption)) (by exact arr_store (by omega)) ?_)
                      clear hh w; intro w hh
                      refine d_step (fun h => absurd h (by decide)) ?_
                      refine d_done (by kernel_rfl) ?_
                      try clear hM
                      have hl2 := hl.add (t := 3) (hl.add (t := 5) (hl.add (t := 9) (hl.add (t := 11) (hl.add (t := 23) (hl.add (t := 24) (hl.add (t := 25) (hl.nil) rfl) rfl) rfl) rfl) rfl) rfl) rfl; clear hl; have hl := hl2; clear hl2
                      refine blk_normal ?_
                      refine then_normal ?_
                      refine c_seq ?_
                      refine c_region ?_
                      first | refine wl (w_loadA hl hh rfl trivial agg44 rfl (by repeat (first | exact find_head | apply find_tail)) (by first | (simp only [List.getElem?_cons_zero, List.getElem?_cons_succ, Value.cells, List.take_zero, List.take_succ_cons, List.take_nil, List.drop_zero, List.drop_succ_cons, List.drop_nil, List.length_cons, List.length_nil, List.cons_append, List.nil_append, List.append_nil, Nat.zero_add, Nat.add_zero, Nat.reduceAdd, Nat.reduceBEq, Nat.reduceEqDiff, Nat.ble, BEq.rfl, Bool.and_true, Bool.and_self, cond_true, beq_self_eq_true]; rfl)) (by first | rfl | (simp; done)) ?_) | refine wl (w_loadRA hl hh rfl trivial agg44 rfl hm (by simp) hqv rfl ?_)
                      clear hl a; intro a hl
                      first | refine wl (w_loadA hl hh rfl trivial agg44 rfl (by repeat (first | exact find_head | apply find_tail)) (by first | (simp only [List.getElem?_cons_zero, List.getElem?_cons_succ, Value.cells, List.take_zero, List.take_succ_cons, List.take_nil, List.drop_zero, List.drop_succ_cons, List.drop_nil, List.length_cons, List.length_nil, List.cons_append, List.nil_append, List.append_nil, Nat.zero_add, Nat.add_zero, Nat.reduceAdd, Nat.reduceBEq, Nat.reduceEqDiff, Nat.ble, BEq.rfl, Bool.and_true, Bool.and_self, cond_true, beq_self_eq_true]; rfl)) (by first | rfl | (simp; done)) ?_) | refine wl (w_loadRA hl hh rfl trivial agg44 rfl hm (by simp) hqv rfl ?_)
                      clear hl a; intro a hl
                      refine wl (wl_val hl rfl trivial (r_neqA hl rfl rfl eqf44 shp44 (by simp only [unlitL, unlit]; rfl) (by simp only [unlitL, unlit]; rfl) (by first | exact ⟨trivial⟩ | (refine ⟨?_⟩; simp [LitsOk, litOk, Fits]; done) | (refine ⟨?_⟩; simp [LitsOk, litOk, Fits]; omega)) (by first | exact ⟨trivial⟩ | (refine ⟨?_⟩; simp [LitsOk, litOk, Fits]; done) | (refine ⟨?_⟩; simp [LitsOk, litOk, Fits]; omega))) ?_)
                      clear hl a; intro a hl
                      refine w_nil ?_
                      have hl2 := hl.add (t := 3) (hl.add (t := 5) (hl.add (t := 23) (hl.add (t := 24) (hl.add (t := 25) (hl.add (t := 132) (hl.nil) rfl) rfl) rfl) rfl) rfl) rfl; clear hl; have hl := hl2; clear hl2
                      refine then_normal ?_
                      refine c_cond hl rfl ?_ ?_
                      · intro hc11
                        try simp only [decide_eq_true_eq, decide_eq_false_iff_not, Bool.not_eq_true', Bool.not_eq_false', Bool.not_eq_true, Bool.not_eq_false, Bool.and_eq_true, Bool.or_eq_true, Bool.and_eq_false_iff, Bool.or_eq_false_iff, Bool.not_not, ne_eq, Int.not_lt, Int.not_le, Decidable.not_not, beq_iff_eq, bne_iff_ne] at hc11
                        exfalso; first | (simp [eqLits, litBeq] at hc11; done) | (simp_all [eqLits, litBeq]; done)
                      · intro hc11
                        try simp only [decide_eq_true_eq, decide_eq_false_iff_not, Bool.not_eq_true', Bool.not_eq_false', Bool.not_eq_true, Bool.not_eq_false, Bool.and_eq_true, Bool.or_eq_true, Bool.and_eq_false_iff, Bool.or_eq_false_iff, Bool.not_not, ne_eq, Int.not_lt, Int.not_le, Decidable.not_not, beq_iff_eq, bne_iff_ne] at hc11
                        refine wp_skip ?_
                        refine blk_normal ?_
                        refine then_normal ?_
                        refine c_region ?_
                        first | refine wl (wl_val hl rfl trivial (r_add hl rfl rfl (by simp only [Fits]; omega)) ?_) | refine wl (wl_val hl rfl trivial (r_addW hl rfl rfl) ?_)
                        clear hl a; intro a hl
                        refine wl (wl_val hl rfl trivial (r_move hl rfl) ?_)
                        clear hl a; intro a hl
                        refine w_nil ?_
                        have hl2 := hl.add (t := 3) (hl.add (t := 5) (hl.add (t := 23) (hl.add (t := 24) (hl.add (t := 25) (hl.nil) rfl) rfl) rfl) rfl) rfl; clear hl; have hl := hl2; clear hl2
                        refine then_normal ?_
                        refine ⟨⟨s.i + 1, (doF s.f ⟨kd2, x2, A2, B2, E2, D2⟩).f, fl2, keepF s.rs ⟨kd2, x2, A2, B2, E2, D2⟩ (doF s.f ⟨kd2, x2, A2, B2, E2, D2⟩).ans, rv2, E3⟩, (by dsimp only; omega), hI.next hi hok hI2 hR2, hl.addE (t := 25) (hl.addE (t := 3) (hl.addE (t := 5) (hl.addE (t := 23) (hl.addE (t := 24) (hl.nil) rfl (by first | rfl | rfl)) rfl (by first | rfl | rfl)) rfl (by first | rfl | rfl)) rfl (by first | rfl | rfl)) rfl (by first | rfl | rfl), (by simp only [List.cons_append, List.nil_append, List.append_nil]; exact hh.keep (by repeat (first | exact keeps_nil | apply keeps_cons (by repeat (first | exact find_head | apply find_tail)) (by first  | exact arr_obj (fun i hi => by first | (simp only [hfk, wV, updV, word_setWord]; done) | (simp only [hfk, wV, updV, word_setWord]; (repeat' split) <;> first | rfl | omega | (simp_all; done)) | (simp only [wV]; rw [hfk i hi])) | rfl) | exact keeps_self | apply keeps_mv)))⟩
                    · intro hc8
                      try simp only [decide_eq_true_eq, decide_eq_false_iff_not, Bool.not_eq_true', Bool.not_eq_false', Bool.not_eq_true, Bool.not_eq_false, Bool.and_eq_true, Bool.or_eq_true, Bool.and_eq_false_iff, Bool.or_eq_false_iff, Bool.not_not, ne_eq, Int.not_lt, Int.not_le, Decidable.not_not, beq_iff_eq, bne_iff_ne] at hc8
                      refine c_seq ?_
                      refine c_region ?_
                      refine wl (wl_val hl rfl trivial (r_eql hl rfl rfl) ?_)
                      clear hl a; intro a hl
                      refine wl (wl_val hl rfl trivial (r_assign hl rfl) ?_)
                      clear hl a; intro a hl
                      refine w_nil ?_
                      have hl2 := hl.add (t := 3) (hl.add (t := 5) (hl.add (t := 8) (hl.add (t := 9) (hl.add (t := 10) (hl.add (t := 11) (hl.add (t := 23) (hl.add (t := 24) (hl.add (t := 25) (hl.add (t := 96) (hl.nil) rfl) rfl) rfl) rfl) rfl) rfl) rfl) rfl) rfl) rfl; clear hl; have hl := hl2; clear hl2
                      refine then_normal ?_
                      refine c_cond hl rfl ?_ ?_
                      · intro hc9
                        try simp only [decide_eq_true_eq, decide_eq_false_iff_not, Bool.not_eq_true', Bool.not_eq_false', Bool.not_eq_true, Bool.not_eq_false, Bool.and_eq_true, Bool.or_eq_true, Bool.and_eq_false_iff, Bool.or_eq_false_iff, Bool.not_not, ne_eq, Int.not_lt, Int.not_le, Decidable.not_not, beq_iff_eq, bne_iff_ne] at hc9
                        obtain ⟨ha, hfk⟩ := doF_4 s.f ⟨kd2, x2, A2, B2, E2, D2⟩ (by simp only; omega) hx (by simp only; omega)
                        rw [hr] at ha
                        try simp only at hfk
                        injection ha with e0 e1 e2 e3
                        subst e0; subst e1; subst e2; subst e3
                        have hwd1 := hI.inv.words (x2 + 1) (by omega)
                        simp only [Fits] at hwd1
                        refine c_seq ?_
                        refine c_region ?_
                        refine wl (wl_val hl rfl trivial (r_move hl rfl) ?_)
                        clear hl a; intro a hl
                        first | refine wl (wl_val hl rfl trivial (r_add hl rfl rfl (by simp only [Fits]; omega)) ?_) | refine wl (wl_val hl rfl trivial (r_addW hl rfl rfl) ?_)
                        clear hl a; intro a hl
                        refine wl (wl_val hl rfl trivial (r_indexA hl rfl rfl arr58 (by omega) (by omega) (by first | (simp only [Int.reduceToNat]; rfl) | exact toNat_add1 _ | exact toNat_add2 _ _ | exact toNat_emod _ _ | exact Int.toNat_natCast _ | rfl)) ?_)
                        clear hl a; intro a hl
                        refine wl (w_load hl hh rfl trivial one27 rfl (by repeat (first | exact find_head | apply find_tail)) (by exact arr_load (by omega)) ?_)
                        clear hl a; intro a hl
                        refine wl (wl_val hl rfl trivial (r_field hl rfl fld44_3) ?_)
                        clear hl a; intro a hl
                        refine wl (w_store hl hh trivial one27 rfl rfl (by repeat (first | exact find_head | apply find_tail)) (by first | (simp; done) | (simp; omega)) (by first | rfl | (apply Row.one; assumption)) (by first | (simp only [setL, List.getElem?_cons_zero, List.getElem?_cons_succ, Value.cells, List.take_zero, List.take_succ_cons, List.take_nil, List.drop_zero, List.drop_succ_cons, List.drop_nil, List.length_cons, List.length_nil, List.cons_append, List.nil_append, List.append_nil, Nat.zero_add, Nat.add_zero, Nat.reduceAdd, Nat.reduceBEq, Nat.reduceEqDiff, Nat.ble, BEq.rfl, Bool.and_true, Bool.and_self, cond_true, beq_self_eq_true]; rfl)) ?_)
                        clear hh w; intro w hh
                        refine w_nil ?_
                        have hl2 := hl.add (t := 3) (hl.add (t := 5) (hl.add (t := 8) (hl.add (t := 9) (hl.add (t := 10) (hl.add (t := 11) (hl.add (t := 23) (hl.add (t := 24) (hl.add (t := 25) (hl.nil) rfl) rfl) rfl) rfl) rfl) rfl) rfl) rfl) rfl; clear hl; have hl := hl2; clear hl2
                        refine then_normal ?_
                        refine c_seq ?_
                        refine c_draw [(k5, C (arrL 4096 (wV s.f)) 58), (k8, C [.int .u8 kd2, .int .u32 x2, .int .u64 A2, .int .u64 B2, .int .u64 E2, .int .u64 D2] 36)] [13, 14, 15, 16] mixed hh ?_
                        clear hh w; intro w hh
                        have hM : Mem [(k5, C (arrL 4096 (wV s.f)) 58), (k8, C [.int .u8 kd2, .int .u32 x2, .int .u64 A2, .int .u64 B2, .int .u64 E2, .int .u64 D2] 36)] w := (by repeat (first | exact Mem.nil | refine Mem.cons hh.mem (by repeat (first | exact find_head | apply find_tail)) ?_ | refine Mem.consR hh (by assumption) (by simp) ?_))
                        refine d_take (i := 0) hl rfl (by kernel_rfl) (by kernel_rfl) (by kernel_rfl) (by kernel_rfl) (by kernel_rfl) rfl trivial (fun _ _ _ h => h) hM (fun w hC => r_move hl rfl) rfl ?_
                        clear hl a; intro a hl
                        refine d_take (i := 1) hl rfl (by kernel_rfl) (by kernel_rfl) (by kernel_rfl) (by kernel_rfl) (by kernel_rfl) rfl trivial (fun _ _ _ h => h) hM (fun w hC => r_indexA hl rfl rfl arr58 (by omega) (by omega) (by first | (simp only [Int.reduceToNat]; rfl) | exact toNat_add1 _ | exact toNat_add2 _ _ | exact toNat_emod _ _ | exact Int.toNat_natCast _ | rfl)) rfl ?_
                        clear hl a; intro a hl
                        refine d_take (i := 2) hl rfl (by kernel_rfl) (by kernel_rfl) (by kernel_rfl) (by kernel_rfl) (by kernel_rfl) rfl trivial (fun _ _ _ h => h) hM (fun w hC => r_loadC hl rfl one27 hC (by repeat (first | exact find_head | apply find_tail)) (by exact arr_load (by omega))) rfl ?_
                        clear hl a; intro a hl
                        refine d_take (i := 3) hl rfl (by kernel_rfl) (by kernel_rfl) (by kernel_rfl) (by kernel_rfl) (by kernel_rfl) rfl trivial (fun _ _ _ h => h) hM (fun w hC => r_field hl rfl fld36_2) rfl ?_
                        clear hl a; intro a hl
                        refine d_take (i := 4) hl rfl (by kernel_rfl) (by kernel_rfl) (by kernel_rfl) (by kernel_rfl) (by kernel_rfl) rfl trivial (fun _ _ _ h => h) hM (fun w hC => r_loadC hl rfl one27 hC (by repeat (first | exact find_head | apply find_tail)) (by first | rfl)) rfl ?_
                        clear hl a; intro a hl
                        refine d_take (i := 5) hl rfl (by kernel_rfl) (by kernel_rfl) (by kernel_rfl) (by kernel_rfl) (by kernel_rfl) rfl trivial (fun _ _ _ h => h) hM (fun w hC => r_eql hl rfl rfl) rfl ?_
                        clear hl a; intro a hl
                        refine d_take (i := 6) hl rfl (by kernel_rfl) (by kernel_rfl) (by kernel_rfl) (by kernel_rfl) (by kernel_rfl) rfl trivial (fun _ _ _ h => h) hM (fun w hC => r_move hl rfl) rfl ?_
                        clear hl a; intro a hl
                        refine sl_split (t := 109) hl rfl ?_ ?_
                        · intro hg3; clear hl; intro hl
                          try simp only [decide_eq_true_eq, decide_eq_false_iff_not, Bool.not_eq_true', Bool.not_eq_false', Bool.not_eq_true, Bool.not_eq_false, Bool.and_eq_true, Bool.or_eq_true, Bool.and_eq_false_iff, Bool.or_eq_false_iff, Bool.not_not, ne_eq, Int.not_lt, Int.not_le, Decidable.not_not, beq_iff_eq, bne_iff_ne] at hg3
                          refine d_take (i := 7) hl rfl (by kernel_rfl) (by kernel_rfl) (by kernel_rfl) (by kernel_rfl) (by kernel_rfl) rfl ⟨_, _, rfl, rfl, rfl⟩ (fun _ _ _ h => h) hM (fun w hC => r_move hl rfl) rfl ?_
                          clear hl a; intro a hl
                          first | refine d_take (i := 8) hl rfl (by kernel_rfl) (by kernel_rfl) (by kernel_rfl) (by kernel_rfl) (by kernel_rfl) rfl ⟨_, _, rfl, rfl, rfl⟩ (fun _ _ _ h => h) hM (fun w hC => r_add hl rfl rfl (by simp only [Fits]; omega)) rfl ?_ | refine d_take (i := 8) hl rfl (by kernel_rfl) (by kernel_rfl) (by kernel_rfl) (by kernel_rfl) (by kernel_rfl) rfl ⟨_, _, rfl, rfl, rfl⟩ (fun _ _ _ h => h) hM (fun w hC => r_addW hl rfl rfl) rfl ?_
                          clear hl a; intro a hl
                          refine d_take (i := 9) hl rfl (by kernel_rfl) (by kernel_rfl) (by kernel_rfl) (by kernel_rfl) (by kernel_rfl) rfl ⟨_, _, rfl, rfl, rfl⟩ (fun _ _ _ h => h) hM (fun w hC => r_indexA hl rfl rfl arr58 (by omega) (by omega) (by first | (simp only [Int.reduceToNat]; rfl) | exact toNat_add1 _ | exact toNat_add2 _ _ | exact toNat_emod _ _ | exact Int.toNat_natCast _ | rfl)) rfl ?_
                          clear hl a; intro a hl
                          refine d_take (i := 10) hl rfl (by kernel_rfl) (by kernel_rfl) (by kernel_rfl) (by kernel_rfl) (by kernel_rfl) rfl ⟨_, _, rfl, rfl, rfl⟩ (fun _ _ _ h => h) hM (fun w hC => r_loadC hl rfl one27 hC (by repeat (first | exact find_head | apply find_tail)) (by exact arr_load (by omega))) rfl ?_
                          clear hl a; intro a hl
                          refine d_take (i := 11) hl rfl (by kernel_rfl) (by kernel_rfl) (by kernel_rfl) (by kernel_rfl) (by kernel_rfl) rfl ⟨_, _, rfl, rfl, rfl⟩ (fun _ _ _ h => h) hM (fun w hC => r_field hl rfl fld36_3) rfl ?_
                          clear hl a; intro a hl
                          refine d_take (i := 12) hl rfl (by kernel_rfl) (by kernel_rfl) (by kernel_rfl) (by kernel_rfl) (by kernel_rfl) rfl ⟨_, _, rfl, rfl, rfl⟩ (fun _ _ _ h => h) hM (fun w hC => r_loadC hl rfl one27 hC (by repeat (first | exact find_head | apply find_tail)) (by first | rfl)) rfl ?_
                          clear hl a; intro a hl
                          refine d_takeL (i := 13) hl rfl (by kernel_rfl) (by kernel_rfl) (by kernel_rfl) (by kernel_rfl) (by kernel_rfl) rfl ⟨_, _, rfl, rfl, rfl⟩ (fun _ _ _ h => h) (fun w => r_eql hl rfl rfl) rfl ?_
                          clear hl a; intro a hl
                          refine d_takeL (i := 14) hl rfl (by kernel_rfl) (by kernel_rfl) (by kernel_rfl) (by kernel_rfl) (by kernel_rfl) rfl trivial (fun _ _ _ h => h) (fun w => r_pickT hl rfl rfl) rfl ?_
                          clear hl a; intro a hl
                          refine d_takeL (i := 15) hl rfl (by kernel_rfl) (by kernel_rfl) (by kernel_rfl) (by kernel_rfl) (by kernel_rfl) rfl trivial (fun _ _ _ h => h) (fun w => r_field hl rfl fld44_1) rfl ?_
                          clear hl a; intro a hl
                          refine d_one (i := 16) (by kernel_rfl) rfl ?_
                          try clear hM
                          refine id (w_store hl hh trivial one4 rfl rfl (by repeat (first | exact find_head | apply find_tail)) (by first | (simp; done) | (simp; omega)) (by first | rfl | (apply Row.one; assumption)) (by first | (simp only [setL, List.getElem?_cons_zero, List.getElem?_cons_succ, Value.cells, List.take_zero, List.take_succ_cons, List.take_nil, List.drop_zero, List.drop_succ_cons, List.drop_nil, List.length_cons, List.length_nil, List.cons_append, List.nil_append, List.append_nil, Nat.zero_add, Nat.add_zero, Nat.reduceAdd, Nat.reduceBEq, Nat.reduceEqDiff, Nat.ble, BEq.rfl, Bool.and_true, Bool.and_self, cond_true, beq_self_eq_true]; rfl)) ?_)
                          clear hh w; intro w hh
                          refine d_step (fun h => absurd h (by decide)) ?_
                          refine d_done (by kernel_rfl) ?_
                          try clear hM
                          have hl2 := hl.add (t := 3) (hl.add (t := 5) (hl.add (t := 8) (hl.add (t := 9) (hl.add (t := 10) (hl.add (t := 11) (hl.add (t := 23) (hl.add (t := 24) (hl.add (t := 25) (hl.nil) rfl) rfl) rfl) rfl) rfl) rfl) rfl) rfl) rfl; clear hl; have hl := hl2; clear hl2
                          refine then_normal ?_
                          refine c_seq ?_
                          refine c_region ?_
                          refine wl (wl_val hl rfl trivial (r_field hl rfl fld44_1) ?_)
                          clear hl a; intro a hl
                          refine wl (w_load hl hh rfl trivial one4 rfl (by repeat (first | exact find_head | apply find_tail)) (by first | rfl) ?_)
                          clear hl a; intro a hl
                          refine w_nil ?_
                          have hl2 := hl.add (t := 3) (hl.add (t := 5) (hl.add (t := 8) (hl.add (t := 9) (hl.add (t := 10) (hl.add (t := 11) (hl.add (t := 23) (hl.add (t := 24) (hl.add (t := 25) (hl.add (t := 120) (hl.nil) rfl) rfl) rfl) rfl) rfl) rfl) rfl) rfl) rfl) rfl; clear hl; have hl := hl2; clear hl2
                          refine then_normal ?_
                          refine c_cond hl rfl ?_ ?_
                          · intro hc10
                            try simp only [decide_eq_true_eq, decide_eq_false_iff_not, Bool.not_eq_true', Bool.not_eq_false', Bool.not_eq_true, Bool.not_eq_false, Bool.and_eq_true, Bool.or_eq_true, Bool.and_eq_false_iff, Bool.or_eq_false_iff, Bool.not_not, ne_eq, Int.not_lt, Int.not_le, Decidable.not_not, beq_iff_eq, bne_iff_ne] at hc10
                            rw [if_pos (by simp_all)] at hfk
                            refine c_draw [(k8, C [.int .u8 kd2, .int .u32 x2, .int .u64 A2, .int .u64 B2, .int .u64 E2, .int .u64 D2] 36)] [9, 10] mixed hh ?_
                            clear hh w; intro w hh
                            have hM : Mem [(k8, C [.int .u8 kd2, .int .u32 x2, .int .u64 A2, .int .u64 B2, .int .u64 E2, .int .u64 D2] 36)] w := (by repeat (first | exact Mem.nil | refine Mem.cons hh.mem (by repeat (first | exact find_head | apply find_tail)) ?_ | refine Mem.consR hh (by assumption) (by simp) ?_))
                            refine d_take (i := 0) hl rfl (by kernel_rfl) (by kernel_rfl) (by kernel_rfl) (by kernel_rfl) (by kernel_rfl) rfl trivial (fun _ _ _ h => h) hM (fun w hC => r_move hl rfl) rfl ?_
                            clear hl a; intro a hl
                            refine d_take (i := 1) hl rfl (by kernel_rfl) (by kernel_rfl) (by kernel_rfl) (by kernel_rfl) (by kernel_rfl) rfl trivial (fun _ _ _ h => h) hM (fun w hC => r_move hl rfl) rfl ?_
                            clear hl a; intro a hl
                            first | refine d_take (i := 2) hl rfl (by kernel_rfl) (by kernel_rfl) (by kernel_rfl) (by kernel_rfl) (by kernel_rfl) rfl trivial (fun _ _ _ h => h) hM (fun w hC => r_add hl rfl rfl (by simp only [Fits]; omega)) rfl ?_ | refine d_take (i := 2) hl rfl (by kernel_rfl) (by kernel_rfl) (by kernel_rfl) (by kernel_rfl) (by kernel_rfl) rfl trivial (fun _ _ _ h => h) hM (fun w hC => r_addW hl rfl rfl) rfl ?_
                            clear hl a; intro a hl
                            refine d_take (i := 3) hl rfl (by kernel_rfl) (by kernel_rfl) (by kernel_rfl) (by kernel_rfl) (by kernel_rfl) rfl trivial (fun _ _ _ h => h) hM (fun w hC => r_field hl rfl fld36_4) rfl ?_
                            clear hl a; intro a hl
                            refine d_take (i := 4) hl rfl (by kernel_rfl) (by kernel_rfl) (by kernel_rfl) (by kernel_rfl) (by kernel_rfl) rfl trivial (fun _ _ _ h => h) hM (fun w hC => r_loadC hl rfl one27 hC (by repeat (first | exact find_head | apply find_tail)) (by first | rfl)) rfl ?_
                            clear hl a; intro a hl
                            refine d_take (i := 5) hl rfl (by kernel_rfl) (by kernel_rfl) (by kernel_rfl) (by kernel_rfl) (by kernel_rfl) rfl trivial (fun _ _ _ h => h) hM (fun w hC => r_field hl rfl fld36_5) rfl ?_
                            clear hl a; intro a hl
                            refine d_take (i := 6) hl rfl (by kernel_rfl) (by kernel_rfl) (by kernel_rfl) (by kernel_rfl) (by kernel_rfl) rfl trivial (fun _ _ _ h => h) hM (fun w hC => r_loadC hl rfl one27 hC (by repeat (first | exact find_head | apply find_tail)) (by first | rfl)) rfl ?_
                            clear hl a; intro a hl
                            refine d_take (i := 7) hl rfl (by kernel_rfl) (by kernel_rfl) (by kernel_rfl) (by kernel_rfl) (by kernel_rfl) rfl trivial (fun _ _ _ h => h) hM (fun w hC => r_indexA hl rfl rfl arr58 (by omega) (by omega) (by first | (simp only [Int.reduceToNat]; rfl) | exact toNat_add1 _ | exact toNat_add2 _ _ | exact toNat_emod _ _ | exact Int.toNat_natCast _ | rfl)) rfl ?_
                            clear hl a; intro a hl
                            refine d_one (i := 8) (by kernel_rfl) rfl ?_
                            try clear hM
                            refine id (w_store hl hh trivial one27 rfl rfl (by repeat (first | exact find_head | apply find_tail)) (by rw [arrL_length]; omega) (by first | rfl | (apply Row.one; assumption)) (by exact arr_store (by omega)) ?_)
                            clear hh w; intro w hh
                            have hM : Mem [(k8, C [.int .u8 kd2, .int .u32 x2, .int .u64 A2, .int .u64 B2, .int .u64 E2, .int .u64 D2] 36)] w := (by repeat (first | exact Mem.nil | refine Mem.cons hh.mem (by repeat (first | exact find_head | apply find_tail)) ?_ | refine Mem.consR hh (by assumption) (by simp) ?_))
                            refine d_step (fun _ => hM) ?_
                            refine d_takeL (i := 9) hl rfl (by kernel_rfl) (by kernel_rfl) (by kernel_rfl) (by kernel_rfl) (by kernel_rfl) rfl trivial (fun _ _ _ h => h) (fun w => r_indexA hl rfl rfl arr58 (by omega) (by omega) (by first | (simp only [Int.reduceToNat]; rfl) | exact toNat_add1 _ | exact toNat_add2 _ _ | exact toNat_emod _ _ | exact Int.toNat_natCast _ | rfl)) rfl ?_
                            clear hl a; intro a hl
                            refine d_one (i := 10) (by kernel_rfl) rfl ?_
                            try clear hM
                            refine id (w_store hl hh trivial one27 rfl rfl (by repeat (first | exact find_head | apply find_tail)) (by rw [arrL_length]; omega) (by first | rfl | (apply Row.one; assumption)) (by exact arr_store (by omega)) ?_)
                            clear hh w; intro w hh
                            refine d_step (fun h => absurd h (by decide)) ?_
                            refine d_done (by kernel_rfl) ?_
                            try clear hM
                            have hl2 := hl.add (t := 3) (hl.add (t := 5) (hl.add (t := 9) (hl.add (t := 11) (hl.add (t := 23) (hl.add (t := 24) (hl.add (t := 25) (hl.nil) rfl) rfl) rfl) rfl) rfl) rfl) rfl; clear hl; have hl := hl2; clear hl2
                            refine blk_normal ?_
                            refine then_normal ?_
                            refine c_seq ?_
                            refine c_region ?_
                            first | refine wl (w_loadA hl hh rfl trivial agg44 rfl (by repeat (first | exact find_head | apply find_tail)) (by first | (simp only [List.getElem?_cons_zero, List.getElem?_cons_succ, Value.cells, List.take_zero, List.take_succ_cons, List.take_nil, List.drop_zero, List.drop_succ_cons, List.drop_nil, List.length_cons, List.length_nil, List.cons_append, List.nil_append, List.append_nil, Nat.zero_add, Nat.add_zero, Nat.reduceAdd, Nat.reduceBEq, Nat.reduceEqDiff, Nat.ble, BEq.rfl, Bool.and_true, Bool.and_self, cond_true, beq_self_eq_true]; rfl)) (by first | rfl | (simp; done)) ?_) | refine wl (w_loadRA hl hh rfl trivial agg44 rfl hm (by simp) hqv rfl ?_)
                            clear hl a; intro a hl
                            first | refine wl (w_loadA hl hh rfl trivial agg44 rfl (by repeat (first | exact find_head | apply find_tail)) (by first | (simp only [List.getElem?_cons_zero, List.getElem?_cons_succ, Value.cells, List.take_zero, List.take_succ_cons, List.take_nil, List.drop_zero, List.drop_succ_cons, List.drop_nil, List.length_cons, List.length_nil, List.cons_append, List.nil_append, List.append_nil, Nat.zero_add, Nat.add_zero, Nat.reduceAdd, Nat.reduceBEq, Nat.reduceEqDiff, Nat.ble, BEq.rfl, Bool.and_true, Bool.and_self, cond_true, beq_self_eq_true]; rfl)) (by first | rfl | (simp; done)) ?_) | refine wl (w_loadRA hl hh rfl trivial agg44 rfl hm (by simp) hqv rfl ?_)
                            clear hl a; intro a hl
                            refine wl (wl_val hl rfl trivial (r_neqA hl rfl rfl eqf44 shp44 (by simp only [unlitL, unlit]; rfl) (by simp only [unlitL, unlit]; rfl) (by first | exact ⟨trivial⟩ | (refine ⟨?_⟩; simp [LitsOk, litOk, Fits]; done) | (refine ⟨?_⟩; simp [LitsOk, litOk, Fits]; omega)) (by first | exact ⟨trivial⟩ | (refine ⟨?_⟩; simp [LitsOk, litOk, Fits]; done) | (refine ⟨?_⟩; simp [LitsOk, litOk, Fits]; omega))) ?_)
                            clear hl a; intro a hl
                            refine w_nil ?_
                            have hl2 := hl.add (t := 3) (hl.add (t := 5) (hl.add (t := 23) (hl.add (t := 24) (hl.add (t := 25) (hl.add (t := 132) (hl.nil) rfl) rfl) rfl) rfl) rfl) rfl; clear hl; have hl := hl2; clear hl2
                            refine then_normal ?_
                            refine c_cond hl rfl ?_ ?_
                            · intro hc11
                              try simp only [decide_eq_true_eq, decide_eq_false_iff_not, Bool.not_eq_true', Bool.not_eq_false', Bool.not_eq_true, Bool.not_eq_false, Bool.and_eq_true, Bool.or_eq_true, Bool.and_eq_false_iff, Bool.or_eq_false_iff, Bool.not_not, ne_eq, Int.not_lt, Int.not_le, Decidable.not_not, beq_iff_eq, bne_iff_ne] at hc11
                              exfalso; first | (simp [eqLits, litBeq] at hc11; done) | (simp_all [eqLits, litBeq]; done)
                            · intro hc11
                              try simp only [decide_eq_true_eq, decide_eq_false_iff_not, Bool.not_eq_true', Bool.not_eq_false', Bool.not_eq_true, Bool.not_eq_false, Bool.and_eq_true, Bool.or_eq_true, Bool.and_eq_false_iff, Bool.or_eq_false_iff, Bool.not_not, ne_eq, Int.not_lt, Int.not_le, Decidable.not_not, beq_iff_eq, bne_iff_ne] at hc11
                              refine wp_skip ?_
                              refine blk_normal ?_
                              refine then_normal ?_
                              refine c_region ?_
                              first | refine wl (wl_val hl rfl trivial (r_add hl rfl rfl (by simp only [Fits]; omega)) ?_) | refine wl (wl_val hl rfl trivial (r_addW hl rfl rfl) ?_)
                              clear hl a; intro a hl
                              refine wl (wl_val hl rfl trivial (r_move hl rfl) ?_)
                              clear hl a; intro a hl
                              refine w_nil ?_
                              have hl2 := hl.add (t := 3) (hl.add (t := 5) (hl.add (t := 23) (hl.add (t := 24) (hl.add (t := 25) (hl.nil) rfl) rfl) rfl) rfl) rfl; clear hl; have hl := hl2; clear hl2
                              refine then_normal ?_
                              refine ⟨⟨s.i + 1, (doF s.f ⟨kd2, x2, A2, B2, E2, D2⟩).f, fl2, keepF s.rs ⟨kd2, x2, A2, B2, E2, D2⟩ (doF s.f ⟨kd2, x2, A2, B2, E2, D2⟩).ans, rv2, E3⟩, (by dsimp only; omega), hI.next hi hok hI2 hR2, hl.addE (t := 25) (hl.addE (t := 3) (hl.addE (t := 5) (hl.addE (t := 23) (hl.addE (t := 24) (hl.nil) rfl (by first | rfl | rfl)) rfl (by first | rfl | rfl)) rfl (by first | rfl | rfl)) rfl (by first | rfl | rfl)) rfl (by first | rfl | rfl), (by simp only [List.cons_append, List.nil_append, List.append_nil]; exact hh.keep (by repeat (first | exact keeps_nil | apply keeps_cons (by repeat (first | exact find_head | apply find_tail)) (by first  | exact arr_obj (fun i hi => by first | (simp only [hfk, wV, updV, word_setWord]; done) | (simp only [hfk, wV, updV, word_setWord]; (repeat' split) <;> first | rfl | omega | (simp_all; done)) | (simp only [wV]; rw [hfk i hi])) | rfl) | exact keeps_self | apply keeps_mv)))⟩
                          · intro hc10
                            try simp only [decide_eq_true_eq, decide_eq_false_iff_not, Bool.not_eq_true', Bool.not_eq_false', Bool.not_eq_true, Bool.not_eq_false, Bool.and_eq_true, Bool.or_eq_true, Bool.and_eq_false_iff, Bool.or_eq_false_iff, Bool.not_not, ne_eq, Int.not_lt, Int.not_le, Decidable.not_not, beq_iff_eq, bne_iff_ne] at hc10
                            rw [if_neg (by simp_all)] at hfk
                            refine wp_skip ?_
                            refine blk_normal ?_
                            refine then_normal ?_
                            refine c_seq ?_
                            refine c_region ?_
                            first | refine wl (w_loadA hl hh rfl trivial agg44 rfl (by repeat (first | exact find_head | apply find_tail)) (by first | (simp only [List.getElem?_cons_zero, List.getElem?_cons_succ, Value.cells, List.take_zero, List.take_succ_cons, List.take_nil, List.drop_zero, List.drop_succ_cons, List.drop_nil, List.length_cons, List.length_nil, List.cons_append, List.nil_append, List.append_nil, Nat.zero_add, Nat.add_zero, Nat.reduceAdd, Nat.reduceBEq, Nat.reduceEqDiff, Nat.ble, BEq.rfl, Bool.and_true, Bool.and_self, cond_true, beq_self_eq_true]; rfl)) (by first | rfl | (simp; done)) ?_) | refine wl (w_loadRA hl hh rfl trivial agg44 rfl hm (by simp) hqv rfl ?_)
                            clear hl a; intro a hl
                            first | refine wl (w_loadA hl hh rfl trivial agg44 rfl (by repeat (first | exact find_head | apply find_tail)) (by first | (simp only [List.getElem?_cons_zero, List.getElem?_cons_succ, Value.cells, List.take_zero, List.take_succ_cons, List.take_nil, List.drop_zero, List.drop_succ_cons, List.drop_nil, List.length_cons, List.length_nil, List.cons_append, List.nil_append, List.append_nil, Nat.zero_add, Nat.add_zero, Nat.reduceAdd, Nat.reduceBEq, Nat.reduceEqDiff, Nat.ble, BEq.rfl, Bool.and_true, Bool.and_self, cond_true, beq_self_eq_true]; rfl)) (by first | rfl | (simp; done)) ?_) | refine wl (w_loadRA hl hh rfl trivial agg44 rfl hm (by simp) hqv rfl ?_)
                            clear hl a; intro a hl
                            refine wl (wl_val hl rfl trivial (r_neqA hl rfl rfl eqf44 shp44 (by simp only [unlitL, unlit]; rfl) (by simp only [unlitL, unlit]; rfl) (by first | exact ⟨trivial⟩ | (refine ⟨?_⟩; simp [LitsOk, litOk, Fits]; done) | (refine ⟨?_⟩; simp [LitsOk, litOk, Fits]; omega)) (by first | exact ⟨trivial⟩ | (refine ⟨?_⟩; simp [LitsOk, litOk, Fits]; done) | (refine ⟨?_⟩; simp [LitsOk, litOk, Fits]; omega))) ?_)
                            clear hl a; intro a hl
                            refine w_nil ?_
                            have hl2 := hl.add (t := 3) (hl.add (t := 5) (hl.add (t := 23) (hl.add (t := 24) (hl.add (t := 25) (hl.add (t := 132) (hl.nil) rfl) rfl) rfl) rfl) rfl) rfl; clear hl; have hl := hl2; clear hl2
                            refine then_normal ?_
                            refine c_cond hl rfl ?_ ?_
                            · intro hc11
                              try simp only [decide_eq_true_eq, decide_eq_false_iff_not, Bool.not_eq_true', Bool.not_eq_false', Bool.not_eq_true, Bool.not_eq_false, Bool.and_eq_true, Bool.or_eq_true, Bool.and_eq_false_iff, Bool.or_eq_false_iff, Bool.not_not, ne_eq, Int.not_lt, Int.not_le, Decidable.not_not, beq_iff_eq, bne_iff_ne] at hc11
                              exfalso; first | (simp [eqLits, litBeq] at hc11; done) | (simp_all [eqLits, litBeq]; done)
                            · intro hc11
                              try simp only [decide_eq_true_eq, decide_eq_false_iff_not, Bool.not_eq_true', Bool.not_eq_false', Bool.not_eq_true, Bool.not_eq_false, Bool.and_eq_true, Bool.or_eq_true, Bool.and_eq_false_iff, Bool.or_eq_false_iff, Bool.not_not, ne_eq, Int.not_lt, Int.not_le, Decidable.not_not, beq_iff_eq, bne_iff_ne] at hc11
                              refine wp_skip ?_
                              refine blk_normal ?_
                              refine then_normal ?_
                              refine c_region ?_
                              first | refine wl (wl_val hl rfl trivial (r_add hl rfl rfl (by simp only [Fits]; omega)) ?_) | refine wl (wl_val hl rfl trivial (r_addW hl rfl rfl) ?_)
                              clear hl a; intro a hl
                              refine wl (wl_val hl rfl trivial (r_move hl rfl) ?_)
                              clear hl a; intro a hl
                              refine w_nil ?_
                              have hl2 := hl.add (t := 3) (hl.add (t := 5) (hl.add (t := 23) (hl.add (t := 24) (hl.add (t := 25) (hl.nil) rfl) rfl) rfl) rfl) rfl; clear hl; have hl := hl2; clear hl2
                              refine then_normal ?_
                              refine ⟨⟨s.i + 1, (doF s.f ⟨kd2, x2, A2, B2, E2, D2⟩).f, fl2, keepF s.rs ⟨kd2, x2, A2, B2, E2, D2⟩ (doF s.f ⟨kd2, x2, A2, B2, E2, D2⟩).ans, rv2, E3⟩, (by dsimp only; omega), hI.next hi hok hI2 hR2, hl.addE (t := 25) (hl.addE (t := 3) (hl.addE (t := 5) (hl.addE (t := 23) (hl.addE (t := 24) (hl.nil) rfl (by first | rfl | rfl)) rfl (by first | rfl | rfl)) rfl (by first | rfl | rfl)) rfl (by first | rfl | rfl)) rfl (by first | rfl | rfl), (by simp only [List.cons_append, List.nil_append, List.append_nil]; exact hh.keep (by repeat (first | exact keeps_nil | apply keeps_cons (by repeat (first | exact find_head | apply find_tail)) (by first  | exact arr_obj (fun i hi => by first | (simp only [hfk, wV, updV, word_setWord]; done) | (simp only [hfk, wV, updV, word_setWord]; (repeat' split) <;> first | rfl | omega | (simp_all; done)) | (simp only [wV]; rw [hfk i hi])) | rfl) | exact keeps_self | apply keeps_mv)))⟩
                        · intro hg3; clear hl; intro hl
                          try simp only [decide_eq_true_eq, decide_eq_false_iff_not, Bool.not_eq_true', Bool.not_eq_false', Bool.not_eq_true, Bool.not_eq_false, Bool.and_eq_true, Bool.or_eq_true, Bool.and_eq_false_iff, Bool.or_eq_false_iff, Bool.not_not, ne_eq, Int.not_lt, Int.not_le, Decidable.not_not, beq_iff_eq, bne_iff_ne] at hg3
                          refine d_skip (i := 7) hl rfl (by kernel_rfl) (by kernel_rfl) (by kernel_rfl) (by kernel_rfl) (by kernel_rfl) rfl ⟨_, _, rfl, rfl, rfl⟩ (fun _ _ _ h => h) hM ?_
                          clear hl a; intro a hl
                          refine d_skip (i := 8) hl rfl (by kernel_rfl) (by kernel_rfl) (by kernel_rfl) (by kernel_rfl) (by kernel_rfl) rfl ⟨_, _, rfl, rfl, rfl⟩ (fun _ _ _ h => h) hM ?_
                          clear hl a; intro a hl
                          refine d_skip (i := 9) hl rfl (by kernel_rfl) (by kernel_rfl) (by kernel_rfl) (by kernel_rfl) (by kernel_rfl) rfl ⟨_, _, rfl, rfl, rfl⟩ (fun _ _ _ h => h) hM ?_
                          clear hl a; intro a hl
                          refine d_skip (i := 10) hl rfl (by kernel_rfl) (by kernel_rfl) (by kernel_rfl) (by kernel_rfl) (by kernel_rfl) rfl ⟨_, _, rfl, rfl, rfl⟩ (fun _ _ _ h => h) hM ?_
                          clear hl a; intro a hl
                          refine d_skip (i := 11) hl rfl (by kernel_rfl) (by kernel_rfl) (by kernel_rfl) (by kernel_rfl) (by kernel_rfl) rfl ⟨_, _, rfl, rfl, rfl⟩ (fun _ _ _ h => h) hM ?_
                          clear hl a; intro a hl
                          refine d_skip (i := 12) hl rfl (by kernel_rfl) (by kernel_rfl) (by kernel_rfl) (by kernel_rfl) (by kernel_rfl) rfl ⟨_, _, rfl, rfl, rfl⟩ (fun _ _ _ h => h) hM ?_
                          clear hl a; intro a hl
                          refine d_skip (i := 13) hl rfl (by kernel_rfl) (by kernel_rfl) (by kernel_rfl) (by kernel_rfl) (by kernel_rfl) rfl ⟨_, _, rfl, rfl, rfl⟩ (fun _ _ _ h => h) hM ?_
                          clear hl a; intro a hl
                          refine d_takeL (i := 14) hl rfl (by kernel_rfl) (by kernel_rfl) (by kernel_rfl) (by kernel_rfl) (by kernel_rfl) rfl trivial (fun _ _ _ h => h) (fun w => r_pickF hl rfl rfl) rfl ?_
                          clear hl a; intro a hl
                          refine d_takeL (i := 15) hl rfl (by kernel_rfl) (by kernel_rfl) (by kernel_rfl) (by kernel_rfl) (by kernel_rfl) rfl trivial (fun _ _ _ h => h) (fun w => r_field hl rfl fld44_1) rfl ?_
                          clear hl a; intro a hl
                          refine d_one (i := 16) (by kernel_rfl) rfl ?_
                          try clear hM
                          refine id (w_store hl hh trivial one4 rfl rfl (by repeat (first | exact find_head | apply find_tail)) (by first | (simp; done) | (simp; omega)) (by first | rfl | (apply Row.one; assumption)) (by first | (simp only [setL, List.getElem?_cons_zero, List.getElem?_cons_succ, Value.cells, List.take_zero, List.take_succ_cons, List.take_nil, List.drop_zero, List.drop_succ_cons, List.drop_nil, List.length_cons, List.length_nil, List.cons_append, List.nil_append, List.append_nil, Nat.zero_add, Nat.add_zero, Nat.reduceAdd, Nat.reduceBEq, Nat.reduceEqDiff, Nat.ble, BEq.rfl, Bool.and_true, Bool.and_self, cond_true, beq_self_eq_true]; rfl)) ?_)
                          clear hh w; intro w hh
                          refine d_step (fun h => absurd h (by decide)) ?_
                          refine d_done (by kernel_rfl) ?_
                          try clear hM
                          have hl2 := hl.add (t := 3) (hl.add (t := 5) (hl.add (t := 8) (hl.add (t := 9) (hl.add (t := 10) (hl.add (t := 11) (hl.add (t := 23) (hl.add (t := 24) (hl.add (t := 25) (hl.nil) rfl) rfl) rfl) rfl) rfl) rfl) rfl) rfl) rfl; clear hl; have hl := hl2; clear hl2
                          refine then_normal ?_
                          refine c_seq ?_
                          refine c_region ?_
                          refine wl (wl_val hl rfl trivial (r_field hl rfl fld44_1) ?_)
                          clear hl a; intro a hl
                          refine wl (w_load hl hh rfl trivial one4 rfl (by repeat (first | exact find_head | apply find_tail)) (by first | rfl) ?_)
                          clear hl a; intro a hl
                          refine w_nil ?_
                          have hl2 := hl.add (t := 3) (hl.add (t := 5) (hl.add (t := 8) (hl.add (t := 9) (hl.add (t := 10) (hl.add (t := 11) (hl.add (t := 23) (hl.add (t := 24) (hl.add (t := 25) (hl.add (t := 120) (hl.nil) rfl) rfl) rfl) rfl) rfl) rfl) rfl) rfl) rfl) rfl; clear hl; have hl := hl2; clear hl2
                          refine then_normal ?_
                          refine c_cond hl rfl ?_ ?_
                          · intro hc10
                            try simp only [decide_eq_true_eq, decide_eq_false_iff_not, Bool.not_eq_true', Bool.not_eq_false', Bool.not_eq_true, Bool.not_eq_false, Bool.and_eq_true, Bool.or_eq_true, Bool.and_eq_false_iff, Bool.or_eq_false_iff, Bool.not_not, ne_eq, Int.not_lt, Int.not_le, Decidable.not_not, beq_iff_eq, bne_iff_ne] at hc10
                            rw [if_pos (by simp_all)] at hfk
                            refine c_draw [(k8, C [.int .u8 kd2, .int .u32 x2, .int .u64 A2, .int .u64 B2, .int .u64 E2, .int .u64 D2] 36)] [9, 10] mixed hh ?_
                            clear hh w; intro w hh
                            have hM : Mem [(k8, C [.int .u8 kd2, .int .u32 x2, .int .u64 A2, .int .u64 B2, .int .u64 E2, .int .u64 D2] 36)] w := (by repeat (first | exact Mem.nil | refine Mem.cons hh.mem (by repeat (first | exact find_head | apply find_tail)) ?_ | refine Mem.consR hh (by assumption) (by simp) ?_))
                            refine d_take (i := 0) hl rfl (by kernel_rfl) (by kernel_rfl) (by kernel_rfl) (by kernel_rfl) (by kernel_rfl) rfl trivial (fun _ _ _ h => h) hM (fun w hC => r_move hl rfl) rfl ?_
                            clear hl a; intro a hl
                            refine d_take (i := 1) hl rfl (by kernel_rfl) (by kernel_rfl) (by kernel_rfl) (by kernel_rfl) (by kernel_rfl) rfl trivial (fun _ _ _ h => h) hM (fun w hC => r_move hl rfl) rfl ?_
                            clear hl a; intro a hl
                            first | refine d_take (i := 2) hl rfl (by kernel_rfl) (by kernel_rfl) (by kernel_rfl) (by kernel_rfl) (by kernel_rfl) rfl trivial (fun _ _ _ h => h) hM (fun w hC => r_add hl rfl rfl (by simp only [Fits]; omega)) rfl ?_ | refine d_take (i := 2) hl rfl (by kernel_rfl) (by kernel_rfl) (by kernel_rfl) (by kernel_rfl) (by kernel_rfl) rfl trivial (fun _ _ _ h => h) hM (fun w hC => r_addW hl rfl rfl) rfl ?_
                            clear hl a; intro a hl
                            refine d_take (i := 3) hl rfl (by kernel_rfl) (by kernel_rfl) (by kernel_rfl) (by kernel_rfl) (by kernel_rfl) rfl trivial (fun _ _ _ h => h) hM (fun w hC => r_field hl rfl fld36_4) rfl ?_
                            clear hl a; intro a hl
                            refine d_take (i := 4) hl rfl (by kernel_rfl) (by kernel_rfl) (by kernel_rfl) (by kernel_rfl) (by kernel_rfl) rfl trivial (fun _ _ _ h => h) hM (fun w hC => r_loadC hl rfl one27 hC (by repeat (first | exact find_head | apply find_tail)) (by first | rfl)) rfl ?_
                            clear hl a; intro a hl
                            refine d_take (i := 5) hl rfl (by kernel_rfl) (by kernel_rfl) (by kernel_rfl) (by kernel_rfl) (by kernel_rfl) rfl trivial (fun _ _ _ h => h) hM (fun w hC => r_field hl rfl fld36_5) rfl ?_
                            clear hl a; intro a hl
                            refine d_take (i := 6) hl rfl (by kernel_rfl) (by kernel_rfl) (by kernel_rfl) (by kernel_rfl) (by kernel_rfl) rfl trivial (fun _ _ _ h => h) hM (fun w hC => r_loadC hl rfl one27 hC (by repeat (first | exact find_head | apply find_tail)) (by first | rfl)) rfl ?_
                            clear hl a; intro a hl
                            refine d_take (i := 7) hl rfl (by kernel_rfl) (by kernel_rfl) (by kernel_rfl) (by kernel_rfl) (by kernel_rfl) rfl trivial (fun _ _ _ h => h) hM (fun w hC => r_indexA hl rfl rfl arr58 (by omega) (by omega) (by first | (simp only [Int.reduceToNat]; rfl) | exact toNat_add1 _ | exact toNat_add2 _ _ | exact toNat_emod _ _ | exact Int.toNat_natCast _ | rfl)) rfl ?_
                            clear hl a; intro a hl
                            refine d_one (i := 8) (by kernel_rfl) rfl ?_
                            try clear hM
                            refine id (w_store hl hh trivial one27 rfl rfl (by repeat (first | exact find_head | apply find_tail)) (by rw [arrL_length]; omega) (by first | rfl | (apply Row.one; assumption)) (by exact arr_store (by omega)) ?_)
                            clear hh w; intro w hh
                            have hM : Mem [(k8, C [.int .u8 kd2, .int .u32 x2, .int .u64 A2, .int .u64 B2, .int .u64 E2, .int .u64 D2] 36)] w := (by repeat (first | exact Mem.nil | refine Mem.cons hh.mem (by repeat (first | exact find_head | apply find_tail)) ?_ | refine Mem.consR hh (by assumption) (by simp) ?_))
                            refine d_step (fun _ => hM) ?_
                            refine d_takeL (i := 9) hl rfl (by kernel_rfl) (by kernel_rfl) (by kernel_rfl) (by kernel_rfl) (by kernel_rfl) rfl trivial (fun _ _ _ h => h) (fun w => r_indexA hl rfl rfl arr58 (by omega) (by omega) (by first | (simp only [Int.reduceToNat]; rfl) | exact toNat_add1 _ | exact toNat_add2 _ _ | exact toNat_emod _ _ | exact Int.toNat_natCast _ | rfl)) rfl ?_
                            clear hl a; intro a hl
                            refine d_one (i := 10) (by kernel_rfl) rfl ?_
                            try clear hM
                            refine id (w_store hl hh trivial one27 rfl rfl (by repeat (first | exact find_head | apply find_tail)) (by rw [arrL_length]; omega) (by first | rfl | (apply Row.one; assumption)) (by exact arr_store (by omega)) ?_)
                            clear hh w; intro w hh
                            refine d_step (fun h => absurd h (by decide)) ?_
                            refine d_done (by kernel_rfl) ?_
                            try clear hM
                            have hl2 := hl.add (t := 3) (hl.add (t := 5) (hl.add (t := 9) (hl.add (t := 11) (hl.add (t := 23) (hl.add (t := 24) (hl.add (t := 25) (hl.nil) rfl) rfl) rfl) rfl) rfl) rfl) rfl; clear hl; have hl := hl2; clear hl2
                            refine blk_normal ?_
                            refine then_normal ?_
                            refine c_seq ?_
                            refine c_region ?_
                            first | refine wl (w_loadA hl hh rfl trivial agg44 rfl (by repeat (first | exact find_head | apply find_tail)) (by first | (simp only [List.getElem?_cons_zero, List.getElem?_cons_succ, Value.cells, List.take_zero, List.take_succ_cons, List.take_nil, List.drop_zero, List.drop_succ_cons, List.drop_nil, List.length_cons, List.length_nil, List.cons_append, List.nil_append, List.append_nil, Nat.zero_add, Nat.add_zero, Nat.reduceAdd, Nat.reduceBEq, Nat.reduceEqDiff, Nat.ble, BEq.rfl, Bool.and_true, Bool.and_self, cond_true, beq_self_eq_true]; rfl)) (by first | rfl | (simp; done)) ?_) | refine wl (w_loadRA hl hh rfl trivial agg44 rfl hm (by simp) hqv rfl ?_)
                            clear hl a; intro a hl
                            first | refine wl (w_loadA hl hh rfl trivial agg44 rfl (by repeat (first | exact find_head | apply find_tail)) (by first | (simp only [List.getElem?_cons_zero, List.getElem?_cons_succ, Value.cells, List.take_zero, List.take_succ_cons, List.take_nil, List.drop_zero, List.drop_succ_cons, List.drop_nil, List.length_cons, List.length_nil, List.cons_append, List.nil_append, List.append_nil, Nat.zero_add, Nat.add_zero, Nat.reduceAdd, Nat.reduceBEq, Nat.reduceEqDiff, Nat.ble, BEq.rfl, Bool.and_true, Bool.and_self, cond_true, beq_self_eq_true]; rfl)) (by first | rfl | (simp; done)) ?_) | refine wl (w_loadRA hl hh rfl trivial agg44 rfl hm (by simp) hqv rfl ?_)
                            clear hl a; intro a hl
                            refine wl (wl_val hl rfl trivial (r_neqA hl rfl rfl eqf44 shp44 (by simp only [unlitL, unlit]; rfl) (by simp only [unlitL, unlit]; rfl) (by first | exact ⟨trivial⟩ | (refine ⟨?_⟩; simp [LitsOk, litOk, Fits]; done) | (refine ⟨?_⟩; simp [LitsOk, litOk, Fits]; omega)) (by first | exact ⟨trivial⟩ | (refine ⟨?_⟩; simp [LitsOk, litOk, Fits]; done) | (refine ⟨?_⟩; simp [LitsOk, litOk, Fits]; omega))) ?_)
                            clear hl a; intro a hl
                            refine w_nil ?_
                            have hl2 := hl.add (t := 3) (hl.add (t := 5) (hl.add (t := 23) (hl.add (t := 24) (hl.add (t := 25) (hl.add (t := 132) (hl.nil) rfl) rfl) rfl) rfl) rfl) rfl; clear hl; have hl := hl2; clear hl2
                            refine then_normal ?_
                            refine c_cond hl rfl ?_ ?_
                            · intro hc11
                              try simp only [decide_eq_true_eq, decide_eq_false_iff_not, Bool.not_eq_true', Bool.not_eq_false', Bool.not_eq_true, Bool.not_eq_false, Bool.and_eq_true, Bool.or_eq_true, Bool.and_eq_false_iff, Bool.or_eq_false_iff, Bool.not_not, ne_eq, Int.not_lt, Int.not_le, Decidable.not_not, beq_iff_eq, bne_iff_ne] at hc11
                              exfalso; first | (simp [eqLits, litBeq] at hc11; done) | (simp_all [eqLits, litBeq]; done)
                            · intro hc11
                              try simp only [decide_eq_true_eq, decide_eq_false_iff_not, Bool.not_eq_true', Bool.not_eq_false', Bool.not_eq_true, Bool.not_eq_false, Bool.and_eq_true, Bool.or_eq_true, Bool.and_eq_false_iff, Bool.or_eq_false_iff, Bool.not_not, ne_eq, Int.not_lt, Int.not_le, Decidable.not_not, beq_iff_eq, bne_iff_ne] at hc11
                              refine wp_skip ?_
                              refine blk_normal ?_
                              refine then_normal ?_
                              refine c_region ?_
                              first | refine wl (wl_val hl rfl trivial (r_add hl rfl rfl (by simp only [Fits]; omega)) ?_) | refine wl (wl_val hl rfl trivial (r_addW hl rfl rfl) ?_)
                              clear hl a; intro a hl
                              refine wl (wl_val hl rfl trivial (r_move hl rfl) ?_)
                              clear hl a; intro a hl
                              refine w_nil ?_
                              have hl2 := hl.add (t := 3) (hl.add (t := 5) (hl.add (t := 23) (hl.add (t := 24) (hl.add (t := 25) (hl.nil) rfl) rfl) rfl) rfl) rfl; clear hl; have hl := hl2; clear hl2
                              refine then_normal ?_
                              refine ⟨⟨s.i + 1, (doF s.f ⟨kd2, x2, A2, B2, E2, D2⟩).f, fl2, keepF s.rs ⟨kd2, x2, A2, B2, E2, D2⟩ (doF s.f ⟨kd2, x2, A2, B2, E2, D2⟩).ans, rv2, E3⟩, (by dsimp only; omega), hI.next hi hok hI2 hR2, hl.addE (t := 25) (hl.addE (t := 3) (hl.addE (t := 5) (hl.addE (t := 23) (hl.addE (t := 24) (hl.nil) rfl (by first | rfl | rfl)) rfl (by first | rfl | rfl)) rfl (by first | rfl | rfl)) rfl (by first | rfl | rfl)) rfl (by first | rfl | rfl), (by simp only [List.cons_append, List.nil_append, List.append_nil]; exact hh.keep (by repeat (first | exact keeps_nil | apply keeps_cons (by repeat (first | exact find_head | apply find_tail)) (by first  | exact arr_obj (fun i hi => by first | (simp only [hfk, wV, updV, word_setWord]; done) | (simp only [hfk, wV, updV, word_setWord]; (repeat' split) <;> first | rfl | omega | (simp_all; done)) | (simp only [wV]; rw [hfk i hi])) | rfl) | exact keeps_self | apply keeps_mv)))⟩
                          · intro hc10
                            try simp only [decide_eq_true_eq, decide_eq_false_iff_not, Bool.not_eq_true', Bool.not_eq_false', Bool.not_eq_true, Bool.not_eq_false, Bool.and_eq_true, Bool.or_eq_true, Bool.and_eq_false_iff, Bool.or_eq_false_iff, Bool.not_not, ne_eq, Int.not_lt, Int.not_le, Decidable.not_not, beq_iff_eq, bne_iff_ne] at hc10
                            rw [if_neg (by simp_all)] at hfk
                            refine wp_skip ?_
                            refine blk_normal ?_
                            refine then_normal ?_
                            refine c_seq ?_
                            refine c_region ?_
                            first | refine wl (w_loadA hl hh rfl trivial agg44 rfl (by repeat (first | exact find_head | apply find_tail)) (by first | (simp only [List.getElem?_cons_zero, List.getElem?_cons_succ, Value.cells, List.take_zero, List.take_succ_cons, List.take_nil, List.drop_zero, List.drop_succ_cons, List.drop_nil, List.length_cons, List.length_nil, List.cons_append, List.nil_append, List.append_nil, Nat.zero_add, Nat.add_zero, Nat.reduceAdd, Nat.reduceBEq, Nat.reduceEqDiff, Nat.ble, BEq.rfl, Bool.and_true, Bool.and_self, cond_true, beq_self_eq_true]; rfl)) (by first | rfl | (simp; done)) ?_) | refine wl (w_loadRA hl hh rfl trivial agg44 rfl hm (by simp) hqv rfl ?_)
                            clear hl a; intro a hl
                            first | refine wl (w_loadA hl hh rfl trivial agg44 rfl (by repeat (first | exact find_head | apply find_tail)) (by first | (simp only [List.getElem?_cons_zero, List.getElem?_cons_succ, Value.cells, List.take_zero, List.take_succ_cons, List.take_nil, List.drop_zero, List.drop_succ_cons, List.drop_nil, List.length_cons, List.length_nil, List.cons_append, List.nil_append, List.append_nil, Nat.zero_add, Nat.add_zero, Nat.reduceAdd, Nat.reduceBEq, Nat.reduceEqDiff, Nat.ble, BEq.rfl, Bool.and_true, Bool.and_self, cond_true, beq_self_eq_true]; rfl)) (by first | rfl | (simp; done)) ?_) | refine wl (w_loadRA hl hh rfl trivial agg44 rfl hm (by simp) hqv rfl ?_)
                            clear hl a; intro a hl
                            refine wl (wl_val hl rfl trivial (r_neqA hl rfl rfl eqf44 shp44 (by simp only [unlitL, unlit]; rfl) (by simp only [unlitL, unlit]; rfl) (by first | exact ⟨trivial⟩ | (refine ⟨?_⟩; simp [LitsOk, litOk, Fits]; done) | (refine ⟨?_⟩; simp [LitsOk, litOk, Fits]; omega)) (by first | exact ⟨trivial⟩ | (refine ⟨?_⟩; simp [LitsOk, litOk, Fits]; done) | (refine ⟨?_⟩; simp [LitsOk, litOk, Fits]; omega))) ?_)
                            clear hl a; intro a hl
                            refine w_nil ?_
                            have hl2 := hl.add (t := 3) (hl.add (t := 5) (hl.add (t := 23) (hl.add (t := 24) (hl.add (t := 25) (hl.add (t := 132) (hl.nil) rfl) rfl) rfl) rfl) rfl) rfl; clear hl; have hl := hl2; clear hl2
                            refine then_normal ?_
                            refine c_cond hl rfl ?_ ?_
                            · intro hc11
                              try simp only [decide_eq_true_eq, decide_eq_false_iff_not, Bool.not_eq_true', Bool.not_eq_false', Bool.not_eq_true, Bool.not_eq_false, Bool.and_eq_true, Bool.or_eq_true, Bool.and_eq_false_iff, Bool.or_eq_false_iff, Bool.not_not, ne_eq, Int.not_lt, Int.not_le, Decidable.not_not, beq_iff_eq, bne_iff_ne] at hc11
                              exfalso; first | (simp [eqLits, litBeq] at hc11; done) | (simp_all [eqLits, litBeq]; done)
                            · intro hc11
                              try simp only [decide_eq_true_eq, decide_eq_false_iff_not, Bool.not_eq_true', Bool.not_eq_false', Bool.not_eq_true, Bool.not_eq_false, Bool.and_eq_true, Bool.or_eq_true, Bool.and_eq_false_iff, Bool.or_eq_false_iff, Bool.not_not, ne_eq, Int.not_lt, Int.not_le, Decidable.not_not, beq_iff_eq, bne_iff_ne] at hc11
                              refine wp_skip ?_
                              refine blk_normal ?_
                              refine then_normal ?_
                              refine c_region ?_
                              first | refine wl (wl_val hl rfl trivial (r_add hl rfl rfl (by simp only [Fits]; omega)) ?_) | refine wl (wl_val hl rfl trivial (r_addW hl rfl rfl) ?_)
                              clear hl a; intro a hl
                              refine wl (wl_val hl rfl trivial (r_move hl rfl) ?_)
                              clear hl a; intro a hl
                              refine w_nil ?_
                              have hl2 := hl.add (t := 3) (hl.add (t := 5) (hl.add (t := 23) (hl.add (t := 24) (hl.add (t := 25) (hl.nil) rfl) rfl) rfl) rfl) rfl; clear hl; have hl := hl2; clear hl2
                              refine then_normal ?_
                              refine ⟨⟨s.i + 1, (doF s.f ⟨kd2, x2, A2, B2, E2, D2⟩).f, fl2, keepF s.rs ⟨kd2, x2, A2, B2, E2, D2⟩ (doF s.f ⟨kd2, x2, A2, B2, E2, D2⟩).ans, rv2, E3⟩, (by dsimp only; omega), hI.next hi hok hI2 hR2, hl.addE (t := 25) (hl.addE (t := 3) (hl.addE (t := 5) (hl.addE (t := 23) (hl.addE (t := 24) (hl.nil) rfl (by first | rfl | rfl)) rfl (by first | rfl | rfl)) rfl (by first | rfl | rfl)) rfl (by first | rfl | rfl)) rfl (by first | rfl | rfl), (by simp only [List.cons_append, List.nil_append, List.append_nil]; exact hh.keep (by repeat (first | exact keeps_nil | apply keeps_cons (by repeat (first | exact find_head | apply find_tail)) (by first  | exact arr_obj (fun i hi => by first | (simp only [hfk, wV, updV, word_setWord]; done) | (simp only [hfk, wV, updV, word_setWord]; (repeat' split) <;> first | rfl | omega | (simp_all; done)) | (simp only [wV]; rw [hfk i hi])) | rfl) | exact keeps_self | apply keeps_mv)))⟩
                      · intro hc9
                        try simp only [decide_eq_true_eq, decide_eq_false_iff_not, Bool.not_eq_true', Bool.not_eq_false', Bool.not_eq_true, Bool.not_eq_false, Bool.and_eq_true, Bool.or_eq_true, Bool.and_eq_false_iff, Bool.or_eq_false_iff, Bool.not_not, ne_eq, Int.not_lt, Int.not_le, Decidable.not_not, beq_iff_eq, bne_iff_ne] at hc9
                        obtain ⟨ha, hfk⟩ := doF_0 s.f ⟨kd2, x2, A2, B2, E2, D2⟩ (by simp only; omega) hx
                        rw [hr] at ha
                        try simp only at hfk
                        injection ha with e0 e1 e2 e3
                        subst e0; subst e1; subst e2; subst e3
                        refine wp_skip ?_
                        refine blk_normal ?_
                        refine then_normal ?_
                        refine c_seq ?_
                        refine c_region ?_
                        first | refine wl (w_loadA hl hh rfl trivial agg44 rfl (by repeat (first | exact find_head | apply find_tail)) (by first | (simp only [List.getElem?_cons_zero, List.getElem?_cons_succ, Value.cells, List.take_zero, List.take_succ_cons, List.take_nil, List.drop_zero, List.drop_succ_cons, List.drop_nil, List.length_cons, List.length_nil, List.cons_append, List.nil_append, List.append_nil, Nat.zero_add, Nat.add_zero, Nat.reduceAdd, Nat.reduceBEq, Nat.reduceEqDiff, Nat.ble, BEq.rfl, Bool.and_true, Bool.and_self, cond_true, beq_self_eq_true]; rfl)) (by first | rfl | (simp; done)) ?_) | refine wl (w_loadRA hl hh rfl trivial agg44 rfl hm (by simp) hqv rfl ?_)
                        clear hl a; intro a hl
                        first | refine wl (w_loadA hl hh rfl trivial agg44 rfl (by repeat (first | exact find_head | apply find_tail)) (by first | (simp only [List.getElem?_cons_zero, List.getElem?_cons_succ, Value.cells, List.take_zero, List.take_succ_cons, List.take_nil, List.drop_zero, List.drop_succ_cons, List.drop_nil, List.length_cons, List.length_nil, List.cons_append, List.nil_append, List.append_nil, Nat.zero_add, Nat.add_zero, Nat.reduceAdd, Nat.reduceBEq, Nat.reduceEqDiff, Nat.ble, BEq.rfl, Bool.and_true, Bool.and_self, cond_true, beq_self_eq_true]; rfl)) (by first | rfl | (simp; done)) ?_) | refine wl (w_loadRA hl hh rfl trivial agg44 rfl hm (by simp) hqv rfl ?_)
                        clear hl a; intro a hl
                        refine wl (wl_val hl rfl trivial (r_neqA hl rfl rfl eqf44 shp44 (by simp only [unlitL, unlit]; rfl) (by simp only [unlitL, unlit]; rfl) (by first | exact ⟨trivial⟩ | (refine ⟨?_⟩; simp [LitsOk, litOk, Fits]; done) | (refine ⟨?_⟩; simp [LitsOk, litOk, Fits]; omega)) (by first | exact ⟨trivial⟩ | (refine ⟨?_⟩; simp [LitsOk, litOk, Fits]; done) | (refine ⟨?_⟩; simp [LitsOk, litOk, Fits]; omega))) ?_)
                        clear hl a; intro a hl
                        refine w_nil ?_
                        have hl2 := hl.add (t := 3) (hl.add (t := 5) (hl.add (t := 23) (hl.add (t := 24) (hl.add (t := 25) (hl.add (t := 132) (hl.nil) rfl) rfl) rfl) rfl) rfl) rfl; clear hl; have hl := hl2; clear hl2
                        refine then_normal ?_
                        refine c_cond hl rfl ?_ ?_
                        · intro hc11
                          try simp only [decide_eq_true_eq, decide_eq_false_iff_not, Bool.not_eq_true', Bool.not_eq_false', Bool.not_eq_true, Bool.not_eq_false, Bool.and_eq_true, Bool.or_eq_true, Bool.and_eq_false_iff, Bool.or_eq_false_iff, Bool.not_not, ne_eq, Int.not_lt, Int.not_le, Decidable.not_not, beq_iff_eq, bne_iff_ne] at hc11
                          exfalso; first | (simp [eqLits, litBeq] at hc11; done) | (simp_all [eqLits, litBeq]; done)
                        · intro hc11
                          try simp only [decide_eq_true_eq, decide_eq_false_iff_not, Bool.not_eq_true', Bool.not_eq_false', Bool.not_eq_true, Bool.not_eq_false, Bool.and_eq_true, Bool.or_eq_true, Bool.and_eq_false_iff, Bool.or_eq_false_iff, Bool.not_not, ne_eq, Int.not_lt, Int.not_le, Decidable.not_not, beq_iff_eq, bne_iff_ne] at hc11
                          refine wp_skip ?_
                          refine blk_normal ?_
                          refine then_normal ?_
                          refine c_region ?_
                          first | refine wl (wl_val hl rfl trivial (r_add hl rfl rfl (by simp only [Fits]; omega)) ?_) | refine wl (wl_val hl rfl trivial (r_addW hl rfl rfl) ?_)
                          clear hl a; intro a hl
                          refine wl (wl_val hl rfl trivial (r_move hl rfl) ?_)
                          clear hl a; intro a hl
                          refine w_nil ?_
                          have hl2 := hl.add (t := 3) (hl.add (t := 5) (hl.add (t := 23) (hl.add (t := 24) (hl.add (t := 25) (hl.nil) rfl) rfl) rfl) rfl) rfl; clear hl; have hl := hl2; clear hl2
                          refine then_normal ?_
                          refine ⟨⟨s.i + 1, (doF s.f ⟨kd2, x2, A2, B2, E2, D2⟩).f, fl2, keepF s.rs ⟨kd2, x2, A2, B2, E2, D2⟩ (doF s.f ⟨kd2, x2, A2, B2, E2, D2⟩).ans, rv2, E3⟩, (by dsimp only; omega), hI.next hi hok hI2 hR2, hl.addE (t := 25) (hl.addE (t := 3) (hl.addE (t := 5) (hl.addE (t := 23) (hl.addE (t := 24) (hl.nil) rfl (by first | rfl | rfl)) rfl (by first | rfl | rfl)) rfl (by first | rfl | rfl)) rfl (by first | rfl | rfl)) rfl (by first | rfl | rfl), (by simp only [List.cons_append, List.nil_append, List.append_nil]; exact hh.keep (by repeat (first | exact keeps_nil | apply keeps_cons (by repeat (first | exact find_head | apply find_tail)) (by first  | exact arr_obj (fun i hi => by first | (simp only [hfk, wV, updV, word_setWord]; done) | (simp only [hfk, wV, updV, word_setWord]; (repeat' split) <;> first | rfl | omega | (simp_all; done)) | (simp only [wV]; rw [hfk i hi])) | rfl) | exact keeps_self | apply keeps_mv)))⟩
            · intro hg2; clear hl; intro hl
              try simp only [decide_eq_true_eq, decide_eq_false_iff_not, Bool.not_eq_true', Bool.not_eq_false', Bool.not_eq_true, Bool.not_eq_false, Bool.and_eq_true, Bool.or_eq_true, Bool.and_eq_false_iff, Bool.or_eq_false_iff, Bool.not_not, ne_eq, Int.not_lt, Int.not_le, Decidable.not_not, beq_iff_eq, bne_iff_ne] at hg2
              refine wl (wl_skip hl rfl ⟨_, _, rfl, rfl, rfl⟩ ?_)
              clear hl a; intro a hl
              refine wl (wl_skip hl rfl ⟨_, _, rfl, rfl, rfl⟩ ?_)
              clear hl a; intro a hl
              refine wl (wl_skip hl rfl ⟨_, _, rfl, rfl, rfl⟩ ?_)
              clear hl a; intro a hl
              refine wl (wl_val hl rfl ⟨_, _, rfl, rfl, rfl⟩ (r_pickF hl rfl rfl) ?_)
              clear hl a; intro a hl
              refine wl (wl_val hl rfl trivial (r_pickF hl rfl rfl) ?_)
              clear hl a; intro a hl
              refine w_nil ?_
              have hl2 := hl.add (t := 3) (hl.add (t := 5) (hl.add (t := 8) (hl.add (t := 9) (hl.add (t := 10) (hl.add (t := 23) (hl.add (t := 24) (hl.add (t := 25) (hl.add (t := 55) (hl.nil) rfl) rfl) rfl) rfl) rfl) rfl) rfl) rfl) rfl; clear hl; have hl := hl2; clear hl2
              refine then_normal ?_
              refine c_condF hl rfl ?_
              have hx : 2 ≤ x2 ∧ x2 < 4096 := by omega
              have hwd := hI.inv.words x2 hx.2
              simp only [Fits] at hwd
              refine wp_skip ?_
              refine then_normal ?_
              refine c_seq ?_
              refine c_region ?_
              refine wl (wl_val hl rfl trivial (r_move hl rfl) ?_)
              clear hl a; intro a hl
              refine wl (wl_val hl rfl trivial (r_indexA hl rfl rfl arr58 (by omega) (by omega) (by first | (simp only [Int.reduceToNat]; rfl) | exact toNat_add1 _ | exact toNat_add2 _ _ | exact toNat_emod _ _ | exact Int.toNat_natCast _ | rfl)) ?_)
              clear hl a; intro a hl
              refine wl (w_load hl hh rfl trivial one27 rfl (by repeat (first | exact find_head | apply find_tail)) (by exact arr_load (by omega)) ?_)
              clear hl a; intro a hl
              refine wl (wl_val hl rfl trivial (r_build hl rfl zero44 bld44 (by simp only [fillL, setL, List.getElem?_cons_zero, List.getElem?_cons_succ, Value.cells, List.take_zero, List.take_succ_cons, List.take_nil, List.drop_zero, List.drop_succ_cons, List.drop_nil, List.length_cons, List.length_nil, List.cons_append, List.nil_append, List.append_nil, Nat.zero_add, Nat.add_zero, Nat.reduceAdd, Nat.reduceBEq, Nat.reduceEqDiff, Nat.ble, BEq.rfl, Bool.and_true, Bool.and_self, cond_true, beq_self_eq_true]; rfl)) ?_)
              clear hl a; intro a hl
              refine wl (w_alloc hl hh rfl trivial zero44 rfl ?_)
              clear hl hh a w; intro k11 a w hl hh
              refine wl (w_storeA hl hh trivial agg44 rfl rfl (by repeat (first | exact find_head | apply find_tail)) (by first | rfl | (simp; done)) (by first | (simp; done) | (simp; omega)) (by first | rfl | (simp; done)) (by first | (simp only [setL, List.getElem?_cons_zero, List.getElem?_cons_succ, Value.cells, List.take_zero, List.take_succ_cons, List.take_nil, List.drop_zero, List.drop_succ_cons, List.drop_nil, List.length_cons, List.length_nil, List.cons_append, List.nil_append, List.append_nil, Nat.zero_add, Nat.add_zero, Nat.reduceAdd, Nat.reduceBEq, Nat.reduceEqDiff, Nat.ble, BEq.rfl, Bool.and_true, Bool.and_self, cond_true, beq_self_eq_true]; rfl)) ?_)
              clear hh w; intro w hh
              refine w_nil ?_
              have hl2 := hl.add (t := 3) (hl.add (t := 5) (hl.add (t := 8) (hl.add (t := 9) (hl.add (t := 10) (hl.add (t := 11) (hl.add (t := 23) (hl.add (t := 24) (hl.add (t := 25) (hl.nil) rfl) rfl) rfl) rfl) rfl) rfl) rfl) rfl) rfl; clear hl; have hl := hl2; clear hl2
              refine then_normal ?_
              refine c_seq ?_
              refine c_seq ?_
              refine c_region ?_
              refine wl (wl_val hl rfl trivial (r_field hl rfl fld36_0) ?_)
              clear hl a; intro a hl
              refine wl (w_load hl hh rfl trivial one32 rfl (by repeat (first | exact find_head | apply find_tail)) (by first | rfl) ?_)
              clear hl a; intro a hl
              refine w_nil ?_
              have hl2 := hl.add (t := 3) (hl.add (t := 5) (hl.add (t := 8) (hl.add (t := 9) (hl.add (t := 10) (hl.add (t := 11) (hl.add (t := 23) (hl.add (t := 24) (hl.add (t := 25) (hl.add (t := 64) (hl.nil) rfl) rfl) rfl) rfl) rfl) rfl) rfl) rfl) rfl) rfl; clear hl; have hl := hl2; clear hl2
              refine then_normal ?_
              refine wp_block ?_
              refine c_seq ?_
              refine c_region ?_
              refine wl (wl_val hl rfl trivial (r_eql hl rfl rfl) ?_)
              clear hl a; intro a hl
              refine wl (wl_val hl rfl trivial (r_assign hl rfl) ?_)
              clear hl a; intro a hl
              refine w_nil ?_
              have hl2 := hl.add (t := 3) (hl.add (t := 5) (hl.add (t := 8) (hl.add (t := 9) (hl.add (t := 10) (hl.add (t := 11) (hl.add (t := 23) (hl.add (t := 24) (hl.add (t := 25) (hl.add (t := 64) (hl.add (t := 65) (hl.nil) rfl) rfl) rfl) rfl) rfl) rfl) rfl) rfl) rfl) rfl) rfl; clear hl; have hl := hl2; clear hl2
              refine then_normal ?_
              refine c_cond hl rfl ?_ ?_
              · intro hc5
                try simp only [decide_eq_true_eq, decide_eq_false_iff_not, Bool.not_eq_true', Bool.not_eq_false', Bool.not_eq_true, Bool.not_eq_false, Bool.and_eq_true, Bool.or_eq_true, Bool.and_eq_false_iff, Bool.or_eq_false_iff, Bool.not_not, ne_eq, Int.not_lt, Int.not_le, Decidable.not_not, beq_iff_eq, bne_iff_ne] at hc5
                obtain ⟨ha, hfk⟩ := doF_1 s.f ⟨kd2, x2, A2, B2, E2, D2⟩ (by simp only; omega) hx
                rw [hr] at ha
                try simp only at hfk
                injection ha with e0 e1 e2 e3
                subst e0; subst e1; subst e2; subst e3
                refine c_seq ?_
                refine c_region ?_
                refine wl (wl_val hl rfl trivial (r_field hl rfl fld44_2) ?_)
                clear hl a; intro a hl
                refine wl (w_store hl hh trivial one27 rfl rfl (by repeat (first | exact find_head | apply find_tail)) (by first | (simp; done) | (simp; omega)) (by first | rfl | (apply Row.one; assumption)) (by first | (simp only [setL, List.getElem?_cons_zero, List.getElem?_cons_succ, Value.cells, List.take_zero, List.take_succ_cons, List.take_nil, List.drop_zero, List.drop_succ_cons, List.drop_nil, List.length_cons, List.length_nil, List.cons_append, List.nil_append, List.append_nil, Nat.zero_add, Nat.add_zero, Nat.reduceAdd, Nat.reduceBEq, Nat.reduceEqDiff, Nat.ble, BEq.rfl, Bool.and_true, Bool.and_self, cond_true, beq_self_eq_true]; rfl)) ?_)
                clear hh w; intro w hh
                refine w_nil ?_
                have hl2 := hl.add (t := 3) (hl.add (t := 5) (hl.add (t := 8) (hl.add (t := 9) (hl.add (t := 10) (hl.add (t := 11) (hl.add (t := 23) (hl.add (t := 24) (hl.add (t := 25) (hl.nil) rfl) rfl) rfl) rfl) rfl) rfl) rfl) rfl) rfl; clear hl; have hl := hl2; clear hl2
                refine then_normal ?_
                refine c_region ?_
                refine wl (wl_val hl rfl trivial (r_move hl rfl) ?_)
                clear hl a; intro a hl
                refine wl (wl_val hl rfl trivial (r_field hl rfl fld36_2) ?_)
                clear hl a; intro a hl
                refine wl (w_load hl hh rfl trivial one27 rfl (by repeat (first | exact find_head | apply find_tail)) (by first | rfl) ?_)
                clear hl a; intro a hl
                refine wl (wl_val hl rfl trivial (r_indexA hl rfl rfl arr58 (by omega) (by omega) (by first | (simp only [Int.reduceToNat]; rfl) | exact toNat_add1 _ | exact toNat_add2 _ _ | exact toNat_emod _ _ | exact Int.toNat_natCast _ | rfl)) ?_)
                clear hl a; intro a hl
                refine wl (w_store hl hh trivial one27 rfl rfl (by repeat (first | exact find_head | apply find_tail)) (by rw [arrL_length]; omega) (by first | rfl | (apply Row.one; assumption)) (by exact arr_store (by omega)) ?_)
                clear hh w; intro w hh
                refine w_nil ?_
                have hl2 := hl.add (t := 3) (hl.add (t := 5) (hl.add (t := 9) (hl.add (t := 11) (hl.add (t := 23) (hl.add (t := 24) (hl.add (t := 25) (hl.nil) rfl) rfl) rfl) rfl) rfl) rfl) rfl; clear hl; have hl := hl2; clear hl2
                refine blk_normal ?_
                refine then_normal ?_
                refine c_seq ?_
                refine c_region ?_
                first | refine wl (w_loadA hl hh rfl trivial agg44 rfl (by repeat (first | exact find_head | apply find_tail)) (by first | (simp only [List.getElem?_cons_zero, List.getElem?_cons_succ, Value.cells, List.take_zero, List.take_succ_cons, List.take_nil, List.drop_zero, List.drop_succ_cons, List.drop_nil, List.length_cons, List.length_nil, List.cons_append, List.nil_append, List.append_nil, Nat.zero_add, Nat.add_zero, Nat.reduceAdd, Nat.reduceBEq, Nat.reduceEqDiff, Nat.ble, BEq.rfl, Bool.and_true, Bool.and_self, cond_true, beq_self_eq_true]; rfl)) (by first | rfl | (simp; done)) ?_) | refine wl (w_loadRA hl hh rfl trivial agg44 rfl hm (by simp) hqv rfl ?_)
                clear hl a; intro a hl
                first | refine wl (w_loadA hl hh rfl trivial agg44 rfl (by repeat (first | exact find_head | apply find_tail)) (by first | (simp only [List.getElem?_cons_zero, List.getElem?_cons_succ, Value.cells, List.take_zero, List.take_succ_cons, List.take_nil, List.drop_zero, List.drop_succ_cons, List.drop_nil, List.length_cons, List.length_nil, List.cons_append, List.nil_append, List.append_nil, Nat.zero_add, Nat.add_zero, Nat.reduceAdd, Nat.reduceBEq, Nat.reduceEqDiff, Nat.ble, BEq.rfl, Bool.and_true, Bool.and_self, cond_true, beq_self_eq_true]; rfl)) (by first | rfl | (simp; done)) ?_) | refine wl (w_loadRA hl hh rfl trivial agg44 rfl hm (by simp) hqv rfl ?_)
                clear hl a; intro a hl
                refine wl (wl_val hl rfl trivial (r_neqA hl rfl rfl eqf44 shp44 (by simp only [unlitL, unlit]; rfl) (by simp only [unlitL, unlit]; rfl) (by first | exact ⟨trivial⟩ | (refine ⟨?_⟩; simp [LitsOk, litOk, Fits]; done) | (refine ⟨?_⟩; simp [LitsOk, litOk, Fits]; omega)) (by first | exact ⟨trivial⟩ | (refine ⟨?_⟩; simp [LitsOk, litOk, Fits]; done) | (refine ⟨?_⟩; simp [LitsOk, litOk, Fits]; omega))) ?_)
                clear hl a; intro a hl
                refine w_nil ?_
                have hl2 := hl.add (t := 3) (hl.add (t := 5) (hl.add (t := 23) (hl.add (t := 24) (hl.add (t := 25) (hl.add (t := 132) (hl.nil) rfl) rfl) rfl) rfl) rfl) rfl; clear hl; have hl := hl2; clear hl2
                refine then_normal ?_
                refine c_cond hl rfl ?_ ?_
                · intro hc11
                  try simp only [decide_eq_true_eq, decide_eq_false_iff_not, Bool.not_eq_true', Bool.not_eq_false', Bool.not_eq_true, Bool.not_eq_false, Bool.and_eq_true, Bool.or_eq_true, Bool.and_eq_false_iff, Bool.or_eq_false_iff, Bool.not_not, ne_eq, Int.not_lt, Int.not_le, Decidable.not_not, beq_iff_eq, bne_iff_ne] at hc11
                  exfalso; first | (simp [eqLits, litBeq] at hc11; done) | (simp_all [eqLits, litBeq]; done)
                · intro hc11
                  try simp only [decide_eq_true_eq, decide_eq_false_iff_not, Bool.not_eq_true', Bool.not_eq_false', Bool.not_eq_true, Bool.not_eq_false, Bool.and_eq_true, Bool.or_eq_true, Bool.and_eq_false_iff, Bool.or_eq_false_iff, Bool.not_not, ne_eq, Int.not_lt, Int.not_le, Decidable.not_not, beq_iff_eq, bne_iff_ne] at hc11
                  refine wp_skip ?_
                  refine blk_normal ?_
                  refine then_normal ?_
                  refine c_region ?_
                  first | refine wl (wl_val hl rfl trivial (r_add hl rfl rfl (by simp only [Fits]; omega)) ?_) | refine wl (wl_val hl rfl trivial (r_addW hl rfl rfl) ?_)
                  clear hl a; intro a hl
                  refine wl (wl_val hl rfl trivial (r_move hl rfl) ?_)
                  clear hl a; intro a hl
                  refine w_nil ?_
                  have hl2 := hl.add (t := 3) (hl.add (t := 5) (hl.add (t := 23) (hl.add (t := 24) (hl.add (t := 25) (hl.nil) rfl) rfl) rfl) rfl) rfl; clear hl; have hl := hl2; clear hl2
                  refine then_normal ?_
                  refine ⟨⟨s.i + 1, (doF s.f ⟨kd2, x2, A2, B2, E2, D2⟩).f, fl2, keepF s.rs ⟨kd2, x2, A2, B2, E2, D2⟩ (doF s.f ⟨kd2, x2, A2, B2, E2, D2⟩).ans, rv2, E3⟩, (by dsimp only; omega), hI.next hi hok hI2 hR2, hl.addE (t := 25) (hl.addE (t := 3) (hl.addE (t := 5) (hl.addE (t := 23) (hl.addE (t := 24) (hl.nil) rfl (by first | rfl | rfl)) rfl (by first | rfl | rfl)) rfl (by first | rfl | rfl)) rfl (by first | rfl | rfl)) rfl (by first | rfl | rfl), (by simp only [List.cons_append, List.nil_append, List.append_nil]; exact hh.keep (by repeat (first | exact keeps_nil | apply keeps_cons (by repeat (first | exact find_head | apply find_tail)) (by first  | exact arr_obj (fun i hi => by first | (simp only [hfk, wV, updV, word_setWord]; done) | (simp only [hfk, wV, updV, word_setWord]; (repeat' split) <;> first | rfl | omega | (simp_all; done)) | (simp only [wV]; rw [hfk i hi])) | rfl) | exact keeps_self | apply keeps_mv)))⟩
              · intro hc5
                try simp only [decide_eq_true_eq, decide_eq_false_iff_not, Bool.not_eq_true', Bool.not_eq_false', Bool.not_eq_true, Bool.not_eq_false, Bool.and_eq_true, Bool.or_eq_true, Bool.and_eq_false_iff, Bool.or_eq_false_iff, Bool.not_not, ne_eq, Int.not_lt, Int.not_le, Decidable.not_not, beq_iff_eq, bne_iff_ne] at hc5
                refine c_seq ?_
                refine c_region ?_
                refine wl (wl_val hl rfl trivial (r_eql hl rfl rfl) ?_)
                clear hl a; intro a hl
                refine wl (wl_val hl rfl trivial (r_assign hl rfl) ?_)
                clear hl a; intro a hl
                refine w_nil ?_
                have hl2 := hl.add (t := 3) (hl.add (t := 5) (hl.add (t := 8) (hl.add (t := 9) (hl.add (t := 10) (hl.add (t := 11) (hl.add (t := 23) (hl.add (t := 24) (hl.add (t := 25) (hl.add (t := 64) (hl.add (t := 72) (hl.nil) rfl) rfl) rfl) rfl) rfl) rfl) rfl) rfl) rfl) rfl) rfl; clear hl; have hl := hl2; clear hl2
                refine then_normal ?_
                refine c_cond hl rfl ?_ ?_
                · intro hc6
                  try simp only [decide_eq_true_eq, decide_eq_false_iff_not, Bool.not_eq_true', Bool.not_eq_false', Bool.not_eq_true, Bool.not_eq_false, Bool.and_eq_true, Bool.or_eq_true, Bool.and_eq_false_iff, Bool.or_eq_false_iff, Bool.not_not, ne_eq, Int.not_lt, Int.not_le, Decidable.not_not, beq_iff_eq, bne_iff_ne] at hc6
                  obtain ⟨ha, hfk⟩ := doF_2 s.f ⟨kd2, x2, A2, B2, E2, D2⟩ (by simp only; omega) hx
                  rw [hr] at ha
                  try simp only at hfk
                  injection ha with e0 e1 e2 e3
                  subst e0; subst e1; subst e2; subst e3
                  refine c_seq ?_
                  refine c_draw [(k5, C (arrL 4096 (wV s.f)) 58), (k8, C [.int .u8 kd2, .int .u32 x2, .int .u64 A2, .int .u64 B2, .int .u64 E2, .int .u64 D2] 36)] [5, 6, 7] mixed hh ?_
                  clear hh w; intro w hh
                  have hM : Mem [(k5, C (arrL 4096 (wV s.f)) 58), (k8, C [.int .u8 kd2, .int .u32 x2, .int .u64 A2, .int .u64 B2, .int .u64 E2, .int .u64 D2] 36)] w := (by repeat (first | exact Mem.nil | refine Mem.cons hh.mem (by repeat (first | exact find_head | apply find_tail)) ?_ | refine Mem.consR hh (by assumption) (by simp) ?_))
                  refine d_take (i := 0) hl rfl (by kernel_rfl) (by kernel_rfl) (by kernel_rfl) (by kernel_rfl) (by kernel_rfl) rfl trivial (fun _ _ _ h => h) hM (fun w hC => r_move hl rfl) rfl ?_
                  clear hl a; intro a hl
                  refine d_take (i := 1) hl rfl (by kernel_rfl) (by kernel_rfl) (by kernel_rfl) (by kernel_rfl) (by kernel_rfl) rfl trivial (fun _ _ _ h => h) hM (fun w hC => r_indexA hl rfl rfl arr58 (by omega) (by omega) (by first | (simp only [Int.reduceToNat]; rfl) | exact toNat_add1 _ | exact toNat_add2 _ _ | exact toNat_emod _ _ | exact Int.toNat_natCast _ | rfl)) rfl ?_
                  clear hl a; intro a hl
                  refine d_take (i := 2) hl rfl (by kernel_rfl) (by kernel_rfl) (by kernel_rfl) (by kernel_rfl) (by kernel_rfl) rfl trivial (fun _ _ _ h => h) hM (fun w hC => r_loadC hl rfl one27 hC (by repeat (first | exact find_head | apply find_tail)) (by exact arr_load (by omega))) rfl ?_
                  clear hl a; intro a hl
                  refine d_take (i := 3) hl rfl (by kernel_rfl) (by kernel_rfl) (by kernel_rfl) (by kernel_rfl) (by kernel_rfl) rfl trivial (fun _ _ _ h => h) hM (fun w hC => r_field hl rfl fld36_2) rfl ?_
                  clear hl a; intro a hl
                  refine d_take (i := 4) hl rfl (by kernel_rfl) (by kernel_rfl) (by kernel_rfl) (by kernel_rfl) (by kernel_rfl) rfl trivial (fun _ _ _ h => h) hM (fun w hC => r_loadC hl rfl one27 hC (by repeat (first | exact find_head | apply find_tail)) (by first | rfl)) rfl ?_
                  clear hl a; intro a hl
                  refine d_takeL (i := 5) hl rfl (by kernel_rfl) (by kernel_rfl) (by kernel_rfl) (by kernel_rfl) (by kernel_rfl) rfl trivial (fun _ _ _ h => h) (fun w => r_eql hl rfl rfl) rfl ?_
                  clear hl a; intro a hl
                  refine d_takeL (i := 6) hl rfl (by kernel_rfl) (by kernel_rfl) (by kernel_rfl) (by kernel_rfl) (by kernel_rfl) rfl trivial (fun _ _ _ h => h) (fun w => r_field hl rfl fld44_1) rfl ?_
                  clear hl a; intro a hl
                  refine d_one (i := 7) (by kernel_rfl) rfl ?_
                  try clear hM
                  refine id (w_store hl hh trivial one4 rfl rfl (by repeat (first | exact find_head | apply find_tail)) (by first | (simp; done) | (simp; omega)) (by first | rfl | (apply Row.one; assumption)) (by first | (simp only [setL, List.getElem?_cons_zero, List.getElem?_cons_succ, Value.cells, List.take_zero, List.take_succ_cons, List.take_nil, List.drop_zero, List.drop_succ_cons, List.drop_nil, List.length_cons, List.length_nil, List.cons_append, List.nil_append, List.append_nil, Nat.zero_add, Nat.add_zero, Nat.reduceAdd, Nat.reduceBEq, Nat.reduceEqDiff, Nat.ble, BEq.rfl, Bool.and_true, Bool.and_self, cond_true, beq_self_eq_true]; rfl)) ?_)
                  clear hh w; intro w hh
                  refine d_step (fun h => absurd h (by decide)) ?_
                  refine d_done (by kernel_rfl) ?_
                  try clear hM
                  have hl2 := hl.add (t := 3) (hl.add (t := 5) (hl.add (t := 8) (hl.add (t := 9) (hl.add (t := 10) (hl.add (t := 11) (hl.add (t := 23) (hl.add (t := 24) (hl.add (t := 25) (hl.nil) rfl) rfl) rfl) rfl) rfl) rfl) rfl) rfl) rfl; clear hl; have hl := hl2; clear hl2
                  refine then_normal ?_
                  refine c_seq ?_
                  refine c_region ?_
                  refine wl (wl_val hl rfl trivial (r_field hl rfl fld44_1) ?_)
                  clear hl a; intro a hl
                  refine wl (w_load hl hh rfl trivial one4 rfl (by repeat (first | exact find_head | apply find_tail)) (by first | rfl) ?_)
                  clear hl a; intro a hl
                  refine w_nil ?_
                  have hl2 := hl.add (t := 3) (hl.add (t := 5) (hl.add (t := 8) (hl.add (t := 9) (hl.add (t := 10) (hl.add (t := 11) (hl.add (t := 23) (hl.add (t := 24) (hl.add (t := 25) (hl.add (t := 82) (hl.nil) rfl) rfl) rfl) rfl) rfl) rfl) rfl) rfl) rfl) rfl; clear hl; have hl := hl2; clear hl2
                  refine then_normal ?_
                  refine c_cond hl rfl ?_ ?_
                  · intro hc7
                    try simp only [decide_eq_true_eq, decide_eq_false_iff_not, Bool.not_eq_true', Bool.not_eq_false', Bool.not_eq_true, Bool.not_eq_false, Bool.and_eq_true, Bool.or_eq_true, Bool.and_eq_false_iff, Bool.or_eq_false_iff, Bool.not_not, ne_eq, Int.not_lt, Int.not_le, Decidable.not_not, beq_iff_eq, bne_iff_ne] at hc7
                    rw [if_pos (by assumption)] at hfk
                    refine c_region ?_
                    refine wl (wl_val hl rfl trivial (r_move hl rfl) ?_)
                    clear hl a; intro a hl
                    refine wl (wl_val hl rfl trivial (r_field hl rfl fld36_3) ?_)
                    clear hl a; intro a hl
                    refine wl (w_load hl hh rfl trivial one27 rfl (by repeat (first | exact find_head | apply find_tail)) (by first | rfl) ?_)
                    clear hl a; intro a hl
                    refine wl (wl_val hl rfl trivial (r_indexA hl rfl rfl arr58 (by omega) (by omega) (by first | (simp only [Int.reduceToNat]; rfl) | exact toNat_add1 _ | exact toNat_add2 _ _ | exact toNat_emod _ _ | exact Int.toNat_natCast _ | rfl)) ?_)
                    clear hl a; intro a hl
                    refine wl (w_store hl hh trivial one27 rfl rfl (by repeat (first | exact find_head | apply find_tail)) (by rw [arrL_length]; omega) (by first | rfl | (apply Row.one; assumption)) (by exact arr_store (by omega)) ?_)
                    clear hh w; intro w hh
                    refine w_nil ?_
                    have hl2 := hl.add (t := 3) (hl.add (t := 5) (hl.add (t := 9) (hl.add (t := 11) (hl.add (t := 23) (hl.add (t := 24) (hl.add (t := 25) (hl.nil) rfl) rfl) rfl) rfl) rfl) rfl) rfl; clear hl; have hl := hl2; clear hl2
                    refine blk_normal ?_
                    refine then_normal ?_
                    refine c_seq ?_
                    refine c_region ?_
                    first | refine wl (w_loadA hl hh rfl trivial agg44 rfl (by repeat (first | exact find_head | apply find_tail)) (by first | (simp only [List.getElem?_cons_zero, List.getElem?_cons_succ, Value.cells, List.take_zero, List.take_succ_cons, List.take_nil, List.drop_zero, List.drop_succ_cons, List.drop_nil, List.length_cons, List.length_nil, List.cons_append, List.nil_append, List.append_nil, Nat.zero_add, Nat.add_zero, Nat.reduceAdd, Nat.reduceBEq, Nat.reduceEqDiff, Nat.ble, BEq.rfl, Bool.and_true, Bool.and_self, cond_true, beq_self_eq_true]; rfl)) (by first | rfl | (simp; done)) ?_) | refine wl (w_loadRA hl hh rfl trivial agg44 rfl hm (by simp) hqv rfl ?_)
                    clear hl a; intro a hl
                    first | refine wl (w_loadA hl hh rfl trivial agg44 rfl (by repeat (first | exact find_head | apply find_tail)) (by first | (simp only [List.getElem?_cons_zero, List.getElem?_cons_succ, Value.cells, List.take_zero, List.take_succ_cons, List.take_nil, List.drop_zero, List.drop_succ_cons, List.drop_nil, List.length_cons, List.length_nil, List.cons_append, List.nil_append, List.append_nil, Nat.zero_add, Nat.add_zero, Nat.reduceAdd, Nat.reduceBEq, Nat.reduceEqDiff, Nat.ble, BEq.rfl, Bool.and_true, Bool.and_self, cond_true, beq_self_eq_true]; rfl)) (by first | rfl | (simp; done)) ?_) | refine wl (w_loadRA hl hh rfl trivial agg44 rfl hm (by simp) hqv rfl ?_)
                    clear hl a; intro a hl
                    refine wl (wl_val hl rfl trivial (r_neqA hl rfl rfl eqf44 shp44 (by simp only [unlitL, unlit]; rfl) (by simp only [unlitL, unlit]; rfl) (by first | exact ⟨trivial⟩ | (refine ⟨?_⟩; simp [LitsOk, litOk, Fits]; done) | (refine ⟨?_⟩; simp [LitsOk, litOk, Fits]; omega)) (by first | exact ⟨trivial⟩ | (refine ⟨?_⟩; simp [LitsOk, litOk, Fits]; done) | (refine ⟨?_⟩; simp [LitsOk, litOk, Fits]; omega))) ?_)
                    clear hl a; intro a hl
                    refine w_nil ?_
                    have hl2 := hl.add (t := 3) (hl.add (t := 5) (hl.add (t := 23) (hl.add (t := 24) (hl.add (t := 25) (hl.add (t := 132) (hl.nil) rfl) rfl) rfl) rfl) rfl) rfl; clear hl; have hl := hl2; clear hl2
                    refine then_normal ?_
                    refine c_cond hl rfl ?_ ?_
                    · intro hc11
                      try simp only [decide_eq_true_eq, decide_eq_false_iff_not, Bool.not_eq_true', Bool.not_eq_false', Bool.not_eq_true, Bool.not_eq_false, Bool.and_eq_true, Bool.or_eq_true, Bool.and_eq_false_iff, Bool.or_eq_false_iff, Bool.not_not, ne_eq, Int.not_lt, Int.not_le, Decidable.not_not, beq_iff_eq, bne_iff_ne] at hc11
                      exfalso; first | (simp [eqLits, litBeq] at hc11; done) | (simp_all [eqLits, litBeq]; done)
                    · intro hc11
                      try simp only [decide_eq_true_eq, decide_eq_false_iff_not, Bool.not_eq_true', Bool.not_eq_false', Bool.not_eq_true, Bool.not_eq_false, Bool.and_eq_true, Bool.or_eq_true, Bool.and_eq_false_iff, Bool.or_eq_false_iff, Bool.not_not, ne_eq, Int.not_lt, Int.not_le, Decidable.not_not, beq_iff_eq, bne_iff_ne] at hc11
                      refine wp_skip ?_
                      refine blk_normal ?_
                      refine then_normal ?_
                      refine c_region ?_
                      first | refine wl (wl_val hl rfl trivial (r_add hl rfl rfl (by simp only [Fits]; omega)) ?_) | refine wl (wl_val hl rfl trivial (r_addW hl rfl rfl) ?_)
                      clear hl a; intro a hl
                      refine wl (wl_val hl rfl trivial (r_move hl rfl) ?_)
                      clear hl a; intro a hl
                      refine w_nil ?_
                      have hl2 := hl.add (t := 3) (hl.add (t := 5) (hl.add (t := 23) (hl.add (t := 24) (hl.add (t := 25) (hl.nil) rfl) rfl) rfl) rfl) rfl; clear hl; have hl := hl2; clear hl2
                      refine then_normal ?_
                      refine ⟨⟨s.i + 1, (doF s.f ⟨kd2, x2, A2, B2, E2, D2⟩).f, fl2, keepF s.rs ⟨kd2, x2, A2, B2, E2, D2⟩ (doF s.f ⟨kd2, x2, A2, B2, E2, D2⟩).ans, rv2, E3⟩, (by dsimp only; omega), hI.next hi hok hI2 hR2, hl.addE (t := 25) (hl.addE (t := 3) (hl.addE (t := 5) (hl.addE (t := 23) (hl.addE (t := 24) (hl.nil) rfl (by first | rfl | rfl)) rfl (by first | rfl | rfl)) rfl (by first | rfl | rfl)) rfl (by first | rfl | rfl)) rfl (by first | rfl | rfl), (by simp only [List.cons_append, List.nil_append, List.append_nil]; exact hh.keep (by repeat (first | exact keeps_nil | apply keeps_cons (by repeat (first | exact find_head | apply find_tail)) (by first  | exact arr_obj (fun i hi => by first | (simp only [hfk, wV, updV, word_setWord]; done) | (simp only [hfk, wV, updV, word_setWord]; (repeat' split) <;> first | rfl | omega | (simp_all; done)) | (simp only [wV]; rw [hfk i hi])) | rfl) | exact keeps_self | apply keeps_mv)))⟩
                  · intro hc7
                    try simp only [decide_eq_true_eq, decide_eq_false_iff_not, Bool.not_eq_true', Bool.not_eq_false', Bool.not_eq_true, Bool.not_eq_false, Bool.and_eq_true, Bool.or_eq_true, Bool.and_eq_false_iff, Bool.or_eq_false_iff, Bool.not_not, ne_eq, Int.not_lt, Int.not_le, Decidable.not_not, beq_iff_eq, bne_iff_ne] at hc7
                    rw [if_neg (by assumption)] at hfk
                    refine wp_skip ?_
                    refine blk_normal ?_
                    refine then_normal ?_
                    refine c_seq ?_
                    refine c_region ?_
                    first | refine wl (w_loadA hl hh rfl trivial agg44 rfl (by repeat (first | exact find_head | apply find_tail)) (by first | (simp only [List.getElem?_cons_zero, List.getElem?_cons_succ, Value.cells, List.take_zero, List.take_succ_cons, List.take_nil, List.drop_zero, List.drop_succ_cons, List.drop_nil, List.length_cons, List.length_nil, List.cons_append, List.nil_append, List.append_nil, Nat.zero_add, Nat.add_zero, Nat.reduceAdd, Nat.reduceBEq, Nat.reduceEqDiff, Nat.ble, BEq.rfl, Bool.and_true, Bool.and_self, cond_true, beq_self_eq_true]; rfl)) (by first | rfl | (simp; done)) ?_) | refine wl (w_loadRA hl hh rfl trivial agg44 rfl hm (by simp) hqv rfl ?_)
                    clear hl a; intro a hl
                    first | refine wl (w_loadA hl hh rfl trivial agg44 rfl (by repeat (first | exact find_head | apply find_tail)) (by first | (simp only [List.getElem?_cons_zero, List.getElem?_cons_succ, Value.cells, List.take_zero, List.take_succ_cons, List.take_nil, List.drop_zero, List.drop_succ_cons, List.drop_nil, List.length_cons, List.length_nil, List.cons_append, List.nil_append, List.append_nil, Nat.zero_add, Nat.add_zero, Nat.reduceAdd, Nat.reduceBEq, Nat.reduceEqDiff, Nat.ble, BEq.rfl, Bool.and_true, Bool.and_self, cond_true, beq_self_eq_true]; rfl)) (by first | rfl | (simp; done)) ?_) | refine wl (w_loadRA hl hh rfl trivial agg44 rfl hm (by simp) hqv rfl ?_)
                    clear hl a; intro a hl
                    refine wl (wl_val hl rfl trivial (r_neqA hl rfl rfl eqf44 shp44 (by simp only [unlitL, unlit]; rfl) (by simp only [unlitL, unlit]; rfl) (by first | exact ⟨trivial⟩ | (refine ⟨?_⟩; simp [LitsOk, litOk, Fits]; done) | (refine ⟨?_⟩; simp [LitsOk, litOk, Fits]; omega)) (by first | exact ⟨trivial⟩ | (refine ⟨?_⟩; simp [LitsOk, litOk, Fits]; done) | (refine ⟨?_⟩; simp [LitsOk, litOk, Fits]; omega))) ?_)
                    clear hl a; intro a hl
                    refine w_nil ?_
                    have hl2 := hl.add (t := 3) (hl.add (t := 5) (hl.add (t := 23) (hl.add (t := 24) (hl.add (t := 25) (hl.add (t := 132) (hl.nil) rfl) rfl) rfl) rfl) rfl) rfl; clear hl; have hl := hl2; clear hl2
                    refine then_normal ?_
                    refine c_cond hl rfl ?_ ?_
                    · intro hc11
                      try simp only [decide_eq_true_eq, decide_eq_false_iff_not, Bool.not_eq_true', Bool.not_eq_false', Bool.not_eq_true, Bool.not_eq_false, Bool.and_eq_true, Bool.or_eq_true, Bool.and_eq_false_iff, Bool.or_eq_false_iff, Bool.not_not, ne_eq, Int.not_lt, Int.not_le, Decidable.not_not, beq_iff_eq, bne_iff_ne] at hc11
                      exfalso; first | (simp [eqLits, litBeq] at hc11; done) | (simp_all [eqLits, litBeq]; done)
                    · intro hc11
                      try simp only [decide_eq_true_eq, decide_eq_false_iff_not, Bool.not_eq_true', Bool.not_eq_false', Bool.not_eq_true, Bool.not_eq_false, Bool.and_eq_true, Bool.or_eq_true, Bool.and_eq_false_iff, Bool.or_eq_false_iff, Bool.not_not, ne_eq, Int.not_lt, Int.not_le, Decidable.not_not, beq_iff_eq, bne_iff_ne] at hc11
                      refine wp_skip ?_
                      refine blk_normal ?_
                      refine then_normal ?_
                      refine c_region ?_
                      first | refine wl (wl_val hl rfl trivial (r_add hl rfl rfl (by simp only [Fits]; omega)) ?_) | refine wl (wl_val hl rfl trivial (r_addW hl rfl rfl) ?_)
                      clear hl a; intro a hl
                      refine wl (wl_val hl rfl trivial (r_move hl rfl) ?_)
                      clear hl a; intro a hl
                      refine w_nil ?_
                      have hl2 := hl.add (t := 3) (hl.add (t := 5) (hl.add (t := 23) (hl.add (t := 24) (hl.add (t := 25) (hl.nil) rfl) rfl) rfl) rfl) rfl; clear hl; have hl := hl2; clear hl2
                      refine then_normal ?_
                      refine ⟨⟨s.i + 1, (doF s.f ⟨kd2, x2, A2, B2, E2, D2⟩).f, fl2, keepF s.rs ⟨kd2, x2, A2, B2, E2, D2⟩ (doF s.f ⟨kd2, x2, A2, B2, E2, D2⟩).ans, rv2, E3⟩, (by dsimp only; omega), hI.next hi hok hI2 hR2, hl.addE (t := 25) (hl.addE (t := 3) (hl.addE (t := 5) (hl.addE (t := 23) (hl.addE (t := 24) (hl.nil) rfl (by first | rfl | rfl)) rfl (by first | rfl | rfl)) rfl (by first | rfl | rfl)) rfl (by first | rfl | rfl)) rfl (by first | rfl | rfl), (by simp only [List.cons_append, List.nil_append, List.append_nil]; exact hh.keep (by repeat (first | exact keeps_nil | apply keeps_cons (by repeat (first | exact find_head | apply find_tail)) (by first  | exact arr_obj (fun i hi => by first | (simp only [hfk, wV, updV, word_setWord]; done) | (simp only [hfk, wV, updV, word_setWord]; (repeat' split) <;> first | rfl | omega | (simp_all; done)) | (simp only [wV]; rw [hfk i hi])) | rfl) | exact keeps_self | apply keeps_mv)))⟩
                · intro hc6
                  try simp only [decide_eq_true_eq, decide_eq_false_iff_not, Bool.not_eq_true', Bool.not_eq_false', Bool.not_eq_true, Bool.not_eq_false, Bool.and_eq_true, Bool.or_eq_true, Bool.and_eq_false_iff, Bool.or_eq_false_iff, Bool.not_not, ne_eq, Int.not_lt, Int.not_le, Decidable.not_not, beq_iff_eq, bne_iff_ne] at hc6
                  refine c_seq ?_
                  refine c_region ?_
                  refine wl (wl_val hl rfl trivial (r_eql hl rfl rfl) ?_)
                  clear hl a; intro a hl
                  refine wl (wl_val hl rfl trivial (r_assign hl rfl) ?_)
                  clear hl a; intro a hl
                  refine w_nil ?_
                  have hl2 := hl.add (t := 3) (hl.add (t := 5) (hl.add (t := 8) (hl.add (t := 9) (hl.add (t := 10) (hl.add (t := 11) (hl.add (t := 23) (hl.add (t := 24) (hl.add (t := 25) (hl.add (t := 64) (hl.add (t := 87) (hl.nil) rfl) rfl) rfl) rfl) rfl) rfl) rfl) rfl) rfl) rfl) rfl; clear hl; have hl := hl2; clear hl2
                  refine then_normal ?_
                  refine c_cond hl rfl ?_ ?_
                  · intro hc8
                    try simp only [decide_eq_true_eq, decide_eq_false_iff_not, Bool.not_eq_true', Bool.not_eq_false', Bool.not_eq_true, Bool.not_eq_false, Bool.and_eq_true, Bool.or_eq_true, Bool.and_eq_false_iff, Bool.or_eq_false_iff, Bool.not_not, ne_eq, Int.not_lt, Int.not_le, Decidable.not_not, beq_iff_eq, bne_iff_ne] at hc8
                    obtain ⟨ha, hfk⟩ := doF_3 s.f ⟨kd2, x2, A2, B2, E2, D2⟩ (by simp only; omega) hx
                    rw [hr] at ha
                    try simp only at hfk
                    injection ha with e0 e1 e2 e3
                    subst e0; subst e1; subst e2; subst e3
                    refine c_draw [(k5, C (arrL 4096 (wV s.f)) 58), (k8, C [.int .u8 kd2, .int .u32 x2, .int .u64 A2, .int .u64 B2, .int .u64 E2, .int .u64 D2] 36)] [5, 6, 7] mixed hh ?_
                    clear hh w; intro w hh
                    have hM : Mem [(k5, C (arrL 4096 (wV s.f)) 58), (k8, C [.int .u8 kd2, .int .u32 x2, .int .u64 A2, .int .u64 B2, .int .u64 E2, .int .u64 D2] 36)] w := (by repeat (first | exact Mem.nil | refine Mem.cons hh.mem (by repeat (first | exact find_head | apply find_tail)) ?_ | refine Mem.consR hh (by assumption) (by simp) ?_))
                    refine d_take (i := 0) hl rfl (by kernel_rfl) (by kernel_rfl) (by kernel_rfl) (by kernel_rfl) (by kernel_rfl) rfl trivial (fun _ _ _ h => h) hM (fun w hC => r_move hl rfl) rfl ?_
                    clear hl a; intro a hl
                    refine d_take (i := 1) hl rfl (by kernel_rfl) (by kernel_rfl) (by kernel_rfl) (by kernel_rfl) (by kernel_rfl) rfl trivial (fun _ _ _ h => h) hM (fun w hC => r_indexA hl rfl rfl arr58 (by omega) (by omega) (by first | (simp only [Int.reduceToNat]; rfl) | exact toNat_add1 _ | exact toNat_add2 _ _ | exact toNat_emod _ _ | exact Int.toNat_natCast _ | rfl)) rfl ?_
                    clear hl a; intro a hl
                    refine d_take (i := 2) hl rfl (by kernel_rfl) (by kernel_rfl) (by kernel_rfl) (by kernel_rfl) (by kernel_rfl) rfl trivial (fun _ _ _ h => h) hM (fun w hC => r_loadC hl rfl one27 hC (by repeat (first | exact find_head | apply find_tail)) (by exact arr_load (by omega))) rfl ?_
                    clear hl a; intro a hl
                    refine d_take (i := 3) hl rfl (by kernel_rfl) (by kernel_rfl) (by kernel_rfl) (by kernel_rfl) (by kernel_rfl) rfl trivial (fun _ _ _ h => h) hM (fun w hC => r_field hl rfl fld36_2) rfl ?_
                    clear hl a; intro a hl
                    refine d_take (i := 4) hl rfl (by kernel_rfl) (by kernel_rfl) (by kernel_rfl) (by kernel_rfl) (by kernel_rfl) rfl trivial (fun _ _ _ h => h) hM (fun w hC => r_loadC hl rfl one27 hC (by repeat (first | exact find_head | apply find_tail)) (by first | rfl)) rfl ?_
                    clear hl a; intro a hl
                    first | refine d_takeL (i := 5) hl rfl (by kernel_rfl) (by kernel_rfl) (by kernel_rfl) (by kernel_rfl) (by kernel_rfl) rfl trivial (fun _ _ _ h => h) (fun w => r_add hl rfl rfl (by simp only [Fits]; omega)) rfl ?_ | refine d_takeL (i := 5) hl rfl (by kernel_rfl) (by kernel_rfl) (by kernel_rfl) (by kernel_rfl) (by kernel_rfl) rfl trivial (fun _ _ _ h => h) (fun w => r_addW hl rfl rfl) rfl ?_
                    clear hl a; intro a hl
                    refine d_takeL (i := 6) hl rfl (by kernel_rfl) (by kernel_rfl) (by kernel_rfl) (by kernel_rfl) (by kernel_rfl) rfl trivial (fun _ _ _ h => h) (fun w => r_indexA hl rfl rfl arr58 (by omega) (by omega) (by first | (simp only [Int.reduceToNat]; rfl) | exact toNat_add1 _ | exact toNat_add2 _ _ | exact toNat_emod _ _ | exact Int.toNat_natCast _ | rfl)) rfl ?_
                    clear hl a; intro a hl
                    refine d_one (i := 7) (by kernel_rfl) rfl ?_
                    try clear hM
                    refine id (w_store hl hh trivial one27 rfl rfl (by repeat (first | exact find_head | apply find_tail)) (by rw [arrL_length]; omega) (by first | rfl | (apply Row.one; assumption)) (by exact arr_store (by omega)) ?_)
                    clear hh w; intro w hh
                    refine d_step (fun h => absurd h (by decide)) ?_
                    refine d_done (by kernel_rfl) ?_
                    try clear hM
                    have hl2 := hl.add (t := 3) (hl.add (t := 5) (hl.add (t := 9) (hl.add (t := 11) (hl.add (t := 23) (hl.add (t := 24) (hl.add (t := 25) (hl.nil) rfl) rfl) rfl) rfl) rfl) rfl) rfl; clear hl; have hl := hl2; clear hl2
                    refine blk_normal ?_
                    refine then_normal ?_
                    refine c_seq ?_
                    refine c_region ?_
                    first | refine wl (w_loadA hl hh rfl trivial agg44 rfl (by repeat (first | exact find_head | apply find_tail)) (by first | (simp only [List.getElem?_cons_zero, List.getElem?_cons_succ, Value.cells, List.take_zero, List.take_succ_cons, List.take_nil, List.drop_zero, List.drop_succ_cons, List.drop_nil, List.length_cons, List.length_nil, List.cons_append, List.nil_append, List.append_nil, Nat.zero_add, Nat.add_zero, Nat.reduceAdd, Nat.reduceBEq, Nat.reduceEqDiff, Nat.ble, BEq.rfl, Bool.and_true, Bool.and_self, cond_true, beq_self_eq_true]; rfl)) (by first | rfl | (simp; done)) ?_) | refine wl (w_loadRA hl hh rfl trivial agg44 rfl hm (by simp) hqv rfl ?_)
                    clear hl a; intro a hl
                    first | refine wl (w_loadA hl hh rfl trivial agg44 rfl (by repeat (first | exact find_head | apply find_tail)) (by first | (simp only [List.getElem?_cons_zero, List.getElem?_cons_succ, Value.cells, List.take_zero, List.take_succ_cons, List.take_nil, List.drop_zero, List.drop_succ_cons, List.drop_nil, List.length_cons, List.length_nil, List.cons_append, List.nil_append, List.append_nil, Nat.zero_add, Nat.add_zero, Nat.reduceAdd, Nat.reduceBEq, Nat.reduceEqDiff, Nat.ble, BEq.rfl, Bool.and_true, Bool.and_self, cond_true, beq_self_eq_true]; rfl)) (by first | rfl | (simp; done)) ?_) | refine wl (w_loadRA hl hh rfl trivial agg44 rfl hm (by simp) hqv rfl ?_)
                    clear hl a; intro a hl
                    refine wl (wl_val hl rfl trivial (r_neqA hl rfl rfl eqf44 shp44 (by simp only [unlitL, unlit]; rfl) (by simp only [unlitL, unlit]; rfl) (by first | exact ⟨trivial⟩ | (refine ⟨?_⟩; simp [LitsOk, litOk, Fits]; done) | (refine ⟨?_⟩; simp [LitsOk, litOk, Fits]; omega)) (by first | exact ⟨trivial⟩ | (refine ⟨?_⟩; simp [LitsOk, litOk, Fits]; done) | (refine ⟨?_⟩; simp [LitsOk, litOk, Fits]; omega))) ?_)
                    clear hl a; intro a hl
                    refine w_nil ?_
                    have hl2 := hl.add (t := 3) (hl.add (t := 5) (hl.add (t := 23) (hl.add (t := 24) (hl.add (t := 25) (hl.add (t := 132) (hl.nil) rfl) rfl) rfl) rfl) rfl) rfl; clear hl; have hl := hl2; clear hl2
                    refine then_normal ?_
                    refine c_cond hl rfl ?_ ?_
                    · intro hc11
                      try simp only [decide_eq_true_eq, decide_eq_false_iff_not, Bool.not_eq_true', Bool.not_eq_false', Bool.not_eq_true, Bool.not_eq_false, Bool.and_eq_true, Bool.or_eq_true, Bool.and_eq_false_iff, Bool.or_eq_false_iff, Bool.not_not, ne_eq, Int.not_lt, Int.not_le, Decidable.not_not, beq_iff_eq, bne_iff_ne] at hc11
                      exfalso; first | (simp [eqLits, litBeq] at hc11; done) | (simp_all [eqLits, litBeq]; done)
                    · intro hc11
                      try simp only [decide_eq_true_eq, decide_eq_false_iff_not, Bool.not_eq_true', Bool.not_eq_false', Bool.not_eq_true, Bool.not_eq_false, Bool.and_eq_true, Bool.or_eq_true, Bool.and_eq_false_iff, Bool.or_eq_false_iff, Bool.not_not, ne_eq, Int.not_lt, Int.not_le, Decidable.not_not, beq_iff_eq, bne_iff_ne] at hc11
                      refine wp_skip ?_
                      refine blk_normal ?_
                      refine then_normal ?_
                      refine c_region ?_
                      first | refine wl (wl_val hl rfl trivial (r_add hl rfl rfl (by simp only [Fits]; omega)) ?_) | refine wl (wl_val hl rfl trivial (r_addW hl rfl rfl) ?_)
                      clear hl a; intro a hl
                      refine wl (wl_val hl rfl trivial (r_move hl rfl) ?_)
                      clear hl a; intro a hl
                      refine w_nil ?_
                      have hl2 := hl.add (t := 3) (hl.add (t := 5) (hl.add (t := 23) (hl.add (t := 24) (hl.add (t := 25) (hl.nil) rfl) rfl) rfl) rfl) rfl; clear hl; have hl := hl2; clear hl2
                      refine then_normal ?_
                      refine ⟨⟨s.i + 1, (doF s.f ⟨kd2, x2, A2, B2, E2, D2⟩).f, fl2, keepF s.rs ⟨kd2, x2, A2, B2, E2, D2⟩ (doF s.f ⟨kd2, x2, A2, B2, E2, D2⟩).ans, rv2, E3⟩, (by dsimp only; omega), hI.next hi hok hI2 hR2, hl.addE (t := 25) (hl.addE (t := 3) (hl.addE (t := 5) (hl.addE (t := 23) (hl.addE (t := 24) (hl.nil) rfl (by first | rfl | rfl)) rfl (by first | rfl | rfl)) rfl (by first | rfl | rfl)) rfl (by first | rfl | rfl)) rfl (by first | rfl | rfl), (by simp only [List.cons_append, List.nil_append, List.append_nil]; exact hh.keep (by repeat (first | exact keeps_nil | apply keeps_cons (by repeat (first | exact find_head | apply find_tail)) (by first  | exact arr_obj (fun i hi => by first | (simp only [hfk, wV, updV, word_setWord]; done) | (simp only [hfk, wV, updV, word_setWord]; (repeat' split) <;> first | rfl | omega | (simp_all; done)) | (simp only [wV]; rw [hfk i hi])) | rfl) | exact keeps_self | apply keeps_mv)))⟩
                  · intro hc8
                    try simp only [decide_eq_true_eq, decide_eq_false_iff_not, Bool.not_eq_true', Bool.not_eq_false', Bool.not_eq_true, Bool.not_eq_false, Bool.and_eq_true, Bool.or_eq_true, Bool.and_eq_false_iff, Bool.or_eq_false_iff, Bool.not_not, ne_eq, Int.not_lt, Int.not_le, Decidable.not_not, beq_iff_eq, bne_iff_ne] at hc8
                    refine c_seq ?_
                    refine c_region ?_
                    refine wl (wl_val hl rfl trivial (r_eql hl rfl rfl) ?_)
                    clear hl a; intro a hl
                    refine wl (wl_val hl rfl trivial (r_assign hl rfl) ?_)
                    clear hl a; intro a hl
                    refine w_nil ?_
                    have hl2 := hl.add (t := 3) (hl.add (t := 5) (hl.add (t := 8) (hl.add (t := 9) (hl.add (t := 10) (hl.add (t := 11) (hl.add (t := 23) (hl.add (t := 24) (hl.add (t := 25) (hl.add (t := 96) (hl.nil) rfl) rfl) rfl) rfl) rfl) rfl) rfl) rfl) rfl) rfl; clear hl; have hl := hl2; clear hl2
                    refine then_normal ?_
                    refine c_cond hl rfl ?_ ?_
                    · intro hc9
                      try simp only [decide_eq_true_eq, decide_eq_false_iff_not, Bool.not_eq_true', Bool.not_eq_false', Bool.not_eq_true, Bool.not_eq_false, Bool.and_eq_true, Bool.or_eq_true, Bool.and_eq_false_iff, Bool.or_eq_false_iff, Bool.not_not, ne_eq, Int.not_lt, Int.not_le, Decidable.not_not, beq_iff_eq, bne_iff_ne] at hc9
                      obtain ⟨ha, hfk⟩ := doF_4 s.f ⟨kd2, x2, A2, B2, E2, D2⟩ (by simp only; omega) hx (by simp only; omega)
                      rw [hr] at ha
                      try simp only at hfk
                      injection ha with e0 e1 e2 e3
                      subst e0; subst e1; subst e2; subst e3
                      have hwd1 := hI.inv.words (x2 + 1) (by omega)
                      simp only [Fits] at hwd1
                      refine c_seq ?_
                      refine c_region ?_
                      refine wl (wl_val hl rfl trivial (r_move hl rfl) ?_)
                      clear hl a; intro a hl
                      first | refine wl (wl_val hl rfl trivial (r_add hl rfl rfl (by simp only [Fits]; omega)) ?_) | refine wl (wl_val hl rfl trivial (r_addW hl rfl rfl) ?_)
                      clear hl a; intro a hl
                      refine wl (wl_val hl rfl trivial (r_indexA hl rfl rfl arr58 (by omega) (by omega) (by first | (simp only [Int.reduceToNat]; rfl) | exact toNat_add1 _ | exact toNat_add2 _ _ | exact toNat_emod _ _ | exact Int.toNat_natCast _ | rfl)) ?_)
                      clear hl a; intro a hl
                      refine wl (w_load hl hh rfl trivial one27 rfl (by repeat (first | exact find_head | apply find_tail)) (by exact arr_load (by omega)) ?_)
                      clear hl a; intro a hl
                      refine wl (wl_val hl rfl trivial (r_field hl rfl fld44_3) ?_)
                      clear hl a; intro a hl
                      refine wl (w_store hl hh trivial one27 rfl rfl (by repeat (first | exact find_head | apply find_tail)) (by first | (simp; done) | (simp; omega)) (by first | rfl | (apply Row.one; assumption)) (by first | (simp only [setL, List.getElem?_cons_zero, List.getElem?_cons_succ, Value.cells, List.take_zero, List.take_succ_cons, List.take_nil, List.drop_zero, List.drop_succ_cons, List.drop_nil, List.length_cons, List.length_nil, List.cons_append, List.nil_append, List.append_nil, Nat.zero_add, Nat.add_zero, Nat.reduceAdd, Nat.reduceBEq, Nat.reduceEqDiff, Nat.ble, BEq.rfl, Bool.and_true, Bool.and_self, cond_true, beq_self_eq_true]; rfl)) ?_)
                      clear hh w; intro w hh
                      refine w_nil ?_
                      have hl2 := hl.add (t := 3) (hl.add (t := 5) (hl.add (t := 8) (hl.add (t := 9) (hl.add (t := 10) (hl.add (t := 11) (hl.add (t := 23) (hl.add (t := 24) (hl.add (t := 25) (hl.nil) rfl) rfl) rfl) rfl) rfl) rfl) rfl) rfl) rfl; clear hl; have hl := hl2; clear hl2
                      refine then_normal ?_
                      refine c_seq ?_
                      refine c_draw [(k5, C (arrL 4096 (wV s.f)) 58), (k8, C [.int .u8 kd2, .int .u32 x2, .int .u64 A2, .int .u64 B2, .int .u64 E2, .int .u64 D2] 36)] [13, 14, 15, 16] mixed hh ?_
                      clear hh w; intro w hh
                      have hM : Mem [(k5, C (arrL 4096 (wV s.f)) 58), (k8, C [.int .u8 kd2, .int .u32 x2, .int .u64 A2, .int .u64 B2, .int .u64 E2, .int .u64 D2] 36)] w := (by repeat (first | exact Mem.nil | refine Mem.cons hh.mem (by repeat (first | exact find_head | apply find_tail)) ?_ | refine Mem.consR hh (by assumption) (by simp) ?_))
                      refine d_take (i := 0) hl rfl (by kernel_rfl) (by kernel_rfl) (by kernel_rfl) (by kernel_rfl) (by kernel_rfl) rfl trivial (fun _ _ _ h => h) hM (fun w hC => r_move hl rfl) rfl ?_
                      clear hl a; intro a hl
                      refine d_take (i := 1) hl rfl (by kernel_rfl) (by kernel_rfl) (by kernel_rfl) (by kernel_rfl) (by kernel_rfl) rfl trivial (fun _ _ _ h => h) hM (fun w hC => r_indexA hl rfl rfl arr58 (by omega) (by omega) (by first | (simp only [Int.reduceToNat]; rfl) | exact toNat_add1 _ | exact toNat_add2 _ _ | exact toNat_emod _ _ | exact Int.toNat_natCast _ | rfl)) rfl ?_
                      clear hl a; intro a hl
                      refine d_take (i := 2) hl rfl (by kernel_rfl) (by kernel_rfl) (by kernel_rfl) (by kernel_rfl) (by kernel_rfl) rfl trivial (fun _ _ _ h => h) hM (fun w hC => r_loadC hl rfl one27 hC (by repeat (first | exact find_head | apply find_tail)) (by exact arr_load (by omega))) rfl ?_
                      clear hl a; intro a hl
                      refine d_take (i := 3) hl rfl (by kernel_rfl) (by kernel_rfl) (by kernel_rfl) (by kernel_rfl) (by kernel_rfl) rfl trivial (fun _ _ _ h => h) hM (fun w hC => r_field hl rfl fld36_2) rfl ?_
                      clear hl a; intro a hl
                      refine d_take (i := 4) hl rfl (by kernel_rfl) (by kernel_rfl) (by kernel_rfl) (by kernel_rfl) (by kernel_rfl) rfl trivial (fun _ _ _ h => h) hM (fun w hC => r_loadC hl rfl one27 hC (by repeat (first | exact find_head | apply find_tail)) (by first | rfl)) rfl ?_
                      clear hl a; intro a hl
                      refine d_take (i := 5) hl rfl (by kernel_rfl) (by kernel_rfl) (by kernel_rfl) (by kernel_rfl) (by kernel_rfl) rfl trivial (fun _ _ _ h => h) hM (fun w hC => r_eql hl rfl rfl) rfl ?_
                      clear hl a; intro a hl
                      refine d_take (i := 6) hl rfl (by kernel_rfl) (by kernel_rfl) (by kernel_rfl) (by kernel_rfl) (by kernel_rfl) rfl trivial (fun _ _ _ h => h) hM (fun w hC => r_move hl rfl) rfl ?_
                      clear hl a; intro a hl
                      refine sl_split (t := 109) hl rfl ?_ ?_
                      · intro hg4; clear hl; intro hl
                        try simp only [decide_eq_true_eq, decide_eq_false_iff_not, Bool.not_eq_true', Bool.not_eq_false', Bool.not_eq_true, Bool.not_eq_false, Bool.and_eq_true, Bool.or_eq_true, Bool.and_eq_false_iff, Bool.or_eq_false_iff, Bool.not_not, ne_eq, Int.not_lt, Int.not_le, Decidable.not_not, beq_iff_eq, bne_iff_ne] at hg4
                        refine d_take (i := 7) hl rfl (by kernel_rfl) (by kernel_rfl) (by kernel_rfl) (by kernel_rfl) (by kernel_rfl) rfl ⟨_, _, rfl, rfl, rfl⟩ (fun _ _ _ h => h) hM (fun w hC => r_move hl rfl) rfl ?_
                        clear hl a; intro a hl
                        first | refine d_take (i := 8) hl rfl (by kernel_rfl) (by kernel_rfl) (by kernel_rfl) (by kernel_rfl) (by kernel_rfl) rfl ⟨_, _, rfl, rfl, rfl⟩ (fun _ _ _ h => h) hM (fun w hC => r_add hl rfl rfl (by simp only [Fits]; omega)) rfl ?_ | refine d_take (i := 8) hl rfl (by kernel_rfl) (by kernel_rfl) (by kernel_rfl) (by kernel_rfl) (by kernel_rfl) rfl ⟨_, _, rfl, rfl, rfl⟩ (fun _ _ _ h => h) hM (fun w hC => r_addW hl rfl rfl) rfl ?_
                        clear hl a; intro a hl
                        refine d_take (i := 9) hl rfl (by kernel_rfl) (by kernel_rfl) (by kernel_rfl) (by kernel_rfl) (by kernel_rfl) rfl ⟨_, _, rfl, rfl, rfl⟩ (fun _ _ _ h => h) hM (fun w hC => r_indexA hl rfl rfl arr58 (by omega) (by omega) (by first | (simp only [Int.reduceToNat]; rfl) | exact toNat_add1 _ | exact toNat_add2 _ _ | exact toNat_emod _ _ | exact Int.toNat_natCast _ | rfl)) rfl ?_
                        clear hl a; intro a hl
                        refine d_take (i := 10) hl rfl (by kernel_rfl) (by kernel_rfl) (by kernel_rfl) (by kernel_rfl) (by kernel_rfl) rfl ⟨_, _, rfl, rfl, rfl⟩ (fun _ _ _ h => h) hM (fun w hC => r_loadC hl rfl one27 hC (by repeat (first | exact find_head | apply find_tail)) (by exact arr_load (by omega))) rfl ?_
                        clear hl a; intro a hl
                        refine d_take (i := 11) hl rfl (by kernel_rfl) (by kernel_rfl) (by kernel_rfl) (by kernel_rfl) (by kernel_rfl) rfl ⟨_, _, rfl, rfl, rfl⟩ (fun _ _ _ h => h) hM (fun w hC => r_field hl rfl fld36_3) rfl ?_
                        clear hl a; intro a hl
                        refine d_take (i := 12) hl rfl (by kernel_rfl) (by kernel_rfl) (by kernel_rfl) (by kernel_rfl) (by kernel_rfl) rfl ⟨_, _, rfl, rfl, rfl⟩ (fun _ _ _ h => h) hM (fun w hC => r_loadC hl rfl one27 hC (by repeat (first | exact find_head | apply find_tail)) (by first | rfl)) rfl ?_
                        clear hl a; intro a hl
                        refine d_takeL (i := 13) hl rfl (by kernel_rfl) (by kernel_rfl) (by kernel_rfl) (by kernel_rfl) (by kernel_rfl) rfl ⟨_, _, rfl, rfl, rfl⟩ (fun _ _ _ h => h) (fun w => r_eql hl rfl rfl) rfl ?_
                        clear hl a; intro a hl
                        refine d_takeL (i := 14) hl rfl (by kernel_rfl) (by kernel_rfl) (by kernel_rfl) (by kernel_rfl) (by kernel_rfl) rfl trivial (fun _ _ _ h => h) (fun w => r_pickT hl rfl rfl) rfl ?_
                        clear hl a; intro a hl
                        refine d_takeL (i := 15) hl rfl (by kernel_rfl) (by kernel_rfl) (by kernel_rfl) (by kernel_rfl) (by kernel_rfl) rfl trivial (fun _ _ _ h => h) (fun w => r_field hl rfl fld44_1) rfl ?_
                        clear hl a; intro a hl
                        refine d_one (i := 16) (by kernel_rfl) rfl ?_
                        try clear hM
                        refine id (w_store hl hh trivial one4 rfl rfl (by repeat (first | exact find_head | apply find_tail)) (by first | (simp; done) | (simp; omega)) (by first | rfl | (apply Row.one; assumption)) (by first | (simp only [setL, List.getElem?_cons_zero, List.getElem?_cons_succ, Value.cells, List.take_zero, List.take_succ_cons, List.take_nil, List.drop_zero, List.drop_succ_cons, List.drop_nil, List.length_cons, List.length_nil, List.cons_append, List.nil_append, List.append_nil, Nat.zero_add, Nat.add_zero, Nat.reduceAdd, Nat.reduceBEq, Nat.reduceEqDiff, Nat.ble, BEq.rfl, Bool.and_true, Bool.and_self, cond_true, beq_self_eq_true]; rfl)) ?_)
                        clear hh w; intro w hh
                        refine d_step (fun h => absurd h (by decide)) ?_
                        refine d_done (by kernel_rfl) ?_
                        try clear hM
                        have hl2 := hl.add (t := 3) (hl.add (t := 5) (hl.add (t := 8) (hl.add (t := 9) (hl.add (t := 10) (hl.add (t := 11) (hl.add (t := 23) (hl.add (t := 24) (hl.add (t := 25) (hl.nil) rfl) rfl) rfl) rfl) rfl) rfl) rfl) rfl) rfl; clear hl; have hl := hl2; clear hl2
                        refine then_normal ?_
                        refine c_seq ?_
                        refine c_region ?_
                        refine wl (wl_val hl rfl trivial (r_field hl rfl fld44_1) ?_)
                        clear hl a; intro a hl
                        refine wl (w_load hl hh rfl trivial one4 rfl (by repeat (first | exact find_head | apply find_tail)) (by first | rfl) ?_)
                        clear hl a; intro a hl
                        refine w_nil ?_
                        have hl2 := hl.add (t := 3) (hl.add (t := 5) (hl.add (t := 8) (hl.add (t := 9) (hl.add (t := 10) (hl.add (t := 11) (hl.add (t := 23) (hl.add (t := 24) (hl.add (t := 25) (hl.add (t := 120) (hl.nil) rfl) rfl) rfl) rfl) rfl) rfl) rfl) rfl) rfl) rfl; clear hl; have hl := hl2; clear hl2
                        refine then_normal ?_
                        refine c_cond hl rfl ?_ ?_
                        · intro hc10
                          try simp only [decide_eq_true_eq, decide_eq_false_iff_not, Bool.not_eq_true', Bool.not_eq_false', Bool.not_eq_true, Bool.not_eq_false, Bool.and_eq_true, Bool.or_eq_true, Bool.and_eq_false_iff, Bool.or_eq_false_iff, Bool.not_not, ne_eq, Int.not_lt, Int.not_le, Decidable.not_not, beq_iff_eq, bne_iff_ne] at hc10
                          rw [if_pos (by simp_all)] at hfk
                          refine c_draw [(k8, C [.int .u8 kd2, .int .u32 x2, .int .u64 A2, .int .u64 B2, .int .u64 E2, .int .u64 D2] 36)] [9, 10] mixed hh ?_
                          clear hh w; intro w hh
                          have hM : Mem [(k8, C [.int .u8 kd2, .int .u32 x2, .int .u64 A2, .int .u64 B2, .int .u64 E2, .int .u64 D2] 36)] w := (by repeat (first | exact Mem.nil | refine Mem.cons hh.mem (by repeat (first | exact find_head | apply find_tail)) ?_ | refine Mem.consR hh (by assumption) (by simp) ?_))
                          refine d_take (i := 0) hl rfl (by kernel_rfl) (by kernel_rfl) (by kernel_rfl) (by kernel_rfl) (by kernel_rfl) rfl trivial (fun _ _ _ h => h) hM (fun w hC => r_move hl rfl) rfl ?_
                          clear hl a; intro a hl
                          refine d_take (i := 1) hl rfl (by kernel_rfl) (by kernel_rfl) (by kernel_rfl) (by kernel_rfl) (by kernel_rfl) rfl trivial (fun _ _ _ h => h) hM (fun w hC => r_move hl rfl) rfl ?_
                          clear hl a; intro a hl
                          first | refine d_take (i := 2) hl rfl (by kernel_rfl) (by kernel_rfl) (by kernel_rfl) (by kernel_rfl) (by kernel_rfl) rfl trivial (fun _ _ _ h => h) hM (fun w hC => r_add hl rfl rfl (by simp only [Fits]; omega)) rfl ?_ | refine d_take (i := 2) hl rfl (by kernel_rfl) (by kernel_rfl) (by kernel_rfl) (by kernel_rfl) (by kernel_rfl) rfl trivial (fun _ _ _ h => h) hM (fun w hC => r_addW hl rfl rfl) rfl ?_
                          clear hl a; intro a hl
                          refine d_take (i := 3) hl rfl (by kernel_rfl) (by kernel_rfl) (by kernel_rfl) (by kernel_rfl) (by kernel_rfl) rfl trivial (fun _ _ _ h => h) hM (fun w hC => r_field hl rfl fld36_4) rfl ?_
                          clear hl a; intro a hl
                          refine d_take (i := 4) hl rfl (by kernel_rfl) (by kernel_rfl) (by kernel_rfl) (by kernel_rfl) (by kernel_rfl) rfl trivial (fun _ _ _ h => h) hM (fun w hC => r_loadC hl rfl one27 hC (by repeat (first | exact find_head | apply find_tail)) (by first | rfl)) rfl ?_
                          clear hl a; intro a hl
                          refine d_take (i := 5) hl rfl (by kernel_rfl) (by kernel_rfl) (by kernel_rfl) (by kernel_rfl) (by kernel_rfl) rfl trivial (fun _ _ _ h => h) hM (fun w hC => r_field hl rfl fld36_5) rfl ?_
                          clear hl a; intro a hl
                          refine d_take (i := 6) hl rfl (by kernel_rfl) (by kernel_rfl) (by kernel_rfl) (by kernel_rfl) (by kernel_rfl) rfl trivial (fun _ _ _ h => h) hM (fun w hC => r_loadC hl rfl one27 hC (by repeat (first | exact find_head | apply find_tail)) (by first | rfl)) rfl ?_
                          clear hl a; intro a hl
                          refine d_take (i := 7) hl rfl (by kernel_rfl) (by kernel_rfl) (by kernel_rfl) (by kernel_rfl) (by kernel_rfl) rfl trivial (fun _ _ _ h => h) hM (fun w hC => r_indexA hl rfl rfl arr58 (by omega) (by omega) (by first | (simp only [Int.reduceToNat]; rfl) | exact toNat_add1 _ | exact toNat_add2 _ _ | exact toNat_emod _ _ | exact Int.toNat_natCast _ | rfl)) rfl ?_
                          clear hl a; intro a hl
                          refine d_one (i := 8) (by kernel_rfl) rfl ?_
                          try clear hM
                          refine id (w_store hl hh trivial one27 rfl rfl (by repeat (first | exact find_head | apply find_tail)) (by rw [arrL_length]; omega) (by first | rfl | (apply Row.one; assumption)) (by exact arr_store (by omega)) ?_)
                          clear hh w; intro w hh
                          have hM : Mem [(k8, C [.int .u8 kd2, .int .u32 x2, .int .u64 A2, .int .u64 B2, .int .u64 E2, .int .u64 D2] 36)] w := (by repeat (first | exact Mem.nil | refine Mem.cons hh.mem (by repeat (first | exact find_head | apply find_tail)) ?_ | refine Mem.consR hh (by assumption) (by simp) ?_))
                          refine d_step (fun _ => hM) ?_
                          refine d_takeL (i := 9) hl rfl (by kernel_rfl) (by kernel_rfl) (by kernel_rfl) (by kernel_rfl) (by kernel_rfl) rfl trivial (fun _ _ _ h => h) (fun w => r_indexA hl rfl rfl arr58 (by omega) (by omega) (by first | (simp only [Int.reduceToNat]; rfl) | exact toNat_add1 _ | exact toNat_add2 _ _ | exact toNat_emod _ _ | exact Int.toNat_natCast _ | rfl)) rfl ?_
                          clear hl a; intro a hl
                          refine d_one (i := 10) (by kernel_rfl) rfl ?_
                          try clear hM
                          refine id (w_store hl hh trivial one27 rfl rfl (by repeat (first | exact find_head | apply find_tail)) (by rw [arrL_length]; omega) (by first | rfl | (apply Row.one; assumption)) (by exact arr_store (by omega)) ?_)
                          clear hh w; intro w hh
                          refine d_step (fun h => absurd h (by decide)) ?_
                          refine d_done (by kernel_rfl) ?_
                          try clear hM
                          have hl2 := hl.add (t := 3) (hl.add (t := 5) (hl.add (t := 9) (hl.add (t := 11) (hl.add (t := 23) (hl.add (t := 24) (hl.add (t := 25) (hl.nil) rfl) rfl) rfl) rfl) rfl) rfl) rfl; clear hl; have hl := hl2; clear hl2
                          refine blk_normal ?_
                          refine then_normal ?_
                          refine c_seq ?_
                          refine c_region ?_
                          first | refine wl (w_loadA hl hh rfl trivial agg44 rfl (by repeat (first | exact find_head | apply find_tail)) (by first | (simp only [List.getElem?_cons_zero, List.getElem?_cons_succ, Value.cells, List.take_zero, List.take_succ_cons, List.take_nil, List.drop_zero, List.drop_succ_cons, List.drop_nil, List.length_cons, List.length_nil, List.cons_append, List.nil_append, List.append_nil, Nat.zero_add, Nat.add_zero, Nat.reduceAdd, Nat.reduceBEq, Nat.reduceEqDiff, Nat.ble, BEq.rfl, Bool.and_true, Bool.and_self, cond_true, beq_self_eq_true]; rfl)) (by first | rfl | (simp; done)) ?_) | refine wl (w_loadRA hl hh rfl trivial agg44 rfl hm (by simp) hqv rfl ?_)
                          clear hl a; intro a hl
                          first | refine wl (w_loadA hl hh rfl trivial agg44 rfl (by repeat (first | exact find_head | apply find_tail)) (by first | (simp only [List.getElem?_cons_zero, List.getElem?_cons_succ, Value.cells, List.take_zero, List.take_succ_cons, List.take_nil, List.drop_zero, List.drop_succ_cons, List.drop_nil, List.length_cons, List.length_nil, List.cons_append, List.nil_append, List.append_nil, Nat.zero_add, Nat.add_zero, Nat.reduceAdd, Nat.reduceBEq, Nat.reduceEqDiff, Nat.ble, BEq.rfl, Bool.and_true, Bool.and_self, cond_true, beq_self_eq_true]; rfl)) (by first | rfl | (simp; done)) ?_) | refine wl (w_loadRA hl hh rfl trivial agg44 rfl hm (by simp) hqv rfl ?_)
                          clear hl a; intro a hl
                          refine wl (wl_val hl rfl trivial (r_neqA hl rfl rfl eqf44 shp44 (by simp only [unlitL, unlit]; rfl) (by simp only [unlitL, unlit]; rfl) (by first | exact ⟨trivial⟩ | (refine ⟨?_⟩; simp [LitsOk, litOk, Fits]; done) | (refine ⟨?_⟩; simp [LitsOk, litOk, Fits]; omega)) (by first | exact ⟨trivial⟩ | (refine ⟨?_⟩; simp [LitsOk, litOk, Fits]; done) | (refine ⟨?_⟩; simp [LitsOk, litOk, Fits]; omega))) ?_)
                          clear hl a; intro a hl
                          refine w_nil ?_
                          have hl2 := hl.add (t := 3) (hl.add (t := 5) (hl.add (t := 23) (hl.add (t := 24) (hl.add (t := 25) (hl.add (t := 132) (hl.nil) rfl) rfl) rfl) rfl) rfl) rfl; clear hl; have hl := hl2; clear hl2
                          refine then_normal ?_
                          refine c_cond hl rfl ?_ ?_
                          · intro hc11
                            try simp only [decide_eq_true_eq, decide_eq_false_iff_not, Bool.not_eq_true', Bool.not_eq_false', Bool.not_eq_true, Bool.not_eq_false, Bool.and_eq_true, Bool.or_eq_true, Bool.and_eq_false_iff, Bool.or_eq_false_iff, Bool.not_not, ne_eq, Int.not_lt, Int.not_le, Decidable.not_not, beq_iff_eq, bne_iff_ne] at hc11
                            exfalso; first | (simp [eqLits, litBeq] at hc11; done) | (simp_all [eqLits, litBeq]; done)
                          · intro hc11
                            try simp only [decide_eq_true_eq, decide_eq_false_iff_not, Bool.not_eq_true', Bool.not_eq_false', Bool.not_eq_true, Bool.not_eq_false, Bool.and_eq_true, Bool.or_eq_true, Bool.and_eq_false_iff, Bool.or_eq_false_iff, Bool.not_not, ne_eq, Int.not_lt, Int.not_le, Decidable.not_not, beq_iff_eq, bne_iff_ne] at hc11
                            refine wp_skip ?_
                            refine blk_normal ?_
                            refine then_normal ?_
                            refine c_region ?_
                            first | refine wl (wl_val hl rfl trivial (r_add hl rfl rfl (by simp only [Fits]; omega)) ?_) | refine wl (wl_val hl rfl trivial (r_addW hl rfl rfl) ?_)
                            clear hl a; intro a hl
                            refine wl (wl_val hl rfl trivial (r_move hl rfl) ?_)
                            clear hl a; intro a hl
                            refine w_nil ?_
                            have hl2 := hl.add (t := 3) (hl.add (t := 5) (hl.add (t := 23) (hl.add (t := 24) (hl.add (t := 25) (hl.nil) rfl) rfl) rfl) rfl) rfl; clear hl; have hl := hl2; clear hl2
                            refine then_normal ?_
                            refine ⟨⟨s.i + 1, (doF s.f ⟨kd2, x2, A2, B2, E2, D2⟩).f, fl2, keepF s.rs ⟨kd2, x2, A2, B2, E2, D2⟩ (doF s.f ⟨kd2, x2, A2, B2, E2, D2⟩).ans, rv2, E3⟩, (by dsimp only; omega), hI.next hi hok hI2 hR2, hl.addE (t := 25) (hl.addE (t := 3) (hl.addE (t := 5) (hl.addE (t := 23) (hl.addE (t := 24) (hl.nil) rfl (by first | rfl | rfl)) rfl (by first | rfl | rfl)) rfl (by first | rfl | rfl)) rfl (by first | rfl | rfl)) rfl (by first | rfl | rfl), (by simp only [List.cons_append, List.nil_append, List.append_nil]; exact hh.keep (by repeat (first | exact keeps_nil | apply keeps_cons (by repeat (first | exact find_head | apply find_tail)) (by first  | exact arr_obj (fun i hi => by first | (simp only [hfk, wV, updV, word_setWord]; done) | (simp only [hfk, wV, updV, word_setWord]; (repeat' split) <;> first | rfl | omega | (simp_all; done)) | (simp only [wV]; rw [hfk i hi])) | rfl) | exact keeps_self | apply keeps_mv)))⟩
                        · intro hc10
                          try simp only [decide_eq_true_eq, decide_eq_false_iff_not, Bool.not_eq_true', Bool.not_eq_false', Bool.not_eq_true, Bool.not_eq_false, Bool.and_eq_true, Bool.or_eq_true, Bool.and_eq_false_iff, Bool.or_eq_false_iff, Bool.not_not, ne_eq, Int.not_lt, Int.not_le, Decidable.not_not, beq_iff_eq, bne_iff_ne] at hc10
                          rw [if_neg (by simp_all)] at hfk
                          refine wp_skip ?_
                          refine blk_normal ?_
                          refine then_normal ?_
                          refine c_seq ?_
                          refine c_region ?_
                          first | refine wl (w_loadA hl hh rfl trivial agg44 rfl (by repeat (first | exact find_head | apply find_tail)) (by first | (simp only [List.getElem?_cons_zero, List.getElem?_cons_succ, Value.cells, List.take_zero, List.take_succ_cons, List.take_nil, List.drop_zero, List.drop_succ_cons, List.drop_nil, List.length_cons, List.length_nil, List.cons_append, List.nil_append, List.append_nil, Nat.zero_add, Nat.add_zero, Nat.reduceAdd, Nat.reduceBEq, Nat.reduceEqDiff, Nat.ble, BEq.rfl, Bool.and_true, Bool.and_self, cond_true, beq_self_eq_true]; rfl)) (by first | rfl | (simp; done)) ?_) | refine wl (w_loadRA hl hh rfl trivial agg44 rfl hm (by simp) hqv rfl ?_)
                          clear hl a; intro a hl
                          first | refine wl (w_loadA hl hh rfl trivial agg44 rfl (by repeat (first | exact find_head | apply find_tail)) (by first | (simp only [List.getElem?_cons_zero, List.getElem?_cons_succ, Value.cells, List.take_zero, List.take_succ_cons, List.take_nil, List.drop_zero, List.drop_succ_cons, List.drop_nil, List.length_cons, List.length_nil, List.cons_append, List.nil_append, List.append_nil, Nat.zero_add, Nat.add_zero, Nat.reduceAdd, Nat.reduceBEq, Nat.reduceEqDiff, Nat.ble, BEq.rfl, Bool.and_true, Bool.and_self, cond_true, beq_self_eq_true]; rfl)) (by first | rfl | (simp; done)) ?_) | refine wl (w_loadRA hl hh rfl trivial agg44 rfl hm (by simp) hqv rfl ?_)
                          clear hl a; intro a hl
                          refine wl (wl_val hl rfl trivial (r_neqA hl rfl rfl eqf44 shp44 (by simp only [unlitL, unlit]; rfl) (by simp only [unlitL, unlit]; rfl) (by first | exact ⟨trivial⟩ | (refine ⟨?_⟩; simp [LitsOk, litOk, Fits]; done) | (refine ⟨?_⟩; simp [LitsOk, litOk, Fits]; omega)) (by first | exact ⟨trivial⟩ | (refine ⟨?_⟩; simp [LitsOk, litOk, Fits]; done) | (refine ⟨?_⟩; simp [LitsOk, litOk, Fits]; omega))) ?_)
                          clear hl a; intro a hl
                          refine w_nil ?_
                          have hl2 := hl.add (t := 3) (hl.add (t := 5) (hl.add (t := 23) (hl.add (t := 24) (hl.add (t := 25) (hl.add (t := 132) (hl.nil) rfl) rfl) rfl) rfl) rfl) rfl; clear hl; have hl := hl2; clear hl2
                          refine then_normal ?_
                          refine c_cond hl rfl ?_ ?_
                          · intro hc11
                            try simp only [decide_eq_true_eq, decide_eq_false_iff_not, Bool.not_eq_true', Bool.not_eq_false', Bool.not_eq_true, Bool.not_eq_false, Bool.and_eq_true, Bool.or_eq_true, Bool.and_eq_false_iff, Bool.or_eq_false_iff, Bool.not_not, ne_eq, Int.not_lt, Int.not_le, Decidable.not_not, beq_iff_eq, bne_iff_ne] at hc11
                            exfalso; first | (simp [eqLits, litBeq] at hc11; done) | (simp_all [eqLits, litBeq]; done)
                          · intro hc11
                            try simp only [decide_eq_true_eq, decide_eq_false_iff_not, Bool.not_eq_true', Bool.not_eq_false', Bool.not_eq_true, Bool.not_eq_false, Bool.and_eq_true, Bool.or_eq_true, Bool.and_eq_false_iff, Bool.or_eq_false_iff, Bool.not_not, ne_eq, Int.not_lt, Int.not_le, Decidable.not_not, beq_iff_eq, bne_iff_ne] at hc11
                            refine wp_skip ?_
                            refine blk_normal ?_
                            refine then_normal ?_
                            refine c_region ?_
                            first | refine wl (wl_val hl rfl trivial (r_add hl rfl rfl (by simp only [Fits]; omega)) ?_) | refine wl (wl_val hl rfl trivial (r_addW hl rfl rfl) ?_)
                            clear hl a; intro a hl
                            refine wl (wl_val hl rfl trivial (r_move hl rfl) ?_)
                            clear hl a; intro a hl
                            refine w_nil ?_
                            have hl2 := hl.add (t := 3) (hl.add (t := 5) (hl.add (t := 23) (hl.add (t := 24) (hl.add (t := 25) (hl.nil) rfl) rfl) rfl) rfl) rfl; clear hl; have hl := hl2; clear hl2
                            refine then_normal ?_
                            refine ⟨⟨s.i + 1, (doF s.f ⟨kd2, x2, A2, B2, E2, D2⟩).f, fl2, keepF s.rs ⟨kd2, x2, A2, B2, E2, D2⟩ (doF s.f ⟨kd2, x2, A2, B2, E2, D2⟩).ans, rv2, E3⟩, (by dsimp only; omega), hI.next hi hok hI2 hR2, hl.addE (t := 25) (hl.addE (t := 3) (hl.addE (t := 5) (hl.addE (t := 23) (hl.addE (t := 24) (hl.nil) rfl (by first | rfl | rfl)) rfl (by first | rfl | rfl)) rfl (by first | rfl | rfl)) rfl (by first | rfl | rfl)) rfl (by first | rfl | rfl), (by simp only [List.cons_append, List.nil_append, List.append_nil]; exact hh.keep (by repeat (first | exact keeps_nil | apply keeps_cons (by repeat (first | exact find_head | apply find_tail)) (by first  | exact arr_obj (fun i hi => by first | (simp only [hfk, wV, updV, word_setWord]; done) | (simp only [hfk, wV, updV, word_setWord]; (repeat' split) <;> first | rfl | omega | (simp_all; done)) | (simp only [wV]; rw [hfk i hi])) | rfl) | exact keeps_self | apply keeps_mv)))⟩
                      · intro hg4; clear hl; intro hl
                        try simp only [decide_eq_true_eq, decide_eq_false_iff_not, Bool.not_eq_true', Bool.not_eq_false', Bool.not_eq_true, Bool.not_eq_false, Bool.and_eq_true, Bool.or_eq_true, Bool.and_eq_false_iff, Bool.or_eq_false_iff, Bool.not_not, ne_eq, Int.not_lt, Int.not_le, Decidable.not_not, beq_iff_eq, bne_iff_ne] at hg4
                        refine d_skip (i := 7) hl rfl (by kernel_rfl) (by kernel_rfl) (by kernel_rfl) (by kernel_rfl) (by kernel_rfl) rfl ⟨_, _, rfl, rfl, rfl⟩ (fun _ _ _ h => h) hM ?_
                        clear hl a; intro a hl
                        refine d_skip (i := 8) hl rfl (by kernel_rfl) (by kernel_rfl) (by kernel_rfl) (by kernel_rfl) (by kernel_rfl) rfl ⟨_, _, rfl, rfl, rfl⟩ (fun _ _ _ h => h) hM ?_
                        clear hl a; intro a hl
                        refine d_skip (i := 9) hl rfl (by kernel_rfl) (by kernel_rfl) (by kernel_rfl) (by kernel_rfl) (by kernel_rfl) rfl ⟨_, _, rfl, rfl, rfl⟩ (fun _ _ _ h => h) hM ?_
                        clear hl a; intro a hl
                        refine d_skip (i := 10) hl rfl (by kernel_rfl) (by kernel_rfl) (by kernel_rfl) (by kernel_rfl) (by kernel_rfl) rfl ⟨_, _, rfl, rfl, rfl⟩ (fun _ _ _ h => h) hM ?_
                        clear hl a; intro a hl
                        refine d_skip (i := 11) hl rfl (by kernel_rfl) (by kernel_rfl) (by kernel_rfl) (by kernel_rfl) (by kernel_rfl) rfl ⟨_, _, rfl, rfl, rfl⟩ (fun _ _ _ h => h) hM ?_
                        clear hl a; intro a hl
                        refine d_skip (i := 12) hl rfl (by kernel_rfl) (by kernel_rfl) (by kernel_rfl) (by kernel_rfl) (by kernel_rfl) rfl ⟨_, _, rfl, rfl, rfl⟩ (fun _ _ _ h => h) hM ?_
                        clear hl a; intro a hl
                        refine d_skip (i := 13) hl rfl (by kernel_rfl) (by kernel_rfl) (by kernel_rfl) (by kernel_rfl) (by kernel_rfl) rfl ⟨_, _, rfl, rfl, rfl⟩ (fun _ _ _ h => h) hM ?_
                        clear hl a; intro a hl
                        refine d_takeL (i := 14) hl rfl (by kernel_rfl) (by kernel_rfl) (by kernel_rfl) (by kernel_rfl) (by kernel_rfl) rfl trivial (fun _ _ _ h => h) (fun w => r_pickF hl rfl rfl) rfl ?_
                        clear hl a; intro a hl
                        refine d_takeL (i := 15) hl rfl (by kernel_rfl) (by kernel_rfl) (by kernel_rfl) (by kernel_rfl) (by kernel_rfl) rfl trivial (fun _ _ _ h => h) (fun w => r_field hl rfl fld44_1) rfl ?_
                        clear hl a; intro a hl
                        refine d_one (i := 16) (by kernel_rfl) rfl ?_
                        try clear hM
                        refine id (w_store hl hh trivial one4 rfl rfl (by repeat (first | exact find_head | apply find_tail)) (by first | (simp; done) | (simp; omega)) (by first | rfl | (apply Row.one; assumption)) (by first | (simp only [setL, List.getElem?_cons_zero, List.getElem?_cons_succ, Value.cells, List.take_zero, List.take_succ_cons, List.take_nil, List.drop_zero, List.drop_succ_cons, List.drop_nil, List.length_cons, List.length_nil, List.cons_append, List.nil_append, List.append_nil, Nat.zero_add, Nat.add_zero, Nat.reduceAdd, Nat.reduceBEq, Nat.reduceEqDiff, Nat.ble, BEq.rfl, Bool.and_true, Bool.and_self, cond_true, beq_self_eq_true]; rfl)) ?_)
                        clear hh w; intro w hh
                        refine d_step (fun h => absurd h (by decide)) ?_
                        refine d_done (by kernel_rfl) ?_
                        try clear hM
                        have hl2 := hl.add (t := 3) (hl.add (t := 5) (hl.add (t := 8) (hl.add (t := 9) (hl.add (t := 10) (hl.add (t := 11) (hl.add (t := 23) (hl.add (t := 24) (hl.add (t := 25) (hl.nil) rfl) rfl) rfl) rfl) rfl) rfl) rfl) rfl) rfl; clear hl; have hl := hl2; clear hl2
                        refine then_normal ?_
                        refine c_seq ?_
                        refine c_region ?_
                        refine wl (wl_val hl rfl trivial (r_field hl rfl fld44_1) ?_)
                        clear hl a; intro a hl
                        refine wl (w_load hl hh rfl trivial one4 rfl (by repeat (first | exact find_head | apply find_tail)) (by first | rfl) ?_)
                        clear hl a; intro a hl
                        refine w_nil ?_
                        have hl2 := hl.add (t := 3) (hl.add (t := 5) (hl.add (t := 8) (hl.add (t := 9) (hl.add (t := 10) (hl.add (t := 11) (hl.add (t := 23) (hl.add (t := 24) (hl.add (t := 25) (hl.add (t := 120) (hl.nil) rfl) rfl) rfl) rfl) rfl) rfl) rfl) rfl) rfl) rfl; clear hl; have hl := hl2; clear hl2
                        refine then_normal ?_
                        refine c_cond hl rfl ?_ ?_
                        · intro hc10
                          try simp only [decide_eq_true_eq, decide_eq_false_iff_not, Bool.not_eq_true', Bool.not_eq_false', Bool.not_eq_true, Bool.not_eq_false, Bool.and_eq_true, Bool.or_eq_true, Bool.and_eq_false_iff, Bool.or_eq_false_iff, Bool.not_not, ne_eq, Int.not_lt, Int.not_le, Decidable.not_not, beq_iff_eq, bne_iff_ne] at hc10
                          rw [if_pos (by simp_all)] at hfk
                          refine c_draw [(k8, C [.int .u8 kd2, .int .u32 x2, .int .u64 A2, .int .u64 B2, .int .u64 E2, .int .u64 D2] 36)] [9, 10] mixed hh ?_
                          clear hh w; intro w hh
                          have hM : Mem [(k8, C [.int .u8 kd2, .int .u32 x2, .int .u64 A2, .int .u64 B2, .int .u64 E2, .int .u64 D2] 36)] w := (by repeat (first | exact Mem.nil | refine Mem.cons hh.mem (by repeat (first | exact find_head | apply find_tail)) ?_ | refine Mem.consR hh (by assumption) (by simp) ?_))
                          refine d_take (i := 0) hl rfl (by kernel_rfl) (by kernel_rfl) (by kernel_rfl) (by kernel_rfl) (by kernel_rfl) rfl trivial (fun _ _ _ h => h) hM (fun w hC => r_move hl rfl) rfl ?_
                          clear hl a; intro a hl
                          refine d_take (i := 1) hl rfl (by kernel_rfl) (by kernel_rfl) (by kernel_rfl) (by kernel_rfl) (by kernel_rfl) rfl trivial (fun _ _ _ h => h) hM (fun w hC => r_move hl rfl) rfl ?_
                          clear hl a; intro a hl
                          first | refine d_take (i := 2) hl rfl (by kernel_rfl) (by kernel_rfl) (by kernel_rfl) (by kernel_rfl) (by kernel_rfl) rfl trivial (fun _ _ _ h => h) hM (fun w hC => r_add hl rfl rfl (by simp only [Fits]; omega)) rfl ?_ | refine d_take (i := 2) hl rfl (by kernel_rfl) (by kernel_rfl) (by kernel_rfl) (by kernel_rfl) (by kernel_rfl) rfl trivial (fun _ _ _ h => h) hM (fun w hC => r_addW hl rfl rfl) rfl ?_
                          clear hl a; intro a hl
                          refine d_take (i := 3) hl rfl (by kernel_rfl) (by kernel_rfl) (by kernel_rfl) (by kernel_rfl) (by kernel_rfl) rfl trivial (fun _ _ _ h => h) hM (fun w hC => r_field hl rfl fld36_4) rfl ?_
                          clear hl a; intro a hl
                          refine d_take (i := 4) hl rfl (by kernel_rfl) (by kernel_rfl) (by kernel_rfl) (by kernel_rfl) (by kernel_rfl) rfl trivial (fun _ _ _ h => h) hM (fun w hC => r_loadC hl rfl one27 hC (by repeat (first | exact find_head | apply find_tail)) (by first | rfl)) rfl ?_
                          clear hl a; intro a hl
                          refine d_take (i := 5) hl rfl (by kernel_rfl) (by kernel_rfl) (by kernel_rfl) (by kernel_rfl) (by kernel_rfl) rfl trivial (fun _ _ _ h => h) hM (fun w hC => r_field hl rfl fld36_5) rfl ?_
                          clear hl a; intro a hl
                          refine d_take (i := 6) hl rfl (by kernel_rfl) (by kernel_rfl) (by kernel_rfl) (by kernel_rfl) (by kernel_rfl) rfl trivial (fun _ _ _ h => h) hM (fun w hC => r_loadC hl rfl one27 hC (by repeat (first | exact find_head | apply find_tail)) (by first | rfl)) rfl ?_
                          clear hl a; intro a hl
                          refine d_take (i := 7) hl rfl (by kernel_rfl) (by kernel_rfl) (by kernel_rfl) (by kernel_rfl) (by kernel_rfl) rfl trivial (fun _ _ _ h => h) hM (fun w hC => r_indexA hl rfl rfl arr58 (by omega) (by omega) (by first | (simp only [Int.reduceToNat]; rfl) | exact toNat_add1 _ | exact toNat_add2 _ _ | exact toNat_emod _ _ | exact Int.toNat_natCast _ | rfl)) rfl ?_
                          clear hl a; intro a hl
                          refine d_one (i := 8) (by kernel_rfl) rfl ?_
                          try clear hM
                          refine id (w_store hl hh trivial one27 rfl rfl (by repeat (first | exact find_head | apply find_tail)) (by rw [arrL_length]; omega) (by first | rfl | (apply Row.one; assumption)) (by exact arr_store (by omega)) ?_)
                          clear hh w; intro w hh
                          have hM : Mem [(k8, C [.int .u8 kd2, .int .u32 x2, .int .u64 A2, .int .u64 B2, .int .u64 E2, .int .u64 D2] 36)] w := (by repeat (first | exact Mem.nil | refine Mem.cons hh.mem (by repeat (first | exact find_head | apply find_tail)) ?_ | refine Mem.consR hh (by assumption) (by simp) ?_))
                          refine d_step (fun _ => hM) ?_
                          refine d_takeL (i := 9) hl rfl (by kernel_rfl) (by kernel_rfl) (by kernel_rfl) (by kernel_rfl) (by kernel_rfl) rfl trivial (fun _ _ _ h => h) (fun w => r_indexA hl rfl rfl arr58 (by omega) (by omega) (by first | (simp only [Int.reduceToNat]; rfl) | exact toNat_add1 _ | exact toNat_add2 _ _ | exact toNat_emod _ _ | exact Int.toNat_natCast _ | rfl)) rfl ?_
                          clear hl a; intro a hl
                          refine d_one (i := 10) (by kernel_rfl) rfl ?_
                          try clear hM
                          refine id (w_store hl hh trivial one27 rfl rfl (by repeat (first | exact find_head | apply find_tail)) (by rw [arrL_length]; omega) (by first | rfl | (apply Row.one; assumption)) (by exact arr_store (by omega)) ?_)
                          clear hh w; intro w hh
                          refine d_step (fun h => absurd h (by decide)) ?_
                          refine d_done (by kernel_rfl) ?_
                          try clear hM
                          have hl2 := hl.add (t := 3) (hl.add (t := 5) (hl.add (t := 9) (hl.add (t := 11) (hl.add (t := 23) (hl.add (t := 24) (hl.add (t := 25) (hl.nil) rfl) rfl) rfl) rfl) rfl) rfl) rfl; clear hl; have hl := hl2; clear hl2
                          refine blk_normal ?_
                          refine then_normal ?_
                          refine c_seq ?_
                          refine c_region ?_
                          first | refine wl (w_loadA hl hh rfl trivial agg44 rfl (by repeat (first | exact find_head | apply find_tail)) (by first | (simp only [List.getElem?_cons_zero, List.getElem?_cons_succ, Value.cells, List.take_zero, List.take_succ_cons, List.take_nil, List.drop_zero, List.drop_succ_cons, List.drop_nil, List.length_cons, List.length_nil, List.cons_append, List.nil_append, List.append_nil, Nat.zero_add, Nat.add_zero, Nat.reduceAdd, Nat.reduceBEq, Nat.reduceEqDiff, Nat.ble, BEq.rfl, Bool.and_true, Bool.and_self, cond_true, beq_self_eq_true]; rfl)) (by first | rfl | (simp; done)) ?_) | refine wl (w_loadRA hl hh rfl trivial agg44 rfl hm (by simp) hqv rfl ?_)
                          clear hl a; intro a hl
                          first | refine wl (w_loadA hl hh rfl trivial agg44 rfl (by repeat (first | exact find_head | apply find_tail)) (by first | (simp only [List.getElem?_cons_zero, List.getElem?_cons_succ, Value.cells, List.take_zero, List.take_succ_cons, List.take_nil, List.drop_zero, List.drop_succ_cons, List.drop_nil, List.length_cons, List.length_nil, List.cons_append, List.nil_append, List.append_nil, Nat.zero_add, Nat.add_zero, Nat.reduceAdd, Nat.reduceBEq, Nat.reduceEqDiff, Nat.ble, BEq.rfl, Bool.and_true, Bool.and_self, cond_true, beq_self_eq_true]; rfl)) (by first | rfl | (simp; done)) ?_) | refine wl (w_loadRA hl hh rfl trivial agg44 rfl hm (by simp) hqv rfl ?_)
                          clear hl a; intro a hl
                          refine wl (wl_val hl rfl trivial (r_neqA hl rfl rfl eqf44 shp44 (by simp only [unlitL, unlit]; rfl) (by simp only [unlitL, unlit]; rfl) (by first | exact ⟨trivial⟩ | (refine ⟨?_⟩; simp [LitsOk, litOk, Fits]; done) | (refine ⟨?_⟩; simp [LitsOk, litOk, Fits]; omega)) (by first | exact ⟨trivial⟩ | (refine ⟨?_⟩; simp [LitsOk, litOk, Fits]; done) | (refine ⟨?_⟩; simp [LitsOk, litOk, Fits]; omega))) ?_)
                          clear hl a; intro a hl
                          refine w_nil ?_
                          have hl2 := hl.add (t := 3) (hl.add (t := 5) (hl.add (t := 23) (hl.add (t := 24) (hl.add (t := 25) (hl.add (t := 132) (hl.nil) rfl) rfl) rfl) rfl) rfl) rfl; clear hl; have hl := hl2; clear hl2
                          refine then_normal ?_
                          refine c_cond hl rfl ?_ ?_
                          · intro hc11
                            try simp only [decide_eq_true_eq, decide_eq_false_iff_not, Bool.not_eq_true', Bool.not_eq_false', Bool.not_eq_true, Bool.not_eq_false, Bool.and_eq_true, Bool.or_eq_true, Bool.and_eq_false_iff, Bool.or_eq_false_iff, Bool.not_not, ne_eq, Int.not_lt, Int.not_le, Decidable.not_not, beq_iff_eq, bne_iff_ne] at hc11
                            exfalso; first | (simp [eqLits, litBeq] at hc11; done) | (simp_all [eqLits, litBeq]; done)
                          · intro hc11
                            try simp only [decide_eq_true_eq, decide_eq_false_iff_not, Bool.not_eq_true', Bool.not_eq_false', Bool.not_eq_true, Bool.not_eq_false, Bool.and_eq_true, Bool.or_eq_true, Bool.and_eq_false_iff, Bool.or_eq_false_iff, Bool.not_not, ne_eq, Int.not_lt, Int.not_le, Decidable.not_not, beq_iff_eq, bne_iff_ne] at hc11
                            refine wp_skip ?_
                            refine blk_normal ?_
                            refine then_normal ?_
                            refine c_region ?_
                            first | refine wl (wl_val hl rfl trivial (r_add hl rfl rfl (by simp only [Fits]; omega)) ?_) | refine wl (wl_val hl rfl trivial (r_addW hl rfl rfl) ?_)
                            clear hl a; intro a hl
                            refine wl (wl_val hl rfl trivial (r_move hl rfl) ?_)
                            clear hl a; intro a hl
                            refine w_nil ?_
                            have hl2 := hl.add (t := 3) (hl.add (t := 5) (hl.add (t := 23) (hl.add (t := 24) (hl.add (t := 25) (hl.nil) rfl) rfl) rfl) rfl) rfl; clear hl; have hl := hl2; clear hl2
                            refine then_normal ?_
                            refine ⟨⟨s.i + 1, (doF s.f ⟨kd2, x2, A2, B2, E2, D2⟩).f, fl2, keepF s.rs ⟨kd2, x2, A2, B2, E2, D2⟩ (doF s.f ⟨kd2, x2, A2, B2, E2, D2⟩).ans, rv2, E3⟩, (by dsimp only; omega), hI.next hi hok hI2 hR2, hl.addE (t := 25) (hl.addE (t := 3) (hl.addE (t := 5) (hl.addE (t := 23) (hl.addE (t := 24) (hl.nil) rfl (by first | rfl | rfl)) rfl (by first | rfl | rfl)) rfl (by first | rfl | rfl)) rfl (by first | rfl | rfl)) rfl (by first | rfl | rfl), (by simp only [List.cons_append, List.nil_append, List.append_nil]; exact hh.keep (by repeat (first | exact keeps_nil | apply keeps_cons (by repeat (first | exact find_head | apply find_tail)) (by first  | exact arr_obj (fun i hi => by first | (simp only [hfk, wV, updV, word_setWord]; done) | (simp only [hfk, wV, updV, word_setWord]; (repeat' split) <;> first | rfl | omega | (simp_all; done)) | (simp only [wV]; rw [hfk i hi])) | rfl) | exact keeps_self | apply keeps_mv)))⟩
                        · intro hc10
                          try simp only [decide_eq_true_eq, decide_eq_false_iff_not, Bool.not_eq_true', Bool.not_eq_false', Bool.not_eq_true, Bool.not_eq_false, Bool.and_eq_true, Bool.or_eq_true, Bool.and_eq_false_iff, Bool.or_eq_false_iff, Bool.not_not, ne_eq, Int.not_lt, Int.not_le, Decidable.not_not, beq_iff_eq, bne_iff_ne] at hc10
                          rw [if_neg (by simp_all)] at hfk
                          refine wp_skip ?_
                          refine blk_normal ?_
                          refine then_normal ?_
                          refine c_seq ?_
                          refine c_region ?_
                          first | refine wl (w_loadA hl hh rfl trivial agg44 rfl (by repeat (first | exact find_head | apply find_tail)) (by first | (simp only [List.getElem?_cons_zero, List.getElem?_cons_succ, Value.cells, List.take_zero, List.take_succ_cons, List.take_nil, List.drop_zero, List.drop_succ_cons, List.drop_nil, List.length_cons, List.length_nil, List.cons_append, List.nil_append, List.append_nil, Nat.zero_add, Nat.add_zero, Nat.reduceAdd, Nat.reduceBEq, Nat.reduceEqDiff, Nat.ble, BEq.rfl, Bool.and_true, Bool.and_self, cond_true, beq_self_eq_true]; rfl)) (by first | rfl | (simp; done)) ?_) | refine wl (w_loadRA hl hh rfl trivial agg44 rfl hm (by simp) hqv rfl ?_)
                          clear hl a; intro a hl
                          first | refine wl (w_loadA hl hh rfl trivial agg44 rfl (by repeat (first | exact find_head | apply find_tail)) (by first | (simp only [List.getElem?_cons_zero, List.getElem?_cons_succ, Value.cells, List.take_zero, List.take_succ_cons, List.take_nil, List.drop_zero, List.drop_succ_cons, List.drop_nil, List.length_cons, List.length_nil, List.cons_append, List.nil_append, List.append_nil, Nat.zero_add, Nat.add_zero, Nat.reduceAdd, Nat.reduceBEq, Nat.reduceEqDiff, Nat.ble, BEq.rfl, Bool.and_true, Bool.and_self, cond_true, beq_self_eq_true]; rfl)) (by first | rfl | (simp; done)) ?_) | refine wl (w_loadRA hl hh rfl trivial agg44 rfl hm (by simp) hqv rfl ?_)
                          clear hl a; intro a hl
                          refine wl (wl_val hl rfl trivial (r_neqA hl rfl rfl eqf44 shp44 (by simp only [unlitL, unlit]; rfl) (by simp only [unlitL, unlit]; rfl) (by first | exact ⟨trivial⟩ | (refine ⟨?_⟩; simp [LitsOk, litOk, Fits]; done) | (refine ⟨?_⟩; simp [LitsOk, litOk, Fits]; omega)) (by first | exact ⟨trivial⟩ | (refine ⟨?_⟩; simp [LitsOk, litOk, Fits]; done) | (refine ⟨?_⟩; simp [LitsOk, litOk, Fits]; omega))) ?_)
                          clear hl a; intro a hl
                          refine w_nil ?_
                          have hl2 := hl.add (t := 3) (hl.add (t := 5) (hl.add (t := 23) (hl.add (t := 24) (hl.add (t := 25) (hl.add (t := 132) (hl.nil) rfl) rfl) rfl) rfl) rfl) rfl; clear hl; have hl := hl2; clear hl2
                          refine then_normal ?_
                          refine c_cond hl rfl ?_ ?_
                          · intro hc11
                            try simp only [decide_eq_true_eq, decide_eq_false_iff_not, Bool.not_eq_true', Bool.not_eq_false', Bool.not_eq_true, Bool.not_eq_false, Bool.and_eq_true, Bool.or_eq_true, Bool.and_eq_false_iff, Bool.or_eq_false_iff, Bool.not_not, ne_eq, Int.not_lt, Int.not_le, Decidable.not_not, beq_iff_eq, bne_iff_ne] at hc11
                            exfalso; first | (simp [eqLits, litBeq] at hc11; done) | (simp_all [eqLits, litBeq]; done)
                          · intro hc11
                            try simp only [decide_eq_true_eq, decide_eq_false_iff_not, Bool.not_eq_true', Bool.not_eq_false', Bool.not_eq_true, Bool.not_eq_false, Bool.and_eq_true, Bool.or_eq_true, Bool.and_eq_false_iff, Bool.or_eq_false_iff, Bool.not_not, ne_eq, Int.not_lt, Int.not_le, Decidable.not_not, beq_iff_eq, bne_iff_ne] at hc11
                            refine wp_skip ?_
                            refine blk_normal ?_
                            refine then_normal ?_
                            refine c_region ?_
                            first | refine wl (wl_val hl rfl trivial (r_add hl rfl rfl (by simp only [Fits]; omega)) ?_) | refine wl (wl_val hl rfl trivial (r_addW hl rfl rfl) ?_)
                            clear hl a; intro a hl
                            refine wl (wl_val hl rfl trivial (r_move hl rfl) ?_)
                            clear hl a; intro a hl
                            refine w_nil ?_
                            have hl2 := hl.add (t := 3) (hl.add (t := 5) (hl.add (t := 23) (hl.add (t := 24) (hl.add (t := 25) (hl.nil) rfl) rfl) rfl) rfl) rfl; clear hl; have hl := hl2; clear hl2
                            refine then_normal ?_
                            refine ⟨⟨s.i + 1, (doF s.f ⟨kd2, x2, A2, B2, E2, D2⟩).f, fl2, keepF s.rs ⟨kd2, x2, A2, B2, E2, D2⟩ (doF s.f ⟨kd2, x2, A2, B2, E2, D2⟩).ans, rv2, E3⟩, (by dsimp only; omega), hI.next hi hok hI2 hR2, hl.addE (t := 25) (hl.addE (t := 3) (hl.addE (t := 5) (hl.addE (t := 23) (hl.addE (t := 24) (hl.nil) rfl (by first | rfl | rfl)) rfl (by first | rfl | rfl)) rfl (by first | rfl | rfl)) rfl (by first | rfl | rfl)) rfl (by first | rfl | rfl), (by simp only [List.cons_append, List.nil_append, List.append_nil]; exact hh.keep (by repeat (first | exact keeps_nil | apply keeps_cons (by repeat (first | exact find_head | apply find_tail)) (by first  | exact arr_obj (fun i hi => by first | (simp only [hfk, wV, updV, word_setWord]; done) | (simp only [hfk, wV, updV, word_setWord]; (repeat' split) <;> first | rfl | omega | (simp_all; done)) | (simp only [wV]; rw [hfk i hi])) | rfl) | exact keeps_self | apply keeps_mv)))⟩
                    · intro hc9
                      try simp only [decide_eq_true_eq, decide_eq_false_iff_not, Bool.not_eq_true', Bool.not_eq_false', Bool.not_eq_true, Bool.not_eq_false, Bool.and_eq_true, Bool.or_eq_true, Bool.and_eq_false_iff, Bool.or_eq_false_iff, Bool.not_not, ne_eq, Int.not_lt, Int.not_le, Decidable.not_not, beq_iff_eq, bne_iff_ne] at hc9
                      obtain ⟨ha, hfk⟩ := doF_0 s.f ⟨kd2, x2, A2, B2, E2, D2⟩ (by simp only; omega) hx
                      rw [hr] at ha
                      try simp only at hfk
                      injection ha with e0 e1 e2 e3
                      subst e0; subst e1; subst e2; subst e3
                      refine wp_skip ?_
                      refine blk_normal ?_
                      refine then_normal ?_
                      refine c_seq ?_
                      refine c_region ?_
                      first | refine wl (w_loadA hl hh rfl trivial agg44 rfl (by repeat (first | exact find_head | apply find_tail)) (by first | (simp only [List.getElem?_cons_zero, List.getElem?_cons_succ, Value.cells, List.take_zero, List.take_succ_cons, List.take_nil, List.drop_zero, List.drop_succ_cons, List.drop_nil, List.length_cons, List.length_nil, List.cons_append, List.nil_append, List.append_nil, Nat.zero_add, Nat.add_zero, Nat.reduceAdd, Nat.reduceBEq, Nat.reduceEqDiff, Nat.ble, BEq.rfl, Bool.and_true, Bool.and_self, cond_true, beq_self_eq_true]; rfl)) (by first | rfl | (simp; done)) ?_) | refine wl (w_loadRA hl hh rfl trivial agg44 rfl hm (by simp) hqv rfl ?_)
                      clear hl a; intro a hl
                      first | refine wl (w_loadA hl hh rfl trivial agg44 rfl (by repeat (first | exact find_head | apply find_tail)) (by first | (simp only [List.getElem?_cons_zero, List.getElem?_cons_succ, Value.cells, List.take_zero, List.take_succ_cons, List.take_nil, List.drop_zero, List.drop_succ_cons, List.drop_nil, List.length_cons, List.length_nil, List.cons_append, List.nil_append, List.append_nil, Nat.zero_add, Nat.add_zero, Nat.reduceAdd, Nat.reduceBEq, Nat.reduceEqDiff, Nat.ble, BEq.rfl, Bool.and_true, Bool.and_self, cond_true, beq_self_eq_true]; rfl)) (by first | rfl | (simp; done)) ?_) | refine wl (w_loadRA hl hh rfl trivial agg44 rfl hm (by simp) hqv rfl ?_)
                      clear hl a; intro a hl
                      refine wl (wl_val hl rfl trivial (r_neqA hl rfl rfl eqf44 shp44 (by simp only [unlitL, unlit]; rfl) (by simp only [unlitL, unlit]; rfl) (by first | exact ⟨trivial⟩ | (refine ⟨?_⟩; simp [LitsOk, litOk, Fits]; done) | (refine ⟨?_⟩; simp [LitsOk, litOk, Fits]; omega)) (by first | exact ⟨trivial⟩ | (refine ⟨?_⟩; simp [LitsOk, litOk, Fits]; done) | (refine ⟨?_⟩; simp [LitsOk, litOk, Fits]; omega))) ?_)
                      clear hl a; intro a hl
                      refine w_nil ?_
                      have hl2 := hl.add (t := 3) (hl.add (t := 5) (hl.add (t := 23) (hl.add (t := 24) (hl.add (t := 25) (hl.add (t := 132) (hl.nil) rfl) rfl) rfl) rfl) rfl) rfl; clear hl; have hl := hl2; clear hl2
                      refine then_normal ?_
                      refine c_cond hl rfl ?_ ?_
                      · intro hc11
                        try simp only [decide_eq_true_eq, decide_eq_false_iff_not, Bool.not_eq_true', Bool.not_eq_false', Bool.not_eq_true, Bool.not_eq_false, Bool.and_eq_true, Bool.or_eq_true, Bool.and_eq_false_iff, Bool.or_eq_false_iff, Bool.not_not, ne_eq, Int.not_lt, Int.not_le, Decidable.not_not, beq_iff_eq, bne_iff_ne] at hc11
                        exfalso; first | (simp [eqLits, litBeq] at hc11; done) | (simp_all [eqLits, litBeq]; done)
                      · intro hc11
                        try simp only [decide_eq_true_eq, decide_eq_false_iff_not, Bool.not_eq_true', Bool.not_eq_false', Bool.not_eq_true, Bool.not_eq_false, Bool.and_eq_true, Bool.or_eq_true, Bool.and_eq_false_iff, Bool.or_eq_false_iff, Bool.not_not, ne_eq, Int.not_lt, Int.not_le, Decidable.not_not, beq_iff_eq, bne_iff_ne] at hc11
                        refine wp_skip ?_
                        refine blk_normal ?_
                        refine then_normal ?_
                        refine c_region ?_
                        first | refine wl (wl_val hl rfl trivial (r_add hl rfl rfl (by simp only [Fits]; omega)) ?_) | refine wl (wl_val hl rfl trivial (r_addW hl rfl rfl) ?_)
                        clear hl a; intro a hl
                        refine wl (wl_val hl rfl trivial (r_move hl rfl) ?_)
                        clear hl a; intro a hl
                        refine w_nil ?_
                        have hl2 := hl.add (t := 3) (hl.add (t := 5) (hl.add (t := 23) (hl.add (t := 24) (hl.add (t := 25) (hl.nil) rfl) rfl) rfl) rfl) rfl; clear hl; have hl := hl2; clear hl2
                        refine then_normal ?_
                        refine ⟨⟨s.i + 1, (doF s.f ⟨kd2, x2, A2, B2, E2, D2⟩).f, fl2, keepF s.rs ⟨kd2, x2, A2, B2, E2, D2⟩ (doF s.f ⟨kd2, x2, A2, B2, E2, D2⟩).ans, rv2, E3⟩, (by dsimp only; omega), hI.next hi hok hI2 hR2, hl.addE (t := 25) (hl.addE (t := 3) (hl.addE (t := 5) (hl.addE (t := 23) (hl.addE (t := 24) (hl.nil) rfl (by first | rfl | rfl)) rfl (by first | rfl | rfl)) rfl (by first | rfl | rfl)) rfl (by first | rfl | rfl)) rfl (by first | rfl | rfl), (by simp only [List.cons_append, List.nil_append, List.append_nil]; exact hh.keep (by repeat (first | exact keeps_nil | apply keeps_cons (by repeat (first | exact find_head | apply find_tail)) (by first  | exact arr_obj (fun i hi => by first | (simp only [hfk, wV, updV, word_setWord]; done) | (simp only [hfk, wV, updV, word_setWord]; (repeat' split) <;> first | rfl | omega | (simp_all; done)) | (simp only [wV]; rw [hfk i hi])) | rfl) | exact keeps_self | apply keeps_mv)))⟩
      ·
        try clear hM
        refine id (w_alloc hl hh rfl trivial zero36 rfl ?_)
        clear hl hh a w; intro k8 a w hl hh
        have hM : Mem [(gb, C [.pointer (some ⟨b, 0, none⟩), s.rv] 41), (k7, C [.int .u8 kd, .int .u32 x, .int .u64 A, .int .u64 B, .int .u64 E, .int .u64 D] 36)] w := (by repeat (first | exact Mem.nil | refine Mem.cons hh.mem (by repeat (first | exact find_head | apply find_tail)) ?_ | refine Mem.consR hh (by assumption) (by simp) ?_))
        refine d_step (fun _ => hM) ?_
        refine d_one (i := 5) (by kernel_rfl) rfl ?_
        try clear hM
        refine id (w_call hl hh rfl trivial rfl cal16 rfl (plain_spec s.rs s.rv s.Er hI.row (by have := hI.len; omega) ⟨kd, x, A, B, E, D⟩) (by repeat (first | exact keeps_nil | apply keeps_cons (by repeat (first | exact find_head | apply find_tail)) (by first  | rfl) | exact keeps_self | apply keeps_mv)) trivial ?_)
        clear hl hh a w; intro vc Fc a w hR hl hh
        obtain ⟨rfl, rfl⟩ := hR
        try simp only [List.cons_append, List.nil_append] at hh
        replace hh := hh.comm; simp only [List.cons_append, List.nil_append, List.append_nil] at hh; have hok : (plainF s.rs ⟨kd, x, A, B, E, D⟩).ok := plainF_ok hqo hI.ok; generalize hp2 : plainF s.rs ⟨kd, x, A, B, E, D⟩ = o2 at hl hok; obtain ⟨kd2, x2, A2, B2, E2, D2⟩ := o2; simp only [MOp.vals] at hl; obtain ⟨fl2, hI2⟩ := hI.inv.do hok
        have hM : Mem [(gb, C [.pointer (some ⟨b, 0, none⟩), s.rv] 41), (k7, C [.int .u8 kd, .int .u32 x, .int .u64 A, .int .u64 B, .int .u64 E, .int .u64 D] 36)] w := (by repeat (first | exact Mem.nil | refine Mem.cons hh.mem (by repeat (first | exact find_head | apply find_tail)) ?_ | refine Mem.consR hh (by assumption) (by simp) ?_))
        refine d_step (fun _ => hM) ?_
        refine d_one (i := 7) (by kernel_rfl) rfl ?_
        try clear hM
        refine id (w_storeA hl hh trivial agg36 rfl rfl (by repeat (first | exact find_head | apply find_tail)) (by first | rfl | (simp; done)) (by first | (simp; done) | (simp; omega)) (by first | rfl | (simp; done)) (by first | (simp only [setL, List.getElem?_cons_zero, List.getElem?_cons_succ, Value.cells, List.take_zero, List.take_succ_cons, List.take_nil, List.drop_zero, List.drop_succ_cons, List.drop_nil, List.length_cons, List.length_nil, List.cons_append, List.nil_append, List.append_nil, Nat.zero_add, Nat.add_zero, Nat.reduceAdd, Nat.reduceBEq, Nat.reduceEqDiff, Nat.ble, BEq.rfl, Bool.and_true, Bool.and_self, cond_true, beq_self_eq_true]; rfl)) ?_)
        clear hh w; intro w hh
        refine d_step (fun h => absurd h (by decide)) ?_
        refine d_done (by kernel_rfl) ?_
        try clear hM
        have hl2 := hl.add (t := 3) (hl.add (t := 5) (hl.add (t := 8) (hl.add (t := 23) (hl.add (t := 24) (hl.add (t := 25) (hl.nil) rfl) rfl) rfl) rfl) rfl) rfl; clear hl; have hl := hl2; clear hl2
        refine then_normal ?_
        refine c_seq ?_
        refine c_region ?_
        refine wl (wl_val hl rfl trivial (r_move hl rfl) ?_)
        clear hl a; intro a hl
        first | refine wl (w_loadA hl hh rfl trivial agg36 rfl (by repeat (first | exact find_head | apply find_tail)) (by first | (simp only [List.getElem?_cons_zero, List.getElem?_cons_succ, Value.cells, List.take_zero, List.take_succ_cons, List.take_nil, List.drop_zero, List.drop_succ_cons, List.drop_nil, List.length_cons, List.length_nil, List.cons_append, List.nil_append, List.append_nil, Nat.zero_add, Nat.add_zero, Nat.reduceAdd, Nat.reduceBEq, Nat.reduceEqDiff, Nat.ble, BEq.rfl, Bool.and_true, Bool.and_self, cond_true, beq_self_eq_true]; rfl)) (by first | rfl | (simp; done)) ?_) | refine wl (w_loadRA hl hh rfl trivial agg36 rfl hm (by simp) hqv rfl ?_)
        clear hl a; intro a hl
        refine wl (w_call hl hh rfl trivial rfl cal17 rfl (gdo_spec gb b hI.inv (by omega) s.rs s.rv s.Er hI.row (by have := hI.len; omega) ⟨kd2, x2, A2, B2, E2, D2⟩ hok) (by repeat (first | exact keeps_nil | apply keeps_cons (by repeat (first | exact find_head | apply find_tail)) (by first  | rfl) | exact keeps_self | apply keeps_mv)) trivial ?_)
        clear hl hh a w; intro vc Fc a w hR hl hh
        obtain ⟨rfl, rv2, E3, hR2, rfl⟩ := hR
        try simp only [List.cons_append, List.nil_append] at hh
        replace hh := has_comm2 hh; simp only [List.cons_append, List.nil_append, List.append_nil] at hh; have hts := doF_st s.f ⟨kd2, x2, A2, B2, E2, D2⟩; generalize hr : (doF s.f ⟨kd2, x2, A2, B2, E2, D2⟩).ans = r at hl hts; obtain ⟨t, pp, u, u1⟩ := r; simp only [Ans.l] at hl; simp only at hts
        refine wl (w_alloc hl hh rfl trivial zero44 rfl ?_)
        clear hl hh a w; intro k9 a w hl hh
        refine wl (w_storeA hl hh trivial agg44 rfl rfl (by repeat (first | exact find_head | apply find_tail)) (by first | rfl | (simp; done)) (by first | (simp; done) | (simp; omega)) (by first | rfl | (simp; done)) (by first | (simp only [setL, List.getElem?_cons_zero, List.getElem?_cons_succ, Value.cells, List.take_zero, List.take_succ_cons, List.take_nil, List.drop_zero, List.drop_succ_cons, List.drop_nil, List.length_cons, List.length_nil, List.cons_append, List.nil_append, List.append_nil, Nat.zero_add, Nat.add_zero, Nat.reduceAdd, Nat.reduceBEq, Nat.reduceEqDiff, Nat.ble, BEq.rfl, Bool.and_true, Bool.and_self, cond_true, beq_self_eq_true]; rfl)) ?_)
        clear hh w; intro w hh
        refine w_nil ?_
        have hl2 := hl.add (t := 3) (hl.add (t := 5) (hl.add (t := 8) (hl.add (t := 9) (hl.add (t := 23) (hl.add (t := 24) (hl.add (t := 25) (hl.nil) rfl) rfl) rfl) rfl) rfl) rfl) rfl; clear hl; have hl := hl2; clear hl2
        refine then_normal ?_
        refine c_seq ?_
        refine c_region ?_
        refine wl (wl_val hl rfl trivial (r_field hl rfl fld36_1) ?_)
        clear hl a; intro a hl
        refine wl (w_load hl hh rfl trivial one34 rfl (by repeat (first | exact find_head | apply find_tail)) (by first | rfl) ?_)
        clear hl a; intro a hl
        refine wl (wl_val hl rfl trivial (r_assign hl rfl) ?_)
        clear hl a; intro a hl
        refine w_nil ?_
        have hl2 := hl.add (t := 3) (hl.add (t := 5) (hl.add (t := 8) (hl.add (t := 9) (hl.add (t := 10) (hl.add (t := 23) (hl.add (t := 24) (hl.add (t := 25) (hl.nil) rfl) rfl) rfl) rfl) rfl) rfl) rfl) rfl; clear hl; have hl := hl2; clear hl2
        refine then_normal ?_
        refine c_seq ?_
        refine c_seq ?_
        refine c_region ?_
        refine wl (wl_val hl rfl trivial (r_field hl rfl fld36_0) ?_)
        clear hl a; intro a hl
        refine wl (w_load hl hh rfl trivial one32 rfl (by repeat (first | exact find_head | apply find_tail)) (by first | rfl) ?_)
        clear hl a; intro a hl
        refine wl (wl_val hl rfl trivial (r_gtr hl rfl rfl) ?_)
        clear hl a; intro a hl
        refine w_nil ?_
        have hl2 := hl.add (t := 3) (hl.add (t := 5) (hl.add (t := 8) (hl.add (t := 9) (hl.add (t := 10) (hl.add (t := 23) (hl.add (t := 24) (hl.add (t := 25) (hl.add (t := 42) (hl.nil) rfl) rfl) rfl) rfl) rfl) rfl) rfl) rfl) rfl; clear hl; have hl := hl2; clear hl2
        refine then_normal ?_
        refine c_cond hl rfl ?_ ?_
        · intro hc2
          try simp only [decide_eq_true_eq, decide_eq_false_iff_not, Bool.not_eq_true', Bool.not_eq_false', Bool.not_eq_true, Bool.not_eq_false, Bool.and_eq_true, Bool.or_eq_true, Bool.and_eq_false_iff, Bool.or_eq_false_iff, Bool.not_not, ne_eq, Int.not_lt, Int.not_le, Decidable.not_not, beq_iff_eq, bne_iff_ne] at hc2
          have hfk := fun i hi => doF_words hI.inv ⟨kd2, x2, A2, B2, E2, D2⟩ (by simp only; omega) i hi
          refine wp_exit ?_
          refine then_exit ?_
          refine blk_exit ?_
          refine then_normal ?_
          refine c_region ?_
          first | refine wl (wl_val hl rfl trivial (r_add hl rfl rfl (by simp only [Fits]; omega)) ?_) | refine wl (wl_val hl rfl trivial (r_addW hl rfl rfl) ?_)
          clear hl a; intro a hl
          refine wl (wl_val hl rfl trivial (r_move hl rfl) ?_)
          clear hl a; intro a hl
          refine w_nil ?_
          have hl2 := hl.add (t := 3) (hl.add (t := 5) (hl.add (t := 23) (hl.add (t := 24) (hl.add (t := 25) (hl.nil) rfl) rfl) rfl) rfl) rfl; clear hl; have hl := hl2; clear hl2
          refine then_normal ?_
          refine ⟨⟨s.i + 1, (doF s.f ⟨kd2, x2, A2, B2, E2, D2⟩).f, fl2, keepF s.rs ⟨kd2, x2, A2, B2, E2, D2⟩ (doF s.f ⟨kd2, x2, A2, B2, E2, D2⟩).ans, rv2, E3⟩, (by dsimp only; omega), hI.next hi hok hI2 hR2, hl.addE (t := 25) (hl.addE (t := 3) (hl.addE (t := 5) (hl.addE (t := 23) (hl.addE (t := 24) (hl.nil) rfl (by first | rfl | rfl)) rfl (by first | rfl | rfl)) rfl (by first | rfl | rfl)) rfl (by first | rfl | rfl)) rfl (by first | rfl | rfl), (by simp only [List.cons_append, List.nil_append, List.append_nil]; exact hh.keep (by repeat (first | exact keeps_nil | apply keeps_cons (by repeat (first | exact find_head | apply find_tail)) (by first  | exact arr_obj (fun i hi => by first | (simp only [hfk, wV, updV, word_setWord]; done) | (simp only [hfk, wV, updV, word_setWord]; (repeat' split) <;> first | rfl | omega | (simp_all; done)) | (simp only [wV]; rw [hfk i hi])) | rfl) | exact keeps_self | apply keeps_mv)))⟩
        · intro hc2
          try simp only [decide_eq_true_eq, decide_eq_false_iff_not, Bool.not_eq_true', Bool.not_eq_false', Bool.not_eq_true, Bool.not_eq_false, Bool.and_eq_true, Bool.or_eq_true, Bool.and_eq_false_iff, Bool.or_eq_false_iff, Bool.not_not, ne_eq, Int.not_lt, Int.not_le, Decidable.not_not, beq_iff_eq, bne_iff_ne] at hc2
          refine wp_skip ?_
          refine then_normal ?_
          refine c_seq ?_
          refine c_seq ?_
          refine c_region ?_
          refine wl (wl_val hl rfl trivial (r_move hl rfl) ?_)
          clear hl a; intro a hl
          refine wl (w_call hl hh rfl trivial rfl cal24 rfl (usable_spec x2) (by repeat (first | exact keeps_nil | apply keeps_cons (by repeat (first | exact find_head | apply find_tail)) (by first  | rfl) | exact keeps_self | apply keeps_mv)) trivial ?_)
          clear hl hh a w; intro vc Fc a w hR hl hh
          obtain ⟨rfl, rfl⟩ := hR
          try simp only [List.cons_append, List.nil_append] at hh
          refine wl (wl_val hl rfl trivial (r_not hl rfl) ?_)
          clear hl a; intro a hl
          refine wl (wl_val hl rfl trivial (r_move hl rfl) ?_)
          clear hl a; intro a hl
          refine sl_split (t := 46) hl rfl ?_ ?_
          · intro hg5; clear hl; intro hl
            try simp only [decide_eq_true_eq, decide_eq_false_iff_not, Bool.not_eq_true', Bool.not_eq_false', Bool.not_eq_true, Bool.not_eq_false, Bool.and_eq_true, Bool.or_eq_true, Bool.and_eq_false_iff, Bool.or_eq_false_iff, Bool.not_not, ne_eq, Int.not_lt, Int.not_le, Decidable.not_not, beq_iff_eq, bne_iff_ne] at hg5
            refine wl (wl_skip hl rfl ⟨_, _, rfl, rfl, rfl⟩ ?_)
            clear hl a; intro a hl
            refine wl (wl_skip hl rfl ⟨_, _, rfl, rfl, rfl⟩ ?_)
            clear hl a; intro a hl
            refine wl (wl_skip hl rfl ⟨_, _, rfl, rfl, rfl⟩ ?_)
            clear hl a; intro a hl
            refine wl (wl_skip hl rfl ⟨_, _, rfl, rfl, rfl⟩ ?_)
            clear hl a; intro a hl
            refine wl (wl_skipU hl rfl ⟨_, _, rfl, rfl, rfl⟩ ?_)
            clear hl a; intro a hl
            refine wl (wl_skipU hl rfl ⟨_, _, rfl, rfl, rfl⟩ ?_)
            clear hl a; intro a hl
            refine wl (wl_skipU hl rfl ⟨_, _, rfl, rfl, rfl⟩ ?_)
            clear hl a; intro a hl
            refine wl (wl_skip hl rfl ⟨_, _, rfl, rfl, rfl⟩ ?_)
            clear hl a; intro a hl
            refine wl (wl_val hl rfl trivial (r_pickT hl rfl rfl) ?_)
            clear hl a; intro a hl
            refine w_nil ?_
            have hl2 := hl.add (t := 3) (hl.add (t := 5) (hl.add (t := 8) (hl.add (t := 9) (hl.add (t := 10) (hl.add (t := 23) (hl.add (t := 24) (hl.add (t := 25) (hl.add (t := 55) (hl.nil) rfl) rfl) rfl) rfl) rfl) rfl) rfl) rfl) rfl; clear hl; have hl := hl2; clear hl2
            refine then_normal ?_
            refine c_condT hl rfl ?_
            have hbad := doF_bad s.f ⟨kd2, x2, A2, B2, E2, D2⟩ (by simp only; omega) (by simp only; omega)
            obtain ⟨hfk, _⟩ := doF_refuse s.f ⟨kd2, x2, A2, B2, E2, D2⟩ hbad
            rw [hr] at hbad
            simp only at hbad
            refine c_seq ?_
            refine c_seq ?_
            refine c_region ?_
            refine wl (wl_val hl rfl trivial (r_field hl rfl fld44_0) ?_)
            clear hl a; intro a hl
            refine wl (w_load hl hh rfl trivial one42 rfl (by repeat (first | exact find_head | apply find_tail)) (by first | rfl) ?_)
            clear hl a; intro a hl
            refine wl (wl_val hl rfl trivial (r_eql hl rfl rfl) ?_)
            clear hl a; intro a hl
            refine w_nil ?_
            have hl2 := hl.add (t := 3) (hl.add (t := 5) (hl.add (t := 23) (hl.add (t := 24) (hl.add (t := 25) (hl.add (t := 58) (hl.nil) rfl) rfl) rfl) rfl) rfl) rfl; clear hl; have hl := hl2; clear hl2
            refine then_normal ?_
            refine c_cond hl rfl ?_ ?_
            · intro hc4
              try simp only [decide_eq_true_eq, decide_eq_false_iff_not, Bool.not_eq_true', Bool.not_eq_false', Bool.not_eq_true, Bool.not_eq_false, Bool.and_eq_true, Bool.or_eq_true, Bool.and_eq_false_iff, Bool.or_eq_false_iff, Bool.not_not, ne_eq, Int.not_lt, Int.not_le, Decidable.not_not, beq_iff_eq, bne_iff_ne] at hc4
              exact absurd hc4 hbad
            · intro hc4
              try simp only [decide_eq_true_eq, decide_eq_false_iff_not, Bool.not_eq_true', Bool.not_eq_false', Bool.not_eq_true, Bool.not_eq_false, Bool.and_eq_true, Bool.or_eq_true, Bool.and_eq_false_iff, Bool.or_eq_false_iff, Bool.not_not, ne_eq, Int.not_lt, Int.not_le, Decidable.not_not, beq_iff_eq, bne_iff_ne] at hc4
              refine wp_skip ?_
              refine then_normal ?_
              refine wp_exit ?_
              refine then_exit ?_
              refine blk_exit ?_
              refine then_normal ?_
              refine c_region ?_
              first | refine wl (wl_val hl rfl trivial (r_add hl rfl rfl (by simp only [Fits]; omega)) ?_) | refine wl (wl_val hl rfl trivial (r_addW hl rfl rfl) ?_)
              clear hl a; intro a hl
              refine wl (wl_val hl rfl trivial (r_move hl rfl) ?_)
              clear hl a; intro a hl
              refine w_nil ?_
              have hl2 := hl.add (t := 3) (hl.add (t := 5) (hl.add (t := 23) (hl.add (t := 24) (hl.add (t := 25) (hl.nil) rfl) rfl) rfl) rfl) rfl; clear hl; have hl := hl2; clear hl2
              refine then_normal ?_
              refine ⟨⟨s.i + 1, (doF s.f ⟨kd2, x2, A2, B2, E2, D2⟩).f, fl2, keepF s.rs ⟨kd2, x2, A2, B2, E2, D2⟩ (doF s.f ⟨kd2, x2, A2, B2, E2, D2⟩).ans, rv2, E3⟩, (by dsimp only; omega), hI.next hi hok hI2 hR2, hl.addE (t := 25) (hl.addE (t := 3) (hl.addE (t := 5) (hl.addE (t := 23) (hl.addE (t := 24) (hl.nil) rfl (by first | rfl | rfl)) rfl (by first | rfl | rfl)) rfl (by first | rfl | rfl)) rfl (by first | rfl | rfl)) rfl (by first | rfl | rfl), (by simp only [List.cons_append, List.nil_append, List.append_nil]; exact hh.keep (by repeat (first | exact keeps_nil | apply keeps_cons (by repeat (first | exact find_head | apply find_tail)) (by first  | exact arr_obj (fun i hi => by first | (simp only [hfk, wV, updV, word_setWord]; done) | (simp only [hfk, wV, updV, word_setWord]; (repeat' split) <;> first | rfl | omega | (simp_all; done)) | (simp only [wV]; rw [hfk i hi])) | rfl) | exact keeps_self | apply keeps_mv)))⟩
          · intro hg5; clear hl; intro hl
            try simp only [decide_eq_true_eq, decide_eq_false_iff_not, Bool.not_eq_true', Bool.not_eq_false', Bool.not_eq_true, Bool.not_eq_false, Bool.and_eq_true, Bool.or_eq_true, Bool.and_eq_false_iff, Bool.or_eq_false_iff, Bool.not_not, ne_eq, Int.not_lt, Int.not_le, Decidable.not_not, beq_iff_eq, bne_iff_ne] at hg5
            refine wl (wl_val hl rfl ⟨_, _, rfl, rfl, rfl⟩ (r_field hl rfl fld36_0) ?_)
            clear hl a; intro a hl
            refine wl (w_load hl hh rfl ⟨_, _, rfl, rfl, rfl⟩ one32 rfl (by repeat (first | exact find_head | apply find_tail)) (by first | rfl) ?_)
            clear hl a; intro a hl
            refine wl (wl_val hl rfl ⟨_, _, rfl, rfl, rfl⟩ (r_eql hl rfl rfl) ?_)
            clear hl a; intro a hl
            refine wl (wl_val hl rfl ⟨_, _, rfl, rfl, rfl⟩ (r_move hl rfl) ?_)
            clear hl a; intro a hl
            refine sl_split (t := 50) hl rfl ?_ ?_
            · intro hg6; clear hl; intro hl
              try simp only [decide_eq_true_eq, decide_eq_false_iff_not, Bool.not_eq_true', Bool.not_eq_false', Bool.not_eq_true, Bool.not_eq_false, Bool.and_eq_true, Bool.or_eq_true, Bool.and_eq_false_iff, Bool.or_eq_false_iff, Bool.not_not, ne_eq, Int.not_lt, Int.not_le, Decidable.not_not, beq_iff_eq, bne_iff_ne] at hg6
              refine wl (wl_val hl rfl ⟨_, _, rfl, rfl, rfl⟩ (r_move hl rfl) ?_)
              clear hl a; intro a hl
              first | refine wl (wl_val hl rfl ⟨_, _, rfl, rfl, rfl⟩ (r_rem hl rfl rfl (by omega) (by omega)) ?_) | refine wl (wl_val hl rfl ⟨_, _, rfl, rfl, rfl⟩ (r_remT hl rfl rfl (by omega)) ?_)
              clear hl a; intro a hl
              refine wl (wl_val hl rfl ⟨_, _, rfl, rfl, rfl⟩ (r_eql hl rfl rfl) ?_)
              clear hl a; intro a hl
              refine wl (wl_val hl rfl ⟨_, _, rfl, rfl, rfl⟩ (r_pickT hl rfl rfl) ?_)
              clear hl a; intro a hl
              refine wl (wl_val hl rfl trivial (r_pickF hl rfl rfl) ?_)
              clear hl a; intro a hl
              refine w_nil ?_
              have hl2 := hl.add (t := 3) (hl.add (t := 5) (hl.add (t := 8) (hl.add (t := 9) (hl.add (t := 10) (hl.add (t := 23) (hl.add (t := 24) (hl.add (t := 25) (hl.add (t := 55) (hl.nil) rfl) rfl) rfl) rfl) rfl) rfl) rfl) rfl) rfl; clear hl; have hl := hl2; clear hl2
              refine then_normal ?_
              refine c_cond hl rfl ?_ ?_
              · intro hc3
                try simp only [decide_eq_true_eq, decide_eq_false_iff_not, Bool.not_eq_true', Bool.not_eq_false', Bool.not_eq_true, Bool.not_eq_false, Bool.and_eq_true, Bool.or_eq_true, Bool.and_eq_false_iff, Bool.or_eq_false_iff, Bool.not_not, ne_eq, Int.not_lt, Int.not_le, Decidable.not_not, beq_iff_eq, bne_iff_ne] at hc3
                have hbad := doF_bad s.f ⟨kd2, x2, A2, B2, E2, D2⟩ (by simp only; omega) (by simp only; omega)
                obtain ⟨hfk, _⟩ := doF_refuse s.f ⟨kd2, x2, A2, B2, E2, D2⟩ hbad
                rw [hr] at hbad
                simp only at hbad
                refine c_seq ?_
                refine c_seq ?_
                refine c_region ?_
                refine wl (wl_val hl rfl trivial (r_field hl rfl fld44_0) ?_)
                clear hl a; intro a hl
                refine wl (w_load hl hh rfl trivial one42 rfl (by repeat (first | exact find_head | apply find_tail)) (by first | rfl) ?_)
                clear hl a; intro a hl
                refine wl (wl_val hl rfl trivial (r_eql hl rfl rfl) ?_)
                clear hl a; intro a hl
                refine w_nil ?_
                have hl2 := hl.add (t := 3) (hl.add (t := 5) (hl.add (t := 23) (hl.add (t := 24) (hl.add (t := 25) (hl.add (t := 58) (hl.nil) rfl) rfl) rfl) rfl) rfl) rfl; clear hl; have hl := hl2; clear hl2
                refine then_normal ?_
                refine c_cond hl rfl ?_ ?_
                · intro hc4
                  try simp only [decide_eq_true_eq, decide_eq_false_iff_not, Bool.not_eq_true', Bool.not_eq_false', Bool.not_eq_true, Bool.not_eq_false, Bool.and_eq_true, Bool.or_eq_true, Bool.and_eq_false_iff, Bool.or_eq_false_iff, Bool.not_not, ne_eq, Int.not_lt, Int.not_le, Decidable.not_not, beq_iff_eq, bne_iff_ne] at hc4
                  exact absurd hc4 hbad
                · intro hc4
                  try simp only [decide_eq_true_eq, decide_eq_false_iff_not, Bool.not_eq_true', Bool.not_eq_false', Bool.not_eq_true, Bool.not_eq_false, Bool.and_eq_true, Bool.or_eq_true, Bool.and_eq_false_iff, Bool.or_eq_false_iff, Bool.not_not, ne_eq, Int.not_lt, Int.not_le, Decidable.not_not, beq_iff_eq, bne_iff_ne] at hc4
                  refine wp_skip ?_
                  refine then_normal ?_
                  refine wp_exit ?_
                  refine then_exit ?_
                  refine blk_exit ?_
                  refine then_normal ?_
                  refine c_region ?_
                  first | refine wl (wl_val hl rfl trivial (r_add hl rfl rfl (by simp only [Fits]; omega)) ?_) | refine wl (wl_val hl rfl trivial (r_addW hl rfl rfl) ?_)
                  clear hl a; intro a hl
                  refine wl (wl_val hl rfl trivial (r_move hl rfl) ?_)
                  clear hl a; intro a hl
                  refine w_nil ?_
                  have hl2 := hl.add (t := 3) (hl.add (t := 5) (hl.add (t := 23) (hl.add (t := 24) (hl.add (t := 25) (hl.nil) rfl) rfl) rfl) rfl) rfl; clear hl; have hl := hl2; clear hl2
                  refine then_normal ?_
                  refine ⟨⟨s.i + 1, (doF s.f ⟨kd2, x2, A2, B2, E2, D2⟩).f, fl2, keepF s.rs ⟨kd2, x2, A2, B2, E2, D2⟩ (doF s.f ⟨kd2, x2, A2, B2, E2, D2⟩).ans, rv2, E3⟩, (by dsimp only; omega), hI.next hi hok hI2 hR2, hl.addE (t := 25) (hl.addE (t := 3) (hl.addE (t := 5) (hl.addE (t := 23) (hl.addE (t := 24) (hl.nil) rfl (by first | rfl | rfl)) rfl (by first | rfl | rfl)) rfl (by first | rfl | rfl)) rfl (by first | rfl | rfl)) rfl (by first | rfl | rfl), (by simp only [List.cons_append, List.nil_append, List.append_nil]; exact hh.keep (by repeat (first | exact keeps_nil | apply keeps_cons (by repeat (first | exact find_head | apply find_tail)) (by first  | exact arr_obj (fun i hi => by first | (simp only [hfk, wV, updV, word_setWord]; done) | (simp only [hfk, wV, updV, word_setWord]; (repeat' split) <;> first | rfl | omega | (simp_all; done)) | (simp only [wV]; rw [hfk i hi])) | rfl) | exact keeps_self | apply keeps_mv)))⟩
              · intro hc3
                try simp only [decide_eq_true_eq, decide_eq_false_iff_not, Bool.not_eq_true', Bool.not_eq_false', Bool.not_eq_true, Bool.not_eq_false, Bool.and_eq_true, Bool.or_eq_true, Bool.and_eq_false_iff, Bool.or_eq_false_iff, Bool.not_not, ne_eq, Int.not_lt, Int.not_le, Decidable.not_not, beq_iff_eq, bne_iff_ne] at hc3
                have hx : 2 ≤ x2 ∧ x2 < 4096 := by omega
                have hwd := hI.inv.words x2 hx.2
                simp only [Fits] at hwd
                refine wp_skip ?_
                refine then_normal ?_
                refine c_seq ?_
                refine c_region ?_
                refine wl (wl_val hl rfl trivial (r_move hl rfl) ?_)
                clear hl a; intro a hl
                refine wl (wl_val hl rfl trivial (r_indexA hl rfl rfl arr58 (by omega) (by omega) (by first | (simp only [Int.reduceToNat]; rfl) | exact toNat_add1 _ | exact toNat_add2 _ _ | exact toNat_emod _ _ | exact Int.toNat_natCast _ | rfl)) ?_)
                clear hl a; intro a hl
                refine wl (w_load hl hh rfl trivial one27 rfl (by repeat (first | exact find_head | apply find_tail)) (by exact arr_load (by omega)) ?_)
                clear hl a; intro a hl
                refine wl (wl_val hl rfl trivial (r_build hl rfl zero44 bld44 (by simp only [fillL, setL, List.getElem?_cons_zero, List.getElem?_cons_succ, Value.cells, List.take_zero, List.take_succ_cons, List.take_nil, List.drop_zero, List.drop_succ_cons, List.drop_nil, List.length_cons, List.length_nil, List.cons_append, List.nil_append, List.append_nil, Nat.zero_add, Nat.add_zero, Nat.reduceAdd, Nat.reduceBEq, Nat.reduceEqDiff, Nat.ble, BEq.rfl, Bool.and_true, Bool.and_self, cond_true, beq_self_eq_true]; rfl)) ?_)
                clear hl a; intro a hl
                refine wl (w_alloc hl hh rfl trivial zero44 rfl ?_)
                clear hl hh a w; intro k11 a w hl hh
                refine wl (w_storeA hl hh trivial agg44 rfl rfl (by repeat (first | exact find_head | apply find_tail)) (by first | rfl | (simp; done)) (by first | (simp; done) | (simp; omega)) (by first | rfl | (simp; done)) (by first | (simp only [setL, List.getElem?_cons_zero, List.getElem?_cons_succ, Value.cells, List.take_zero, List.take_succ_cons, List.take_nil, List.drop_zero, List.drop_succ_cons, List.drop_nil, List.length_cons, List.length_nil, List.cons_append, List.nil_append, List.append_nil, Nat.zero_add, Nat.add_zero, Nat.reduceAdd, Nat.reduceBEq, Nat.reduceEqDiff, Nat.ble, BEq.rfl, Bool.and_true, Bool.and_self, cond_true, beq_self_eq_true]; rfl)) ?_)
                clear hh w; intro w hh
                refine w_nil ?_
                have hl2 := hl.add (t := 3) (hl.add (t := 5) (hl.add (t := 8) (hl.add (t := 9) (hl.add (t := 10) (hl.add (t := 11) (hl.add (t := 23) (hl.add (t := 24) (hl.add (t := 25) (hl.nil) rfl) rfl) rfl) rfl) rfl) rfl) rfl) rfl) rfl; clear hl; have hl := hl2; clear hl2
                refine then_normal ?_
                refine c_seq ?_
                refine c_seq ?_
                refine c_region ?_
                refine wl (wl_val hl rfl trivial (r_field hl rfl fld36_0) ?_)
                clear hl a; intro a hl
                refine wl (w_load hl hh rfl trivial one32 rfl (by repeat (first | exact find_head | apply find_tail)) (by first | rfl) ?_)
                clear hl a; intro a hl
                refine w_nil ?_
                have hl2 := hl.add (t := 3) (hl.add (t := 5) (hl.add (t := 8) (hl.add (t := 9) (hl.add (t := 10) (hl.add (t := 11) (hl.add (t := 23) (hl.add (t := 24) (hl.add (t := 25) (hl.add (t := 64) (hl.nil) rfl) rfl) rfl) rfl) rfl) rfl) rfl) rfl) rfl) rfl; clear hl; have hl := hl2; clear hl2
                refine then_normal ?_
                refine wp_block ?_
                refine c_seq ?_
                refine c_region ?_
                refine wl (wl_val hl rfl trivial (r_eql hl rfl rfl) ?_)
                clear hl a; intro a hl
                refine wl (wl_val hl rfl trivial (r_assign hl rfl) ?_)
                clear hl a; intro a hl
                refine w_nil ?_
                have hl2 := hl.add (t := 3) (hl.add (t := 5) (hl.add (t := 8) (hl.add (t := 9) (hl.add (t := 10) (hl.add (t := 11) (hl.add (t := 23) (hl.add (t := 24) (hl.add (t := 25) (hl.add (t := 64) (hl.add (t := 65) (hl.nil) rfl) rfl) rfl) rfl) rfl) rfl) rfl) rfl) rfl) rfl) rfl; clear hl; have hl := hl2; clear hl2
                refine then_normal ?_
                refine c_cond hl rfl ?_ ?_
                · intro hc5
                  try simp only [decide_eq_true_eq, decide_eq_false_iff_not, Bool.not_eq_true', Bool.not_eq_false', Bool.not_eq_true, Bool.not_eq_false, Bool.and_eq_true, Bool.or_eq_true, Bool.and_eq_false_iff, Bool.or_eq_false_iff, Bool.not_not, ne_eq, Int.not_lt, Int.not_le, Decidable.not_not, beq_iff_eq, bne_iff_ne] at hc5
                  obtain ⟨ha, hfk⟩ := doF_1 s.f ⟨kd2, x2, A2, B2, E2, D2⟩ (by simp only; omega) hx
                  rw [hr] at ha
                  try simp only at hfk
                  injection ha with e0 e1 e2 e3
                  subst e0; subst e1; subst e2; subst e3
                  refine c_seq ?_
                  refine c_region ?_
                  refine wl (wl_val hl rfl trivial (r_field hl rfl fld44_2) ?_)
                  clear hl a; intro a hl
                  refine wl (w_store hl hh trivial one27 rfl rfl (by repeat (first | exact find_head | apply find_tail)) (by first | (simp; done) | (simp; omega)) (by first | rfl | (apply Row.one; assumption)) (by first | (simp only [setL, List.getElem?_cons_zero, List.getElem?_cons_succ, Value.cells, List.take_zero, List.take_succ_cons, List.take_nil, List.drop_zero, List.drop_succ_cons, List.drop_nil, List.length_cons, List.length_nil, List.cons_append, List.nil_append, List.append_nil, Nat.zero_add, Nat.add_zero, Nat.reduceAdd, Nat.reduceBEq, Nat.reduceEqDiff, Nat.ble, BEq.rfl, Bool.and_true, Bool.and_self, cond_true, beq_self_eq_true]; rfl)) ?_)
                  clear hh w; intro w hh
                  refine w_nil ?_
                  have hl2 := hl.add (t := 3) (hl.add (t := 5) (hl.add (t := 8) (hl.add (t := 9) (hl.add (t := 10) (hl.add (t := 11) (hl.add (t := 23) (hl.add (t := 24) (hl.add (t := 25) (hl.nil) rfl) rfl) rfl) rfl) rfl) rfl) rfl) rfl) rfl; clear hl; have hl := hl2; clear hl2
                  refine then_normal ?_
                  refine c_region ?_
                  refine wl (wl_val hl rfl trivial (r_move hl rfl) ?_)
                  clear hl a; intro a hl
                  refine wl (wl_val hl rfl trivial (r_field hl rfl fld36_2) ?_)
                  clear hl a; intro a hl
                  refine wl (w_load hl hh rfl trivial one27 rfl (by repeat (first | exact find_head | apply find_tail)) (by first | rfl) ?_)
                  clear hl a; intro a hl
                  refine wl (wl_val hl rfl trivial (r_indexA hl rfl rfl arr58 (by omega) (by omega) (by first | (simp only [Int.reduceToNat]; rfl) | exact toNat_add1 _ | exact toNat_add2 _ _ | exact toNat_emod _ _ | exact Int.toNat_natCast _ | rfl)) ?_)
                  clear hl a; intro a hl
                  refine wl (w_store hl hh trivial one27 rfl rfl (by repeat (first | exact find_head | apply find_tail)) (by rw [arrL_length]; omega) (by first | rfl | (apply Row.one; assumption)) (by exact arr_store (by omega)) ?_)
                  clear hh w; intro w hh
                  refine w_nil ?_
                  have hl2 := hl.add (t := 3) (hl.add (t := 5) (hl.add (t := 9) (hl.add (t := 11) (hl.add (t := 23) (hl.add (t := 24) (hl.add (t := 25) (hl.nil) rfl) rfl) rfl) rfl) rfl) rfl) rfl; clear hl; have hl := hl2; clear hl2
                  refine blk_normal ?_
                  refine then_normal ?_
                  refine c_seq ?_
                  refine c_region ?_
                  first | refine wl (w_loadA hl hh rfl trivial agg44 rfl (by repeat (first | exact find_head | apply find_tail)) (by first | (simp only [List.getElem?_cons_zero, List.getElem?_cons_succ, Value.cells, List.take_zero, List.take_succ_cons, List.take_nil, List.drop_zero, List.drop_succ_cons, List.drop_nil, List.length_cons, List.length_nil, List.cons_append, List.nil_append, List.append_nil, Nat.zero_add, Nat.add_zero, Nat.reduceAdd, Nat.reduceBEq, Nat.reduceEqDiff, Nat.ble, BEq.rfl, Bool.and_true, Bool.and_self, cond_true, beq_self_eq_true]; rfl)) (by first | rfl | (simp; done)) ?_) | refine wl (w_loadRA hl hh rfl trivial agg44 rfl hm (by simp) hqv rfl ?_)
                  clear hl a; intro a hl
                  first | refine wl (w_loadA hl hh rfl trivial agg44 rfl (by repeat (first | exact find_head | apply find_tail)) (by first | (simp only [List.getElem?_cons_zero, List.getElem?_cons_succ, Value.cells, List.take_zero, List.take_succ_cons, List.take_nil, List.drop_zero, List.drop_succ_cons, List.drop_nil, List.length_cons, List.length_nil, List.cons_append, List.nil_append, List.append_nil, Nat.zero_add, Nat.add_zero, Nat.reduceAdd, Nat.reduceBEq, Nat.reduceEqDiff, Nat.ble, BEq.rfl, Bool.and_true, Bool.and_self, cond_true, beq_self_eq_true]; rfl)) (by first | rfl | (simp; done)) ?_) | refine wl (w_loadRA hl hh rfl trivial agg44 rfl hm (by simp) hqv rfl ?_)
                  clear hl a; intro a hl
                  refine wl (wl_val hl rfl trivial (r_neqA hl rfl rfl eqf44 shp44 (by simp only [unlitL, unlit]; rfl) (by simp only [unlitL, unlit]; rfl) (by first | exact ⟨trivial⟩ | (refine ⟨?_⟩; simp [LitsOk, litOk, Fits]; done) | (refine ⟨?_⟩; simp [LitsOk, litOk, Fits]; omega)) (by first | exact ⟨trivial⟩ | (refine ⟨?_⟩; simp [LitsOk, litOk, Fits]; done) | (refine ⟨?_⟩; simp [LitsOk, litOk, Fits]; omega))) ?_)
                  clear hl a; intro a hl
                  refine w_nil ?_
                  have hl2 := hl.add (t := 3) (hl.add (t := 5) (hl.add (t := 23) (hl.add (t := 24) (hl.add (t := 25) (hl.add (t := 132) (hl.nil) rfl) rfl) rfl) rfl) rfl) rfl; clear hl; have hl := hl2; clear hl2
                  refine then_normal ?_
                  refine c_cond hl rfl ?_ ?_
                  · intro hc11
                    try simp only [decide_eq_true_eq, decide_eq_false_iff_not, Bool.not_eq_true', Bool.not_eq_false', Bool.not_eq_true, Bool.not_eq_false, Bool.and_eq_true, Bool.or_eq_true, Bool.and_eq_false_iff, Bool.or_eq_false_iff, Bool.not_not, ne_eq, Int.not_lt, Int.not_le, Decidable.not_not, beq_iff_eq, bne_iff_ne] at hc11
                    exfalso; first | (simp [eqLits, litBeq] at hc11; done) | (simp_all [eqLits, litBeq]; done)
                  · intro hc11
                    try simp only [decide_eq_true_eq, decide_eq_false_iff_not, Bool.not_eq_true', Bool.not_eq_false', Bool.not_eq_true, Bool.not_eq_false, Bool.and_eq_true, Bool.or_eq_true, Bool.and_eq_false_iff, Bool.or_eq_false_iff, Bool.not_not, ne_eq, Int.not_lt, Int.not_le, Decidable.not_not, beq_iff_eq, bne_iff_ne] at hc11
                    refine wp_skip ?_
                    refine blk_normal ?_
                    refine then_normal ?_
                    refine c_region ?_
                    first | refine wl (wl_val hl rfl trivial (r_add hl rfl rfl (by simp only [Fits]; omega)) ?_) | refine wl (wl_val hl rfl trivial (r_addW hl rfl rfl) ?_)
                    clear hl a; intro a hl
                    refine wl (wl_val hl rfl trivial (r_move hl rfl) ?_)
                    clear hl a; intro a hl
                    refine w_nil ?_
                    have hl2 := hl.add (t := 3) (hl.add (t := 5) (hl.add (t := 23) (hl.add (t := 24) (hl.add (t := 25) (hl.nil) rfl) rfl) rfl) rfl) rfl; clear hl; have hl := hl2; clear hl2
                    refine then_normal ?_
                    refine ⟨⟨s.i + 1, (doF s.f ⟨kd2, x2, A2, B2, E2, D2⟩).f, fl2, keepF s.rs ⟨kd2, x2, A2, B2, E2, D2⟩ (doF s.f ⟨kd2, x2, A2, B2, E2, D2⟩).ans, rv2, E3⟩, (by dsimp only; omega), hI.next hi hok hI2 hR2, hl.addE (t := 25) (hl.addE (t := 3) (hl.addE (t := 5) (hl.addE (t := 23) (hl.addE (t := 24) (hl.nil) rfl (by first | rfl | rfl)) rfl (by first | rfl | rfl)) rfl (by first | rfl | rfl)) rfl (by first | rfl | rfl)) rfl (by first | rfl | rfl), (by simp only [List.cons_append, List.nil_append, List.append_nil]; exact hh.keep (by repeat (first | exact keeps_nil | apply keeps_cons (by repeat (first | exact find_head | apply find_tail)) (by first  | exact arr_obj (fun i hi => by first | (simp only [hfk, wV, updV, word_setWord]; done) | (simp only [hfk, wV, updV, word_setWord]; (repeat' split) <;> first | rfl | omega | (simp_all; done)) | (simp only [wV]; rw [hfk i hi])) | rfl) | exact keeps_self | apply keeps_mv)))⟩
                · intro hc5
                  try simp only [decide_eq_true_eq, decide_eq_false_iff_not, Bool.not_eq_true', Bool.not_eq_false', Bool.not_eq_true, Bool.not_eq_false, Bool.and_eq_true, Bool.or_eq_true, Bool.and_eq_false_iff, Bool.or_eq_false_iff, Bool.not_not, ne_eq, Int.not_lt, Int.not_le, Decidable.not_not, beq_iff_eq, bne_iff_ne] at hc5
                  refine c_seq ?_
                  refine c_region ?_
                  refine wl (wl_val hl rfl trivial (r_eql hl rfl rfl) ?_)
                  clear hl a; intro a hl
                  refine wl (wl_val hl rfl trivial (r_assign hl rfl) ?_)
                  clear hl a; intro a hl
                  refine w_nil ?_
                  have hl2 := hl.add (t := 3) (hl.add (t := 5) (hl.add (t := 8) (hl.add (t := 9) (hl.add (t := 10) (hl.add (t := 11) (hl.add (t := 23) (hl.add (t := 24) (hl.add (t := 25) (hl.add (t := 64) (hl.add (t := 72) (hl.nil) rfl) rfl) rfl) rfl) rfl) rfl) rfl) rfl) rfl) rfl) rfl; clear hl; have hl := hl2; clear hl2
                  refine then_normal ?_
                  refine c_cond hl rfl ?_ ?_
                  · intro hc6
                    try simp only [decide_eq_true_eq, decide_eq_false_iff_not, Bool.not_eq_true', Bool.not_eq_false', Bool.not_eq_true, Bool.not_eq_false, Bool.and_eq_true, Bool.or_eq_true, Bool.and_eq_false_iff, Bool.or_eq_false_iff, Bool.not_not, ne_eq, Int.not_lt, Int.not_le, Decidable.not_not, beq_iff_eq, bne_iff_ne] at hc6
                    obtain ⟨ha, hfk⟩ := doF_2 s.f ⟨kd2, x2, A2, B2, E2, D2⟩ (by simp only; omega) hx
                    rw [hr] at ha
                    try simp only at hfk
                    injection ha with e0 e1 e2 e3
                    subst e0; subst e1; subst e2; subst e3
                    refine c_seq ?_
                    refine c_draw [(k5, C (arrL 4096 (wV s.f)) 58), (k8, C [.int .u8 kd2, .int .u32 x2, .int .u64 A2, .int .u64 B2, .int .u64 E2, .int .u64 D2] 36)] [5, 6, 7] mixed hh ?_
                    clear hh w; intro w hh
                    have hM : Mem [(k5, C (arrL 4096 (wV s.f)) 58), (k8, C [.int .u8 kd2, .int .u32 x2, .int .u64 A2, .int .u64 B2, .int .u64 E2, .int .u64 D2] 36)] w := (by repeat (first | exact Mem.nil | refine Mem.cons hh.mem (by repeat (first | exact find_head | apply find_tail)) ?_ | refine Mem.consR hh (by assumption) (by simp) ?_))
                    refine d_take (i := 0) hl rfl (by kernel_rfl) (by kernel_rfl) (by kernel_rfl) (by kernel_rfl) (by kernel_rfl) rfl trivial (fun _ _ _ h => h) hM (fun w hC => r_move hl rfl) rfl ?_
                    clear hl a; intro a hl
                    refine d_take (i := 1) hl rfl (by kernel_rfl) (by kernel_rfl) (by kernel_rfl) (by kernel_rfl) (by kernel_rfl) rfl trivial (fun _ _ _ h => h) hM (fun w hC => r_indexA hl rfl rfl arr58 (by omega) (by omega) (by first | (simp only [Int.reduceToNat]; rfl) | exact toNat_add1 _ | exact toNat_add2 _ _ | exact toNat_emod _ _ | exact Int.toNat_natCast _ | rfl)) rfl ?_
                    clear hl a; intro a hl
                    refine d_take (i := 2) hl rfl (by kernel_rfl) (by kernel_rfl) (by kernel_rfl) (by kernel_rfl) (by kernel_rfl) rfl trivial (fun _ _ _ h => h) hM (fun w hC => r_loadC hl rfl one27 hC (by repeat (first | exact find_head | apply find_tail)) (by exact arr_load (by omega))) rfl ?_
                    clear hl a; intro a hl
                    refine d_take (i := 3) hl rfl (by kernel_rfl) (by kernel_rfl) (by kernel_rfl) (by kernel_rfl) (by kernel_rfl) rfl trivial (fun _ _ _ h => h) hM (fun w hC => r_field hl rfl fld36_2) rfl ?_
                    clear hl a; intro a hl
                    refine d_take (i := 4) hl rfl (by kernel_rfl) (by kernel_rfl) (by kernel_rfl) (by kernel_rfl) (by kernel_rfl) rfl trivial (fun _ _ _ h => h) hM (fun w hC => r_loadC hl rfl one27 hC (by repeat (first | exact find_head | apply find_tail)) (by first | rfl)) rfl ?_
                    clear hl a; intro a hl
                    refine d_takeL (i := 5) hl rfl (by kernel_rfl) (by kernel_rfl) (by kernel_rfl) (by kernel_rfl) (by kernel_rfl) rfl trivial (fun _ _ _ h => h) (fun w => r_eql hl rfl rfl) rfl ?_
                    clear hl a; intro a hl
                    refine d_takeL (i := 6) hl rfl (by kernel_rfl) (by kernel_rfl) (by kernel_rfl) (by kernel_rfl) (by kernel_rfl) rfl trivial (fun _ _ _ h => h) (fun w => r_field hl rfl fld44_1) rfl ?_
                    clear hl a; intro a hl
                    refine d_one (i := 7) (by kernel_rfl) rfl ?_
                    try clear hM
                    refine id (w_store hl hh trivial one4 rfl rfl (by repeat (first | exact find_head | apply find_tail)) (by first | (simp; done) | (simp; omega)) (by first | rfl | (apply Row.one; assumption)) (by first | (simp only [setL, List.getElem?_cons_zero, List.getElem?_cons_succ, Value.cells, List.take_zero, List.take_succ_cons, List.take_nil, List.drop_zero, List.drop_succ_cons, List.drop_nil, List.length_cons, List.length_nil, List.cons_append, List.nil_append, List.append_nil, Nat.zero_add, Nat.add_zero, Nat.reduceAdd, Nat.reduceBEq, Nat.reduceEqDiff, Nat.ble, BEq.rfl, Bool.and_true, Bool.and_self, cond_true, beq_self_eq_true]; rfl)) ?_)
                    clear hh w; intro w hh
                    refine d_step (fun h => absurd h (by decide)) ?_
                    refine d_done (by kernel_rfl) ?_
                    try clear hM
                    have hl2 := hl.add (t := 3) (hl.add (t := 5) (hl.add (t := 8) (hl.add (t := 9) (hl.add (t := 10) (hl.add (t := 11) (hl.add (t := 23) (hl.add (t := 24) (hl.add (t := 25) (hl.nil) rfl) rfl) rfl) rfl) rfl) rfl) rfl) rfl) rfl; clear hl; have hl := hl2; clear hl2
                    refine then_normal ?_
                    refine c_seq ?_
                    refine c_region ?_
                    refine wl (wl_val hl rfl trivial (r_field hl rfl fld44_1) ?_)
                    clear hl a; intro a hl
                    refine wl (w_load hl hh rfl trivial one4 rfl (by repeat (first | exact find_head | apply find_tail)) (by first | rfl) ?_)
                    clear hl a; intro a hl
                    refine w_nil ?_
                    have hl2 := hl.add (t := 3) (hl.add (t := 5) (hl.add (t := 8) (hl.add (t := 9) (hl.add (t := 10) (hl.add (t := 11) (hl.add (t := 23) (hl.add (t := 24) (hl.add (t := 25) (hl.add (t := 82) (hl.nil) rfl) rfl) rfl) rfl) rfl) rfl) rfl) rfl) rfl) rfl; clear hl; have hl := hl2; clear hl2
                    refine then_normal ?_
                    refine c_cond hl rfl ?_ ?_
                    · intro hc7
                      try simp only [decide_eq_true_eq, decide_eq_false_iff_not, Bool.not_eq_true', Bool.not_eq_false', Bool.not_eq_true, Bool.not_eq_false, Bool.and_eq_true, Bool.or_eq_true, Bool.and_eq_false_iff, Bool.or_eq_false_iff, Bool.not_not, ne_eq, Int.not_lt, Int.not_le, Decidable.not_not, beq_iff_eq, bne_iff_ne] at hc7
                      rw [if_pos (by assumption)] at hfk
                      refine c_region ?_
                      refine wl (wl_val hl rfl trivial (r_move hl rfl) ?_)
                      clear hl a; intro a hl
                      refine wl (wl_val hl rfl trivial (r_field hl rfl fld36_3) ?_)
                      clear hl a; intro a hl
                      refine wl (w_load hl hh rfl trivial one27 rfl (by repeat (first | exact find_head | apply find_tail)) (by first | rfl) ?_)
                      clear hl a; intro a hl
                      refine wl (wl_val hl rfl trivial (r_indexA hl rfl rfl arr58 (by omega) (by omega) (by first | (simp only [Int.reduceToNat]; rfl) | exact toNat_add1 _ | exact toNat_add2 _ _ | exact toNat_emod _ _ | exact Int.toNat_natCast _ | rfl)) ?_)
                      clear hl a; intro a hl
                      refine wl (w_store hl hh trivial one27 rfl rfl (by repeat (first | exact find_head | apply find_tail)) (by rw [arrL_length]; omega) (by first | rfl | (apply Row.one; assumption)) (by exact arr_store (by omega)) ?_)
                      clear hh w; intro w hh
                      refine w_nil ?_
                      have hl2 := hl.add (t := 3) (hl.add (t := 5) (hl.add (t := 9) (hl.add (t := 11) (hl.add (t := 23) (hl.add (t := 24) (hl.add (t := 25) (hl.nil) rfl) rfl) rfl) rfl) rfl) rfl) rfl; clear hl; have hl := hl2; clear hl2
                      refine blk_normal ?_
                      refine then_normal ?_
                      refine c_seq ?_
                      refine c_region ?_
                      first | refine wl (w_loadA hl hh rfl trivial agg44 rfl (by repeat (first | exact find_head | apply find_tail)) (by first | (simp only [List.getElem?_cons_zero, List.getElem?_cons_succ, Value.cells, List.take_zero, List.take_succ_cons, List.take_nil, List.drop_zero, List.drop_succ_cons, List.drop_nil, List.length_cons, List.length_nil, List.cons_append, List.nil_append, List.append_nil, Nat.zero_add, Nat.add_zero, Nat.reduceAdd, Nat.reduceBEq, Nat.reduceEqDiff, Nat.ble, BEq.rfl, Bool.and_true, Bool.and_self, cond_true, beq_self_eq_true]; rfl)) (by first | rfl | (simp; done)) ?_) | refine wl (w_loadRA hl hh rfl trivial agg44 rfl hm (by simp) hqv rfl ?_)
                      clear hl a; intro a hl
                      first | refine wl (w_loadA hl hh rfl trivial agg44 rfl (by repeat (first | exact find_head | apply find_tail)) (by first | (simp only [List.getElem?_cons_zero, List.getElem?_cons_succ, Value.cells, List.take_zero, List.take_succ_cons, List.take_nil, List.drop_zero, List.drop_succ_cons, List.drop_nil, List.length_cons, List.length_nil, List.cons_append, List.nil_append, List.append_nil, Nat.zero_add, Nat.add_zero, Nat.reduceAdd, Nat.reduceBEq, Nat.reduceEqDiff, Nat.ble, BEq.rfl, Bool.and_true, Bool.and_self, cond_true, beq_self_eq_true]; rfl)) (by first | rfl | (simp; done)) ?_) | refine wl (w_loadRA hl hh rfl trivial agg44 rfl hm (by simp) hqv rfl ?_)
                      clear hl a; intro a hl
                      refine wl (wl_val hl rfl trivial (r_neqA hl rfl rfl eqf44 shp44 (by simp only [unlitL, unlit]; rfl) (by simp only [unlitL, unlit]; rfl) (by first | exact ⟨trivial⟩ | (refine ⟨?_⟩; simp [LitsOk, litOk, Fits]; done) | (refine ⟨?_⟩; simp [LitsOk, litOk, Fits]; omega)) (by first | exact ⟨trivial⟩ | (refine ⟨?_⟩; simp [LitsOk, litOk, Fits]; done) | (refine ⟨?_⟩; simp [LitsOk, litOk, Fits]; omega))) ?_)
                      clear hl a; intro a hl
                      refine w_nil ?_
                      have hl2 := hl.add (t := 3) (hl.add (t := 5) (hl.add (t := 23) (hl.add (t := 24) (hl.add (t := 25) (hl.add (t := 132) (hl.nil) rfl) rfl) rfl) rfl) rfl) rfl; clear hl; have hl := hl2; clear hl2
                      refine then_normal ?_
                      refine c_cond hl rfl ?_ ?_
                      · intro hc11
                        try simp only [decide_eq_true_eq, decide_eq_false_iff_not, Bool.not_eq_true', Bool.not_eq_false', Bool.not_eq_true, Bool.not_eq_false, Bool.and_eq_true, Bool.or_eq_true, Bool.and_eq_false_iff, Bool.or_eq_false_iff, Bool.not_not, ne_eq, Int.not_lt, Int.not_le, Decidable.not_not, beq_iff_eq, bne_iff_ne] at hc11
                        exfalso; first | (simp [eqLits, litBeq] at hc11; done) | (simp_all [eqLits, litBeq]; done)
                      · intro hc11
                        try simp only [decide_eq_true_eq, decide_eq_false_iff_not, Bool.not_eq_true', Bool.not_eq_false', Bool.not_eq_true, Bool.not_eq_false, Bool.and_eq_true, Bool.or_eq_true, Bool.and_eq_false_iff, Bool.or_eq_false_iff, Bool.not_not, ne_eq, Int.not_lt, Int.not_le, Decidable.not_not, beq_iff_eq, bne_iff_ne] at hc11
                        refine wp_skip ?_
                        refine blk_normal ?_
                        refine then_normal ?_
                        refine c_region ?_
                        first | refine wl (wl_val hl rfl trivial (r_add hl rfl rfl (by simp only [Fits]; omega)) ?_) | refine wl (wl_val hl rfl trivial (r_addW hl rfl rfl) ?_)
                        clear hl a; intro a hl
                        refine wl (wl_val hl rfl trivial (r_move hl rfl) ?_)
                        clear hl a; intro a hl
                        refine w_nil ?_
                        have hl2 := hl.add (t := 3) (hl.add (t := 5) (hl.add (t := 23) (hl.add (t := 24) (hl.add (t := 25) (hl.nil) rfl) rfl) rfl) rfl) rfl; clear hl; have hl := hl2; clear hl2
                        refine then_normal ?_
                        refine ⟨⟨s.i + 1, (doF s.f ⟨kd2, x2, A2, B2, E2, D2⟩).f, fl2, keepF s.rs ⟨kd2, x2, A2, B2, E2, D2⟩ (doF s.f ⟨kd2, x2, A2, B2, E2, D2⟩).ans, rv2, E3⟩, (by dsimp only; omega), hI.next hi hok hI2 hR2, hl.addE (t := 25) (hl.addE (t := 3) (hl.addE (t := 5) (hl.addE (t := 23) (hl.addE (t := 24) (hl.nil) rfl (by first | rfl | rfl)) rfl (by first | rfl | rfl)) rfl (by first | rfl | rfl)) rfl (by first | rfl | rfl)) rfl (by first | rfl | rfl), (by simp only [List.cons_append, List.nil_append, List.append_nil]; exact hh.keep (by repeat (first | exact keeps_nil | apply keeps_cons (by repeat (first | exact find_head | apply find_tail)) (by first  | exact arr_obj (fun i hi => by first | (simp only [hfk, wV, updV, word_setWord]; done) | (simp only [hfk, wV, updV, word_setWord]; (repeat' split) <;> first | rfl | omega | (simp_all; done)) | (simp only [wV]; rw [hfk i hi])) | rfl) | exact keeps_self | apply keeps_mv)))⟩
                    · intro hc7
                      try simp only [decide_eq_true_eq, decide_eq_false_iff_not, Bool.not_eq_true', Bool.not_eq_false', Bool.not_eq_true, Bool.not_eq_false, Bool.and_eq_true, Bool.or_eq_true, Bool.and_eq_false_iff, Bool.or_eq_false_iff, Bool.not_not, ne_eq, Int.not_lt, Int.not_le, Decidable.not_not, beq_iff_eq, bne_iff_ne] at hc7
                      rw [if_neg (by assumption)] at hfk
                      refine wp_skip ?_
                      refine blk_normal ?_
                      refine then_normal ?_
                      refine c_seq ?_
                      refine c_region ?_
                      first | refine wl (w_loadA hl hh rfl trivial agg44 rfl (by repeat (first | exact find_head | apply find_tail)) (by first | (simp only [List.getElem?_cons_zero, List.getElem?_cons_succ, Value.cells, List.take_zero, List.take_succ_cons, List.take_nil, List.drop_zero, List.drop_succ_cons, List.drop_nil, List.length_cons, List.length_nil, List.cons_append, List.nil_append, List.append_nil, Nat.zero_add, Nat.add_zero, Nat.reduceAdd, Nat.reduceBEq, Nat.reduceEqDiff, Nat.ble, BEq.rfl, Bool.and_true, Bool.and_self, cond_true, beq_self_eq_true]; rfl)) (by first | rfl | (simp; done)) ?_) | refine wl (w_loadRA hl hh rfl trivial agg44 rfl hm (by simp) hqv rfl ?_)
                      clear hl a; intro a hl
                      first | refine wl (w_loadA hl hh rfl trivial agg44 rfl (by repeat (first | exact find_head | apply find_tail)) (by first | (simp only [List.getElem?_cons_zero, List.getElem?_cons_succ, Value.cells, List.take_zero, List.take_succ_cons, List.take_nil, List.drop_zero, List.drop_succ_cons, List.drop_nil, List.length_cons, List.length_nil, List.cons_append, List.nil_append, List.append_nil, Nat.zero_add, Nat.add_zero, Nat.reduceAdd, Nat.reduceBEq, Nat.reduceEqDiff, Nat.ble, BEq.rfl, Bool.and_true, Bool.and_self, cond_true, beq_self_eq_true]; rfl)) (by first | rfl | (simp; done)) ?_) | refine wl (w_loadRA hl hh rfl trivial agg44 rfl hm (by simp) hqv rfl ?_)
                      clear hl a; intro a hl
                      refine wl (wl_val hl rfl trivial (r_neqA hl rfl rfl eqf44 shp44 (by simp only [unlitL, unlit]; rfl) (by simp only [unlitL, unlit]; rfl) (by first | exact ⟨trivial⟩ | (refine ⟨?_⟩; simp [LitsOk, litOk, Fits]; done) | (refine ⟨?_⟩; simp [LitsOk, litOk, Fits]; omega)) (by first | exact ⟨trivial⟩ | (refine ⟨?_⟩; simp [LitsOk, litOk, Fits]; done) | (refine ⟨?_⟩; simp [LitsOk, litOk, Fits]; omega))) ?_)
                      clear hl a; intro a hl
                      refine w_nil ?_
                      have hl2 := hl.add (t := 3) (hl.add (t := 5) (hl.add (t := 23) (hl.add (t := 24) (hl.add (t := 25) (hl.add (t := 132) (hl.nil) rfl) rfl) rfl) rfl) rfl) rfl; clear hl; have hl := hl2; clear hl2
                      refine then_normal ?_
                      refine c_cond hl rfl ?_ ?_
                      · intro hc11
                        try simp only [decide_eq_true_eq, decide_eq_false_iff_not, Bool.not_eq_true', Bool.not_eq_false', Bool.not_eq_true, Bool.not_eq_false, Bool.and_eq_true, Bool.or_eq_true, Bool.and_eq_false_iff, Bool.or_eq_false_iff, Bool.not_not, ne_eq, Int.not_lt, Int.not_le, Decidable.not_not, beq_iff_eq, bne_iff_ne] at hc11
                        exfalso; first | (simp [eqLits, litBeq] at hc11; done) | (simp_all [eqLits, litBeq]; done)
                      · intro hc11
                        try simp only [decide_eq_true_eq, decide_eq_false_iff_not, Bool.not_eq_true', Bool.not_eq_false', Bool.not_eq_true, Bool.not_eq_false, Bool.and_eq_true, Bool.or_eq_true, Bool.and_eq_false_iff, Bool.or_eq_false_iff, Bool.not_not, ne_eq, Int.not_lt, Int.not_le, Decidable.not_not, beq_iff_eq, bne_iff_ne] at hc11
                        refine wp_skip ?_
                        refine blk_normal ?_
                        refine then_normal ?_
                        refine c_region ?_
                        first | refine wl (wl_val hl rfl trivial (r_add hl rfl rfl (by simp only [Fits]; omega)) ?_) | refine wl (wl_val hl rfl trivial (r_addW hl rfl rfl) ?_)
                        clear hl a; intro a hl
                        refine wl (wl_val hl rfl trivial (r_move hl rfl) ?_)
                        clear hl a; intro a hl
                        refine w_nil ?_
                        have hl2 := hl.add (t := 3) (hl.add (t := 5) (hl.add (t := 23) (hl.add (t := 24) (hl.add (t := 25) (hl.nil) rfl) rfl) rfl) rfl) rfl; clear hl; have hl := hl2; clear hl2
                        refine then_normal ?_
                        refine ⟨⟨s.i + 1, (doF s.f ⟨kd2, x2, A2, B2, E2, D2⟩).f, fl2, keepF s.rs ⟨kd2, x2, A2, B2, E2, D2⟩ (doF s.f ⟨kd2, x2, A2, B2, E2, D2⟩).ans, rv2, E3⟩, (by dsimp only; omega), hI.next hi hok hI2 hR2, hl.addE (t := 25) (hl.addE (t := 3) (hl.addE (t := 5) (hl.addE (t := 23) (hl.addE (t := 24) (hl.nil) rfl (by first | rfl | rfl)) rfl (by first | rfl | rfl)) rfl (by first | rfl | rfl)) rfl (by first | rfl | rfl)) rfl (by first | rfl | rfl), (by simp only [List.cons_append, List.nil_append, List.append_nil]; exact hh.keep (by repeat (first | exact keeps_nil | apply keeps_cons (by repeat (first | exact find_head | apply find_tail)) (by first  | exact arr_obj (fun i hi => by first | (simp only [hfk, wV, updV, word_setWord]; done) | (simp only [hfk, wV, updV, word_setWord]; (repeat' split) <;> first | rfl | omega | (simp_all; done)) | (simp only [wV]; rw [hfk i hi])) | rfl) | exact keeps_self | apply keeps_mv)))⟩
                  · intro hc6
                    try simp only [decide_eq_true_eq, decide_eq_false_iff_not, Bool.not_eq_true', Bool.not_eq_false', Bool.not_eq_true, Bool.not_eq_false, Bool.and_eq_true, Bool.or_eq_true, Bool.and_eq_false_iff, Bool.or_eq_false_iff, Bool.not_not, ne_eq, Int.not_lt, Int.not_le, Decidable.not_not, beq_iff_eq, bne_iff_ne] at hc6
                    refine c_seq ?_
                    refine c_region ?_
                    refine wl (wl_val hl rfl trivial (r_eql hl rfl rfl) ?_)
                    clear hl a; intro a hl
                    refine wl (wl_val hl rfl trivial (r_assign hl rfl) ?_)
                    clear hl a; intro a hl
                    refine w_nil ?_
                    have hl2 := hl.add (t := 3) (hl.add (t := 5) (hl.add (t := 8) (hl.add (t := 9) (hl.add (t := 10) (hl.add (t := 11) (hl.add (t := 23) (hl.add (t := 24) (hl.add (t := 25) (hl.add (t := 64) (hl.add (t := 87) (hl.nil) rfl) rfl) rfl) rfl) rfl) rfl) rfl) rfl) rfl) rfl) rfl; clear hl; have hl := hl2; clear hl2
                    refine then_normal ?_
                    refine c_cond hl rfl ?_ ?_
                    · intro hc8
                      try simp only [decide_eq_true_eq, decide_eq_false_iff_not, Bool.not_eq_true', Bool.not_eq_false', Bool.not_eq_true, Bool.not_eq_false, Bool.and_eq_true, Bool.or_eq_true, Bool.and_eq_false_iff, Bool.or_eq_false_iff, Bool.not_not, ne_eq, Int.not_lt, Int.not_le, Decidable.not_not, beq_iff_eq, bne_iff_ne] at hc8
                      obtain ⟨ha, hfk⟩ := doF_3 s.f ⟨kd2, x2, A2, B2, E2, D2⟩ (by simp only; omega) hx
                      rw [hr] at ha
                      try simp only at hfk
                      injection ha with e0 e1 e2 e3
                      subst e0; subst e1; subst e2; subst e3
                      refine c_draw [(k5, C (arrL 4096 (wV s.f)) 58), (k8, C [.int .u8 kd2, .int .u32 x2, .int .u64 A2, .int .u64 B2, .int .u64 E2, .int .u64 D2] 36)] [5, 6, 7] mixed hh ?_
                      clear hh w; intro w hh
                      have hM : Mem [(k5, C (arrL 4096 (wV s.f)) 58), (k8, C [.int .u8 kd2, .int .u32 x2, .int .u64 A2, .int .u64 B2, .int .u64 E2, .int .u64 D2] 36)] w := (by repeat (first | exact Mem.nil | refine Mem.cons hh.mem (by repeat (first | exact find_head | apply find_tail)) ?_ | refine Mem.consR hh (by assumption) (by simp) ?_))
                      refine d_take (i := 0) hl rfl (by kernel_rfl) (by kernel_rfl) (by kernel_rfl) (by kernel_rfl) (by kernel_rfl) rfl trivial (fun _ _ _ h => h) hM (fun w hC => r_move hl rfl) rfl ?_
                      clear hl a; intro a hl
                      refine d_take (i := 1) hl rfl (by kernel_rfl) (by kernel_rfl) (by kernel_rfl) (by kernel_rfl) (by kernel_rfl) rfl trivial (fun _ _ _ h => h) hM (fun w hC => r_indexA hl rfl rfl arr58 (by omega) (by omega) (by first | (simp only [Int.reduceToNat]; rfl) | exact toNat_add1 _ | exact toNat_add2 _ _ | exact toNat_emod _ _ | exact Int.toNat_natCast _ | rfl)) rfl ?_
                      clear hl a; intro a hl
                      refine d_take (i := 2) hl rfl (by kernel_rfl) (by kernel_rfl) (by kernel_rfl) (by kernel_rfl) (by kernel_rfl) rfl trivial (fun _ _ _ h => h) hM (fun w hC => r_loadC hl rfl one27 hC (by repeat (first | exact find_head | apply find_tail)) (by exact arr_load (by omega))) rfl ?_
                      clear hl a; intro a hl
                      refine d_take (i := 3) hl rfl (by kernel_rfl) (by kernel_rfl) (by kernel_rfl) (by kernel_rfl) (by kernel_rfl) rfl trivial (fun _ _ _ h => h) hM (fun w hC => r_field hl rfl fld36_2) rfl ?_
                      clear hl a; intro a hl
                      refine d_take (i := 4) hl rfl (by kernel_rfl) (by kernel_rfl) (by kernel_rfl) (by kernel_rfl) (by kernel_rfl) rfl trivial (fun _ _ _ h => h) hM (fun w hC => r_loadC hl rfl one27 hC (by repeat (first | exact find_head | apply find_tail)) (by first | rfl)) rfl ?_
                      clear hl a; intro a hl
                      first | refine d_takeL (i := 5) hl rfl (by kernel_rfl) (by kernel_rfl) (by kernel_rfl) (by kernel_rfl) (by kernel_rfl) rfl trivial (fun _ _ _ h => h) (fun w => r_add hl rfl rfl (by simp only [Fits]; omega)) rfl ?_ | refine d_takeL (i := 5) hl rfl (by kernel_rfl) (by kernel_rfl) (by kernel_rfl) (by kernel_rfl) (by kernel_rfl) rfl trivial (fun _ _ _ h => h) (fun w => r_addW hl rfl rfl) rfl ?_
                      clear hl a; intro a hl
                      refine d_takeL (i := 6) hl rfl (by kernel_rfl) (by kernel_rfl) (by kernel_rfl) (by kernel_rfl) (by kernel_rfl) rfl trivial (fun _ _ _ h => h) (fun w => r_indexA hl rfl rfl arr58 (by omega) (by omega) (by first | (simp only [Int.reduceToNat]; rfl) | exact toNat_add1 _ | exact toNat_add2 _ _ | exact toNat_emod _ _ | exact Int.toNat_natCast _ | rfl)) rfl ?_
                      clear hl a; intro a hl
                      refine d_one (i := 7) (by kernel_rfl) rfl ?_
                      try clear hM
                      refine id (w_store hl hh trivial one27 rfl rfl (by repeat (first | exact find_head | apply find_tail)) (by rw [arrL_length]; omega) (by first | rfl | (apply Row.one; assumption)) (by exact arr_store (by omega)) ?_)
                      clear hh w; intro w hh
                      refine d_step (fun h => absurd h (by decide)) ?_
                      refine d_done (by kernel_rfl) ?_
                      try clear hM
                      have hl2 := hl.add (t := 3) (hl.add (t := 5) (hl.add (t := 9) (hl.add (t := 11) (hl.add (t := 23) (hl.add (t := 24) (hl.add (t := 25) (hl.nil) rfl) rfl) rfl) rfl) rfl) rfl) rfl; clear hl; have hl := hl2; clear hl2
                      refine blk_normal ?_
                      refine then_normal ?_
                      refine c_seq ?_
                      refine c_region ?_
                      first | refine wl (w_loadA hl hh rfl trivial agg44 rfl (by repeat (first | exact find_head | apply find_tail)) (by first | (simp only [List.getElem?_cons_zero, List.getElem?_cons_succ, Value.cells, List.take_zero, List.take_succ_cons, List.take_nil, List.drop_zero, List.drop_succ_cons, List.drop_nil, List.length_cons, List.length_nil, List.cons_append, List.nil_append, List.append_nil, Nat.zero_add, Nat.add_zero, Nat.reduceAdd, Nat.reduceBEq, Nat.reduceEqDiff, Nat.ble, BEq.rfl, Bool.and_true, Bool.and_self, cond_true, beq_self_eq_true]; rfl)) (by first | rfl | (simp; done)) ?_) | refine wl (w_loadRA hl hh rfl trivial agg44 rfl hm (by simp) hqv rfl ?_)
                      clear hl a; intro a hl
                      first | refine wl (w_loadA hl hh rfl trivial agg44 rfl (by repeat (first | exact find_head | apply find_tail)) (by first | (simp only [List.getElem?_cons_zero, List.getElem?_cons_succ, Value.cells, List.take_zero, List.take_succ_cons, List.take_nil, List.drop_zero, List.drop_succ_cons, List.drop_nil, List.length_cons, List.length_nil, List.cons_append, List.nil_append, List.append_nil, Nat.zero_add, Nat.add_zero, Nat.reduceAdd, Nat.reduceBEq, Nat.reduceEqDiff, Nat.ble, BEq.rfl, Bool.and_true, Bool.and_self, cond_true, beq_self_eq_true]; rfl)) (by first | rfl | (simp; done)) ?_) | refine wl (w_loadRA hl hh rfl trivial agg44 rfl hm (by simp) hqv rfl ?_)
                      clear hl a; intro a hl
                      refine wl (wl_val hl rfl trivial (r_neqA hl rfl rfl eqf44 shp44 (by simp only [unlitL, unlit]; rfl) (by simp only [unlitL, unlit]; rfl) (by first | exact ⟨trivial⟩ | (refine ⟨?_⟩; simp [LitsOk, litOk, Fits]; done) | (refine ⟨?_⟩; simp [LitsOk, litOk, Fits]; omega)) (by first | exact ⟨trivial⟩ | (refine ⟨?_⟩; simp [LitsOk, litOk, Fits]; done) | (refine ⟨?_⟩; simp [LitsOk, litOk, Fits]; omega))) ?_)
                      clear hl a; intro a hl
                      refine w_nil ?_
                      have hl2 := hl.add (t := 3) (hl.add (t := 5) (hl.add (t := 23) (hl.add (t := 24) (hl.add (t := 25) (hl.add (t := 132) (hl.nil) rfl) rfl) rfl) rfl) rfl) rfl; clear hl; have hl := hl2; clear hl2
                      refine then_normal ?_
                      refine c_cond hl rfl ?_ ?_
                      · intro hc11
                        try simp only [decide_eq_true_eq, decide_eq_false_iff_not, Bool.not_eq_true', Bool.not_eq_false', Bool.not_eq_true, Bool.not_eq_false, Bool.and_eq_true, Bool.or_eq_true, Bool.and_eq_false_iff, Bool.or_eq_false_iff, Bool.not_not, ne_eq, Int.not_lt, Int.not_le, Decidable.not_not, beq_iff_eq, bne_iff_ne] at hc11
                        exfalso; first | (simp [eqLits, litBeq] at hc11; done) | (simp_all [eqLits, litBeq]; done)
                      · intro hc11
                        try simp only [decide_eq_true_eq, decide_eq_false_iff_not, Bool.not_eq_true', Bool.not_eq_false', Bool.not_eq_true, Bool.not_eq_false, Bool.and_eq_true, Bool.or_eq_true, Bool.and_eq_false_iff, Bool.or_eq_false_iff, Bool.not_not, ne_eq, Int.not_lt, Int.not_le, Decidable.not_not, beq_iff_eq, bne_iff_ne] at hc11
                        refine wp_skip ?_
                        refine blk_normal ?_
                        refine then_normal ?_
                        refine c_region ?_
                        first | refine wl (wl_val hl rfl trivial (r_add hl rfl rfl (by simp only [Fits]; omega)) ?_) | refine wl (wl_val hl rfl trivial (r_addW hl rfl rfl) ?_)
                        clear hl a; intro a hl
                        refine wl (wl_val hl rfl trivial (r_move hl rfl) ?_)
                        clear hl a; intro a hl
                        refine w_nil ?_
                        have hl2 := hl.add (t := 3) (hl.add (t := 5) (hl.add (t := 23) (hl.add (t := 24) (hl.add (t := 25) (hl.nil) rfl) rfl) rfl) rfl) rfl; clear hl; have hl := hl2; clear hl2
                        refine then_normal ?_
                        refine ⟨⟨s.i + 1, (doF s.f ⟨kd2, x2, A2, B2, E2, D2⟩).f, fl2, keepF s.rs ⟨kd2, x2, A2, B2, E2, D2⟩ (doF s.f ⟨kd2, x2, A2, B2, E2, D2⟩).ans, rv2, E3⟩, (by dsimp only; omega), hI.next hi hok hI2 hR2, hl.addE (t := 25) (hl.addE (t := 3) (hl.addE (t := 5) (hl.addE (t := 23) (hl.addE (t := 24) (hl.nil) rfl (by first | rfl | rfl)) rfl (by first | rfl | rfl)) rfl (by first | rfl | rfl)) rfl (by first | rfl | rfl)) rfl (by first | rfl | rfl), (by simp only [List.cons_append, List.nil_append, List.append_nil]; exact hh.keep (by repeat (first | exact keeps_nil | apply keeps_cons (by repeat (first | exact find_head | apply find_tail)) (by first  | exact arr_obj (fun i hi => by first | (simp only [hfk, wV, updV, word_setWord]; done) | (simp only [hfk, wV, updV, word_setWord]; (repeat' split) <;> first | rfl | omega | (simp_all; done)) | (simp only [wV]; rw [hfk i hi])) | rfl) | exact keeps_self | apply keeps_mv)))⟩
                    · intro hc8
                      try simp only [decide_eq_true_eq, decide_eq_false_iff_not, Bool.not_eq_true', Bool.not_eq_false', Bool.not_eq_true, Bool.not_eq_false, Bool.and_eq_true, Bool.or_eq_true, Bool.and_eq_false_iff, Bool.or_eq_false_iff, Bool.not_not, ne_eq, Int.not_lt, Int.not_le, Decidable.not_not, beq_iff_eq, bne_iff_ne] at hc8
                      refine c_seq ?_
                      refine c_region ?_
                      refine wl (wl_val hl rfl trivial (r_eql hl rfl rfl) ?_)
                      clear hl a; intro a hl
                      refine wl (wl_val hl rfl trivial (r_assign hl rfl) ?_)
                      clear hl a; intro a hl
                      refine w_nil ?_
                      have hl2 := hl.add (t := 3) (hl.add (t := 5) (hl.add (t := 8) (hl.add (t := 9) (hl.add (t := 10) (hl.add (t := 11) (hl.add (t := 23) (hl.add (t := 24) (hl.add (t := 25) (hl.add (t := 96) (hl.nil) rfl) rfl) rfl) rfl) rfl) rfl) rfl) rfl) rfl) rfl; clear hl; have hl := hl2; clear hl2
                      refine then_normal ?_
                      refine c_cond hl rfl ?_ ?_
                      · intro hc9
                        try simp only [decide_eq_true_eq, decide_eq_false_iff_not, Bool.not_eq_true', Bool.not_eq_false', Bool.not_eq_true, Bool.not_eq_false, Bool.and_eq_true, Bool.or_eq_true, Bool.and_eq_false_iff, Bool.or_eq_false_iff, Bool.not_not, ne_eq, Int.not_lt, Int.not_le, Decidable.not_not, beq_iff_eq, bne_iff_ne] at hc9
                        obtain ⟨ha, hfk⟩ := doF_4 s.f ⟨kd2, x2, A2, B2, E2, D2⟩ (by simp only; omega) hx (by simp only; omega)
                        rw [hr] at ha
                        try simp only at hfk
                        injection ha with e0 e1 e2 e3
                        subst e0; subst e1; subst e2; subst e3
                        have hwd1 := hI.inv.words (x2 + 1) (by omega)
                        simp only [Fits] at hwd1
                        refine c_seq ?_
                        refine c_region ?_
                        refine wl (wl_val hl rfl trivial (r_move hl rfl) ?_)
                        clear hl a; intro a hl
                        first | refine wl (wl_val hl rfl trivial (r_add hl rfl rfl (by simp only [Fits]; omega)) ?_) | refine wl (wl_val hl rfl trivial (r_addW hl rfl rfl) ?_)
                        clear hl a; intro a hl
                        refine wl (wl_val hl rfl trivial (r_indexA hl rfl rfl arr58 (by omega) (by omega) (by first | (simp only [Int.reduceToNat]; rfl) | exact toNat_add1 _ | exact toNat_add2 _ _ | exact toNat_emod _ _ | exact Int.toNat_natCast _ | rfl)) ?_)
                        clear hl a; intro a hl
                        refine wl (w_load hl hh rfl trivial one27 rfl (by repeat (first | exact find_head | apply find_tail)) (by exact arr_load (by omega)) ?_)
                        clear hl a; intro a hl
                        refine wl (wl_val hl rfl trivial (r_field hl rfl fld44_3) ?_)
                        clear hl a; intro a hl
                        refine wl (w_store hl hh trivial one27 rfl rfl (by repeat (first | exact find_head | apply find_tail)) (by first | (simp; done) | (simp; omega)) (by first | rfl | (apply Row.one; assumption)) (by first | (simp only [setL, List.getElem?_cons_zero, List.getElem?_cons_succ, Value.cells, List.take_zero, List.take_succ_cons, List.take_nil, List.drop_zero, List.drop_succ_cons, List.drop_nil, List.length_cons, List.length_nil, List.cons_append, List.nil_append, List.append_nil, Nat.zero_add, Nat.add_zero, Nat.reduceAdd, Nat.reduceBEq, Nat.reduceEqDiff, Nat.ble, BEq.rfl, Bool.and_true, Bool.and_self, cond_true, beq_self_eq_true]; rfl)) ?_)
                        clear hh w; intro w hh
                        refine w_nil ?_
                        have hl2 := hl.add (t := 3) (hl.add (t := 5) (hl.add (t := 8) (hl.add (t := 9) (hl.add (t := 10) (hl.add (t := 11) (hl.add (t := 23) (hl.add (t := 24) (hl.add (t := 25) (hl.nil) rfl) rfl) rfl) rfl) rfl) rfl) rfl) rfl) rfl; clear hl; have hl := hl2; clear hl2
                        refine then_normal ?_
                        refine c_seq ?_
                        refine c_draw [(k5, C (arrL 4096 (wV s.f)) 58), (k8, C [.int .u8 kd2, .int .u32 x2, .int .u64 A2, .int .u64 B2, .int .u64 E2, .int .u64 D2] 36)] [13, 14, 15, 16] mixed hh ?_
                        clear hh w; intro w hh
                        have hM : Mem [(k5, C (arrL 4096 (wV s.f)) 58), (k8, C [.int .u8 kd2, .int .u32 x2, .int .u64 A2, .int .u64 B2, .int .u64 E2, .int .u64 D2] 36)] w := (by repeat (first | exact Mem.nil | refine Mem.cons hh.mem (by repeat (first | exact find_head | apply find_tail)) ?_ | refine Mem.consR hh (by assumption) (by simp) ?_))
                        refine d_take (i := 0) hl rfl (by kernel_rfl) (by kernel_rfl) (by kernel_rfl) (by kernel_rfl) (by kernel_rfl) rfl trivial (fun _ _ _ h => h) hM (fun w hC => r_move hl rfl) rfl ?_
                        clear hl a; intro a hl
                        refine d_take (i := 1) hl rfl (by kernel_rfl) (by kernel_rfl) (by kernel_rfl) (by kernel_rfl) (by kernel_rfl) rfl trivial (fun _ _ _ h => h) hM (fun w hC => r_indexA hl rfl rfl arr58 (by omega) (by omega) (by first | (simp only [Int.reduceToNat]; rfl) | exact toNat_add1 _ | exact toNat_add2 _ _ | exact toNat_emod _ _ | exact Int.toNat_natCast _ | rfl)) rfl ?_
                        clear hl a; intro a hl
                        refine d_take (i := 2) hl rfl (by kernel_rfl) (by kernel_rfl) (by kernel_rfl) (by kernel_rfl) (by kernel_rfl) rfl trivial (fun _ _ _ h => h) hM (fun w hC => r_loadC hl rfl one27 hC (by repeat (first | exact find_head | apply find_tail)) (by exact arr_load (by omega))) rfl ?_
                        clear hl a; intro a hl
                        refine d_take (i := 3) hl rfl (by kernel_rfl) (by kernel_rfl) (by kernel_rfl) (by kernel_rfl) (by kernel_rfl) rfl trivial (fun _ _ _ h => h) hM (fun w hC => r_field hl rfl fld36_2) rfl ?_
                        clear hl a; intro a hl
                        refine d_take (i := 4) hl rfl (by kernel_rfl) (by kernel_rfl) (by kernel_rfl) (by kernel_rfl) (by kernel_rfl) rfl trivial (fun _ _ _ h => h) hM (fun w hC => r_loadC hl rfl one27 hC (by repeat (first | exact find_head | apply find_tail)) (by first | rfl)) rfl ?_
                        clear hl a; intro a hl
                        refine d_take (i := 5) hl rfl (by kernel_rfl) (by kernel_rfl) (by kernel_rfl) (by kernel_rfl) (by kernel_rfl) rfl trivial (fun _ _ _ h => h) hM (fun w hC => r_eql hl rfl rfl) rfl ?_
                        clear hl a; intro a hl
                        refine d_take (i := 6) hl rfl (by kernel_rfl) (by kernel_rfl) (by kernel_rfl) (by kernel_rfl) (by kernel_rfl) rfl trivial (fun _ _ _ h => h) hM (fun w hC => r_move hl rfl) rfl ?_
                        clear hl a; intro a hl
                        refine sl_split (t := 109) hl rfl ?_ ?_
                        · intro hg7; clear hl; intro hl
                          try simp only [decide_eq_true_eq, decide_eq_false_iff_not, Bool.not_eq_true', Bool.not_eq_false', Bool.not_eq_true, Bool.not_eq_false, Bool.and_eq_true, Bool.or_eq_true, Bool.and_eq_false_iff, Bool.or_eq_false_iff, Bool.not_not, ne_eq, Int.not_lt, Int.not_le, Decidable.not_not, beq_iff_eq, bne_iff_ne] at hg7
                          refine d_take (i := 7) hl rfl (by kernel_rfl) (by kernel_rfl) (by kernel_rfl) (by kernel_rfl) (by kernel_rfl) rfl ⟨_, _, rfl, rfl, rfl⟩ (fun _ _ _ h => h) hM (fun w hC => r_move hl rfl) rfl ?_
                          clear hl a; intro a hl
                          first | refine d_take (i := 8) hl rfl (by kernel_rfl) (by kernel_rfl) (by kernel_rfl) (by kernel_rfl) (by kernel_rfl) rfl ⟨_, _, rfl, rfl, rfl⟩ (fun _ _ _ h => h) hM (fun w hC => r_add hl rfl rfl (by simp only [Fits]; omega)) rfl ?_ | refine d_take (i := 8) hl rfl (by kernel_rfl) (by kernel_rfl) (by kernel_rfl) (by kernel_rfl) (by kernel_rfl) rfl ⟨_, _, rfl, rfl, rfl⟩ (fun _ _ _ h => h) hM (fun w hC => r_addW hl rfl rfl) rfl ?_
                          clear hl a; intro a hl
                          refine d_take (i := 9) hl rfl (by kernel_rfl) (by kernel_rfl) (by kernel_rfl) (by kernel_rfl) (by kernel_rfl) rfl ⟨_, _, rfl, rfl, rfl⟩ (fun _ _ _ h => h) hM (fun w hC => r_indexA hl rfl rfl arr58 (by omega) (by omega) (by first | (simp only [Int.reduceToNat]; rfl) | exact toNat_add1 _ | exact toNat_add2 _ _ | exact toNat_emod _ _ | exact Int.toNat_natCast _ | rfl)) rfl ?_
                          clear hl a; intro a hl
                          refine d_take (i := 10) hl rfl (by kernel_rfl) (by kernel_rfl) (by kernel_rfl) (by kernel_rfl) (by kernel_rfl) rfl ⟨_, _, rfl, rfl, rfl⟩ (fun _ _ _ h => h) hM (fun w hC => r_loadC hl rfl one27 hC (by repeat (first | exact find_head | apply find_tail)) (by exact arr_load (by omega))) rfl ?_
                          clear hl a; intro a hl
                          refine d_take (i := 11) hl rfl (by kernel_rfl) (by kernel_rfl) (by kernel_rfl) (by kernel_rfl) (by kernel_rfl) rfl ⟨_, _, rfl, rfl, rfl⟩ (fun _ _ _ h => h) hM (fun w hC => r_field hl rfl fld36_3) rfl ?_
                          clear hl a; intro a hl
                          refine d_take (i := 12) hl rfl (by kernel_rfl) (by kernel_rfl) (by kernel_rfl) (by kernel_rfl) (by kernel_rfl) rfl ⟨_, _, rfl, rfl, rfl⟩ (fun _ _ _ h => h) hM (fun w hC => r_loadC hl rfl one27 hC (by repeat (first | exact find_head | apply find_tail)) (by first | rfl)) rfl ?_
                          clear hl a; intro a hl
                          refine d_takeL (i := 13) hl rfl (by kernel_rfl) (by kernel_rfl) (by kernel_rfl) (by kernel_rfl) (by kernel_rfl) rfl ⟨_, _, rfl, rfl, rfl⟩ (fun _ _ _ h => h) (fun w => r_eql hl rfl rfl) rfl ?_
                          clear hl a; intro a hl
                          refine d_takeL (i := 14) hl rfl (by kernel_rfl) (by kernel_rfl) (by kernel_rfl) (by kernel_rfl) (by kernel_rfl) rfl trivial (fun _ _ _ h => h) (fun w => r_pickT hl rfl rfl) rfl ?_
                          clear hl a; intro a hl
                          refine d_takeL (i := 15) hl rfl (by kernel_rfl) (by kernel_rfl) (by kernel_rfl) (by kernel_rfl) (by kernel_rfl) rfl trivial (fun _ _ _ h => h) (fun w => r_field hl rfl fld44_1) rfl ?_
                          clear hl a; intro a hl
                          refine d_one (i := 16) (by kernel_rfl) rfl ?_
                          try clear hM
                          refine id (w_store hl hh trivial one4 rfl rfl (by repeat (first | exact find_head | apply find_tail)) (by first | (simp; done) | (simp; omega)) (by first | rfl | (apply Row.one; assumption)) (by first | (simp only [setL, List.getElem?_cons_zero, List.getElem?_cons_succ, Value.cells, List.take_zero, List.take_succ_cons, List.take_nil, List.drop_zero, List.drop_succ_cons, List.drop_nil, List.length_cons, List.length_nil, List.cons_append, List.nil_append, List.append_nil, Nat.zero_add, Nat.add_zero, Nat.reduceAdd, Nat.reduceBEq, Nat.reduceEqDiff, Nat.ble, BEq.rfl, Bool.and_true, Bool.and_self, cond_true, beq_self_eq_true]; rfl)) ?_)
                          clear hh w; intro w hh
                          refine d_step (fun h => absurd h (by decide)) ?_
                          refine d_done (by kernel_rfl) ?_
                          try clear hM
                          have hl2 := hl.add (t := 3) (hl.add (t := 5) (hl.add (t := 8) (hl.add (t := 9) (hl.add (t := 10) (hl.add (t := 11) (hl.add (t := 23) (hl.add (t := 24) (hl.add (t := 25) (hl.nil) rfl) rfl) rfl) rfl) rfl) rfl) rfl) rfl) rfl; clear hl; have hl := hl2; clear hl2
                          refine then_normal ?_
                          refine c_seq ?_
                          refine c_region ?_
                          refine wl (wl_val hl rfl trivial (r_field hl rfl fld44_1) ?_)
                          clear hl a; intro a hl
                          refine wl (w_load hl hh rfl trivial one4 rfl (by repeat (first | exact find_head | apply find_tail)) (by first | rfl) ?_)
                          clear hl a; intro a hl
                          refine w_nil ?_
                          have hl2 := hl.add (t := 3) (hl.add (t := 5) (hl.add (t := 8) (hl.add (t := 9) (hl.add (t := 10) (hl.add (t := 11) (hl.add (t := 23) (hl.add (t := 24) (hl.add (t := 25) (hl.add (t := 120) (hl.nil) rfl) rfl) rfl) rfl) rfl) rfl) rfl) rfl) rfl) rfl; clear hl; have hl := hl2; clear hl2
                          refine then_normal ?_
                          refine c_cond hl rfl ?_ ?_
                          · intro hc10
                            try simp only [decide_eq_true_eq, decide_eq_false_iff_not, Bool.not_eq_true', Bool.not_eq_false', Bool.not_eq_true, Bool.not_eq_false, Bool.and_eq_true, Bool.or_eq_true, Bool.and_eq_false_iff, Bool.or_eq_false_iff, Bool.not_not, ne_eq, Int.not_lt, Int.not_le, Decidable.not_not, beq_iff_eq, bne_iff_ne] at hc10
                            rw [if_pos (by simp_all)] at hfk
                            refine c_draw [(k8, C [.int .u8 kd2, .int .u32 x2, .int .u64 A2, .int .u64 B2, .int .u64 E2, .int .u64 D2] 36)] [9, 10] mixed hh ?_
                            clear hh w; intro w hh
                            have hM : Mem [(k8, C [.int .u8 kd2, .int .u32 x2, .int .u64 A2, .int .u64 B2, .int .u64 E2, .int .u64 D2] 36)] w := (by repeat (first | exact Mem.nil | refine Mem.cons hh.mem (by repeat (first | exact find_head | apply find_tail)) ?_ | refine Mem.consR hh (by assumption) (by simp) ?_))
                            refine d_take (i := 0) hl rfl (by kernel_rfl) (by kernel_rfl) (by kernel_rfl) (by kernel_rfl) (by kernel_rfl) rfl trivial (fun _ _ _ h => h) hM (fun w hC => r_move hl rfl) rfl ?_
                            clear hl a; intro a hl
                            refine d_take (i := 1) hl rfl (by kernel_rfl) (by kernel_rfl) (by kernel_rfl) (by kernel_rfl) (by kernel_rfl) rfl trivial (fun _ _ _ h => h) hM (fun w hC => r_move hl rfl) rfl ?_
                            clear hl a; intro a hl
                            first | refine d_take (i := 2) hl rfl (by kernel_rfl) (by kernel_rfl) (by kernel_rfl) (by kernel_rfl) (by kernel_rfl) rfl trivial (fun _ _ _ h => h) hM (fun w hC => r_add hl rfl rfl (by simp only [Fits]; omega)) rfl ?_ | refine d_take (i := 2) hl rfl (by kernel_rfl) (by kernel_rfl) (by kernel_rfl) (by kernel_rfl) (by kernel_rfl) rfl trivial (fun _ _ _ h => h) hM (fun w hC => r_addW hl rfl rfl) rfl ?_
                            clear hl a; intro a hl
                            refine d_take (i := 3) hl rfl (by kernel_rfl) (by kernel_rfl) (by kernel_rfl) (by kernel_rfl) (by kernel_rfl) rfl trivial (fun _ _ _ h => h) hM (fun w hC => r_field hl rfl fld36_4) rfl ?_
                            clear hl a; intro a hl
                            refine d_take (i := 4) hl rfl (by kernel_rfl) (by kernel_rfl) (by kernel_rfl) (by kernel_rfl) (by kernel_rfl) rfl trivial (fun _ _ _ h => h) hM (fun w hC => r_loadC hl rfl one27 hC (by repeat (first | exact find_head | apply find_tail)) (by first | rfl)) rfl ?_
                            clear hl a; intro a hl
                            refine d_take (i := 5) hl rfl (by kernel_rfl) (by kernel_rfl) (by kernel_rfl) (by kernel_rfl) (by kernel_rfl) rfl trivial (fun _ _ _ h => h) hM (fun w hC => r_field hl rfl fld36_5) rfl ?_
                            clear hl a; intro a hl
                            refine d_take (i := 6) hl rfl (by kernel_rfl) (by kernel_rfl) (by kernel_rfl) (by kernel_rfl) (by kernel_rfl) rfl trivial (fun _ _ _ h => h) hM (fun w hC => r_loadC hl rfl one27 hC (by repeat (first | exact find_head | apply find_tail)) (by first | rfl)) rfl ?_
                            clear hl a; intro a hl
                            refine d_take (i := 7) hl rfl (by kernel_rfl) (by kernel_rfl) (by kernel_rfl) (by kernel_rfl) (by kernel_rfl) rfl trivial (fun _ _ _ h => h) hM (fun w hC => r_indexA hl rfl rfl arr58 (by omega) (by omega) (by first | (simp only [Int.reduceToNat]; rfl) | exact toNat_add1 _ | exact toNat_add2 _ _ | exact toNat_emod _ _ | exact Int.toNat_natCast _ | rfl)) rfl ?_
                            clear hl a; intro a hl
                            refine d_one (i := 8) (by kernel_rfl) rfl ?_
                            try clear hM
                            refine id (w_store hl hh trivial one27 rfl rfl (by repeat (first | exact find_head | apply find_tail)) (by rw [arrL_length]; omega) (by first | rfl | (apply Row.one; assumption)) (by exact arr_store (by omega)) ?_)
                            clear hh w; intro w hh
                            have hM : Mem [(k8, C [.int .u8 kd2, .int .u32 x2, .int .u64 A2, .int .u64 B2, .int .u64 E2, .int .u64 D2] 36)] w := (by repeat (first | exact Mem.nil | refine Mem.cons hh.mem (by repeat (first | exact find_head | apply find_tail)) ?_ | refine Mem.consR hh (by assumption) (by simp) ?_))
                            refine d_step (fun _ => hM) ?_
                            refine d_takeL (i := 9) hl rfl (by kernel_rfl) (by kernel_rfl) (by kernel_rfl) (by kernel_rfl) (by kernel_rfl) rfl trivial (fun _ _ _ h => h) (fun w => r_indexA hl rfl rfl arr58 (by omega) (by omega) (by first | (simp only [Int.reduceToNat]; rfl) | exact toNat_add1 _ | exact toNat_add2 _ _ | exact toNat_emod _ _ | exact Int.toNat_natCast _ | rfl)) rfl ?_
                            clear hl a; intro a hl
                            refine d_one (i := 10) (by kernel_rfl) rfl ?_
                            try clear hM
                            refine id (w_store hl hh trivial one27 rfl rfl (by repeat (first | exact find_head | apply find_tail)) (by rw [arrL_length]; omega) (by first | rfl | (apply Row.one; assumption)) (by exact arr_store (by omega)) ?_)
                            clear hh w; intro w hh
                            refine d_step (fun h => absurd h (by decide)) ?_
                            refine d_done (by kernel_rfl) ?_
                            try clear hM
                            have hl2 := hl.add (t := 3) (hl.add (t := 5) (hl.add (t := 9) (hl.add (t := 11) (hl.add (t := 23) (hl.add (t := 24) (hl.add (t := 25) (hl.nil) rfl) rfl) rfl) rfl) rfl) rfl) rfl; clear hl; have hl := hl2; clear hl2
                            refine blk_normal ?_
                            refine then_normal ?_
                            refine c_seq ?_
                            refine c_region ?_
                            first | refine wl (w_loadA hl hh rfl trivial agg44 rfl (by repeat (first | exact find_head | apply find_tail)) (by first | (simp only [List.getElem?_cons_zero, List.getElem?_cons_succ, Value.cells, List.take_zero, List.take_succ_cons, List.take_nil, List.drop_zero, List.drop_succ_cons, List.drop_nil, List.length_cons, List.length_nil, List.cons_append, List.nil_append, List.append_nil, Nat.zero_add, Nat.add_zero, Nat.reduceAdd, Nat.reduceBEq, Nat.reduceEqDiff, Nat.ble, BEq.rfl, Bool.and_true, Bool.and_self, cond_true, beq_self_eq_true]; rfl)) (by first | rfl | (simp; done)) ?_) | refine wl (w_loadRA hl hh rfl trivial agg44 rfl hm (by simp) hqv rfl ?_)
                            clear hl a; intro a hl
                            first | refine wl (w_loadA hl hh rfl trivial agg44 rfl (by repeat (first | exact find_head | apply find_tail)) (by first | (simp only [List.getElem?_cons_zero, List.getElem?_cons_succ, Value.cells, List.take_zero, List.take_succ_cons, List.take_nil, List.drop_zero, List.drop_succ_cons, List.drop_nil, List.length_cons, List.length_nil, List.cons_append, List.nil_append, List.append_nil, Nat.zero_add, Nat.add_zero, Nat.reduceAdd, Nat.reduceBEq, Nat.reduceEqDiff, Nat.ble, BEq.rfl, Bool.and_true, Bool.and_self, cond_true, beq_self_eq_true]; rfl)) (by first | rfl | (simp; done)) ?_) | refine wl (w_loadRA hl hh rfl trivial agg44 rfl hm (by simp) hqv rfl ?_)
                            clear hl a; intro a hl
                            refine wl (wl_val hl rfl trivial (r_neqA hl rfl rfl eqf44 shp44 (by simp only [unlitL, unlit]; rfl) (by simp only [unlitL, unlit]; rfl) (by first | exact ⟨trivial⟩ | (refine ⟨?_⟩; simp [LitsOk, litOk, Fits]; done) | (refine ⟨?_⟩; simp [LitsOk, litOk, Fits]; omega)) (by first | exact ⟨trivial⟩ | (refine ⟨?_⟩; simp [LitsOk, litOk, Fits]; done) | (refine ⟨?_⟩; simp [LitsOk, litOk, Fits]; omega))) ?_)
                            clear hl a; intro a hl
                            refine w_nil ?_
                            have hl2 := hl.add (t := 3) (hl.add (t := 5) (hl.add (t := 23) (hl.add (t := 24) (hl.add (t := 25) (hl.add (t := 132) (hl.nil) rfl) rfl) rfl) rfl) rfl) rfl; clear hl; have hl := hl2; clear hl2
                            refine then_normal ?_
                            refine c_cond hl rfl ?_ ?_
                            · intro hc11
                              try simp only [decide_eq_true_eq, decide_eq_false_iff_not, Bool.not_eq_true', Bool.not_eq_false', Bool.not_eq_true, Bool.not_eq_false, Bool.and_eq_true, Bool.or_eq_true, Bool.and_eq_false_iff, Bool.or_eq_false_iff, Bool.not_not, ne_eq, Int.not_lt, Int.not_le, Decidable.not_not, beq_iff_eq, bne_iff_ne] at hc11
                              exfalso; first | (simp [eqLits, litBeq] at hc11; done) | (simp_all [eqLits, litBeq]; done)
                            · intro hc11
                              try simp only [decide_eq_true_eq, decide_eq_false_iff_not, Bool.not_eq_true', Bool.not_eq_false', Bool.not_eq_true, Bool.not_eq_false, Bool.and_eq_true, Bool.or_eq_true, Bool.and_eq_false_iff, Bool.or_eq_false_iff, Bool.not_not, ne_eq, Int.not_lt, Int.not_le, Decidable.not_not, beq_iff_eq, bne_iff_ne] at hc11
                              refine wp_skip ?_
                              refine blk_normal ?_
                              refine then_normal ?_
                              refine c_region ?_
                              first | refine wl (wl_val hl rfl trivial (r_add hl rfl rfl (by simp only [Fits]; omega)) ?_) | refine wl (wl_val hl rfl trivial (r_addW hl rfl rfl) ?_)
                              clear hl a; intro a hl
                              refine wl (wl_val hl rfl trivial (r_move hl rfl) ?_)
                              clear hl a; intro a hl
                              refine w_nil ?_
                              have hl2 := hl.add (t := 3) (hl.add (t := 5) (hl.add (t := 23) (hl.add (t := 24) (hl.add (t := 25) (hl.nil) rfl) rfl) rfl) rfl) rfl; clear hl; have hl := hl2; clear hl2
                              refine then_normal ?_
                              refine ⟨⟨s.i + 1, (doF s.f ⟨kd2, x2, A2, B2, E2, D2⟩).f, fl2, keepF s.rs ⟨kd2, x2, A2, B2, E2, D2⟩ (doF s.f ⟨kd2, x2, A2, B2, E2, D2⟩).ans, rv2, E3⟩, (by dsimp only; omega), hI.next hi hok hI2 hR2, hl.addE (t := 25) (hl.addE (t := 3) (hl.addE (t := 5) (hl.addE (t := 23) (hl.addE (t := 24) (hl.nil) rfl (by first | rfl | rfl)) rfl (by first | rfl | rfl)) rfl (by first | rfl | rfl)) rfl (by first | rfl | rfl)) rfl (by first | rfl | rfl), (by simp only [List.cons_append, List.nil_append, List.append_nil]; exact hh.keep (by repeat (first | exact keeps_nil | apply keeps_cons (by repeat (first | exact find_head | apply find_tail)) (by first  | exact arr_obj (fun i hi => by first | (simp only [hfk, wV, updV, word_setWord]; done) | (simp only [hfk, wV, updV, word_setWord]; (repeat' split) <;> first | rfl | omega | (simp_all; done)) | (simp only [wV]; rw [hfk i hi])) | rfl) | exact keeps_self | apply keeps_mv)))⟩
                          · intro hc10
                            try simp only [decide_eq_true_eq, decide_eq_false_iff_not, Bool.not_eq_true', Bool.not_eq_false', Bool.not_eq_true, Bool.not_eq_false, Bool.and_eq_true, Bool.or_eq_true, Bool.and_eq_false_iff, Bool.or_eq_false_iff, Bool.not_not, ne_eq, Int.not_lt, Int.not_le, Decidable.not_not, beq_iff_eq, bne_iff_ne] at hc10
                            rw [if_neg (by simp_all)] at hfk
                            refine wp_skip ?_
                            refine blk_normal ?_
                            refine then_normal ?_
                            refine c_seq ?_
                            refine c_region ?_
                            first | refine wl (w_loadA hl hh rfl trivial agg44 rfl (by repeat (first | exact find_head | apply find_tail)) (by first | (simp only [List.getElem?_cons_zero, List.getElem?_cons_succ, Value.cells, List.take_zero, List.take_succ_cons, List.take_nil, List.drop_zero, List.drop_succ_cons, List.drop_nil, List.length_cons, List.length_nil, List.cons_append, List.nil_append, List.append_nil, Nat.zero_add, Nat.add_zero, Nat.reduceAdd, Nat.reduceBEq, Nat.reduceEqDiff, Nat.ble, BEq.rfl, Bool.and_true, Bool.and_self, cond_true, beq_self_eq_true]; rfl)) (by first | rfl | (simp; done)) ?_) | refine wl (w_loadRA hl hh rfl trivial agg44 rfl hm (by simp) hqv rfl ?_)
                            clear hl a; intro a hl
                            first | refine wl (w_loadA hl hh rfl trivial agg44 rfl (by repeat (first | exact find_head | apply find_tail)) (by first | (simp only [List.getElem?_cons_zero, List.getElem?_cons_succ, Value.cells, List.take_zero, List.take_succ_cons, List.take_nil, List.drop_zero, List.drop_succ_cons, List.drop_nil, List.length_cons, List.length_nil, List.cons_append, List.nil_append, List.append_nil, Nat.zero_add, Nat.add_zero, Nat.reduceAdd, Nat.reduceBEq, Nat.reduceEqDiff, Nat.ble, BEq.rfl, Bool.and_true, Bool.and_self, cond_true, beq_self_eq_true]; rfl)) (by first | rfl | (simp; done)) ?_) | refine wl (w_loadRA hl hh rfl trivial agg44 rfl hm (by simp) hqv rfl ?_)
                            clear hl a; intro a hl
                            refine wl (wl_val hl rfl trivial (r_neqA hl rfl rfl eqf44 shp44 (by simp only [unlitL, unlit]; rfl) (by simp only [unlitL, unlit]; rfl) (by first | exact ⟨trivial⟩ | (refine ⟨?_⟩; simp [LitsOk, litOk, Fits]; done) | (refine ⟨?_⟩; simp [LitsOk, litOk, Fits]; omega)) (by first | exact ⟨trivial⟩ | (refine ⟨?_⟩; simp [LitsOk, litOk, Fits]; done) | (refine ⟨?_⟩; simp [LitsOk, litOk, Fits]; omega))) ?_)
                            clear hl a; intro a hl
                            refine w_nil ?_
                            have hl2 := hl.add (t := 3) (hl.add (t := 5) (hl.add (t := 23) (hl.add (t := 24) (hl.add (t := 25) (hl.add (t := 132) (hl.nil) rfl) rfl) rfl) rfl) rfl) rfl; clear hl; have hl := hl2; clear hl2
                            refine then_normal ?_
                            refine c_cond hl rfl ?_ ?_
                            · intro hc11
                              try simp only [decide_eq_true_eq, decide_eq_false_iff_not, Bool.not_eq_true', Bool.not_eq_false', Bool.not_eq_true, Bool.not_eq_false, Bool.and_eq_true, Bool.or_eq_true, Bool.and_eq_false_iff, Bool.or_eq_false_iff, Bool.not_not, ne_eq, Int.not_lt, Int.not_le, Decidable.not_not, beq_iff_eq, bne_iff_ne] at hc11
                              exfalso; first | (simp [eqLits, litBeq] at hc11; done) | (simp_all [eqLits, litBeq]; done)
                            · intro hc11
                              try simp only [decide_eq_true_eq, decide_eq_false_iff_not, Bool.not_eq_true', Bool.not_eq_false', Bool.not_eq_true, Bool.not_eq_false, Bool.and_eq_true, Bool.or_eq_true, Bool.and_eq_false_iff, Bool.or_eq_false_iff, Bool.not_not, ne_eq, Int.not_lt, Int.not_le, Decidable.not_not, beq_iff_eq, bne_iff_ne] at hc11
                              refine wp_skip ?_
                              refine blk_normal ?_
                              refine then_normal ?_
                              refine c_region ?_
                              first | refine wl (wl_val hl rfl trivial (r_add hl rfl rfl (by simp only [Fits]; omega)) ?_) | refine wl (wl_val hl rfl trivial (r_addW hl rfl rfl) ?_)
                              clear hl a; intro a hl
                              refine wl (wl_val hl rfl trivial (r_move hl rfl) ?_)
                              clear hl a; intro a hl
                              refine w_nil ?_
                              have hl2 := hl.add (t := 3) (hl.add (t := 5) (hl.add (t := 23) (hl.add (t := 24) (hl.add (t := 25) (hl.nil) rfl) rfl) rfl) rfl) rfl; clear hl; have hl := hl2; clear hl2
                              refine then_normal ?_
                              refine ⟨⟨s.i + 1, (doF s.f ⟨kd2, x2, A2, B2, E2, D2⟩).f, fl2, keepF s.rs ⟨kd2, x2, A2, B2, E2, D2⟩ (doF s.f ⟨kd2, x2, A2, B2, E2, D2⟩).ans, rv2, E3⟩, (by dsimp only; omega), hI.next hi hok hI2 hR2, hl.addE (t := 25) (hl.addE (t := 3) (hl.addE (t := 5) (hl.addE (t := 23) (hl.addE (t := 24) (hl.nil) rfl (by first | rfl | rfl)) rfl (by first | rfl | rfl)) rfl (by first | rfl | rfl)) rfl (by first | rfl | rfl)) rfl (by first | rfl | rfl), (by simp only [List.cons_append, List.nil_append, List.append_nil]; exact hh.keep (by repeat (first | exact keeps_nil | apply keeps_cons (by repeat (first | exact find_head | apply find_tail)) (by first  | exact arr_obj (fun i hi => by first | (simp only [hfk, wV, updV, word_setWord]; done) | (simp only [hfk, wV, updV, word_setWord]; (repeat' split) <;> first | rfl | omega | (simp_all; done)) | (simp only [wV]; rw [hfk i hi])) | rfl) | exact keeps_self | apply keeps_mv)))⟩
                        · intro hg7; clear hl; intro hl
                          try simp only [decide_eq_true_eq, decide_eq_false_iff_not, Bool.not_eq_true', Bool.not_eq_false', Bool.not_eq_true, Bool.not_eq_false, Bool.and_eq_true, Bool.or_eq_true, Bool.and_eq_false_iff, Bool.or_eq_false_iff, Bool.not_not, ne_eq, Int.not_lt, Int.not_le, Decidable.not_not, beq_iff_eq, bne_iff_ne] at hg7
                          refine d_skip (i := 7) hl rfl (by kernel_rfl) (by kernel_rfl) (by kernel_rfl) (by kernel_rfl) (by kernel_rfl) rfl ⟨_, _, rfl, rfl, rfl⟩ (fun _ _ _ h => h) hM ?_
                          clear hl a; intro a hl
                          refine d_skip (i := 8) hl rfl (by kernel_rfl) (by kernel_rfl) (by kernel_rfl) (by kernel_rfl) (by kernel_rfl) rfl ⟨_, _, rfl, rfl, rfl⟩ (fun _ _ _ h => h) hM ?_
                          clear hl a; intro a hl
                          refine d_skip (i := 9) hl rfl (by kernel_rfl) (by kernel_rfl) (by kernel_rfl) (by kernel_rfl) (by kernel_rfl) rfl ⟨_, _, rfl, rfl, rfl⟩ (fun _ _ _ h => h) hM ?_
                          clear hl a; intro a hl
                          refine d_skip (i := 10) hl rfl (by kernel_rfl) (by kernel_rfl) (by kernel_rfl) (by kernel_rfl) (by kernel_rfl) rfl ⟨_, _, rfl, rfl, rfl⟩ (fun _ _ _ h => h) hM ?_
                          clear hl a; intro a hl
                          refine d_skip (i := 11) hl rfl (by kernel_rfl) (by kernel_rfl) (by kernel_rfl) (by kernel_rfl) (by kernel_rfl) rfl ⟨_, _, rfl, rfl, rfl⟩ (fun _ _ _ h => h) hM ?_
                          clear hl a; intro a hl
                          refine d_skip (i := 12) hl rfl (by kernel_rfl) (by kernel_rfl) (by kernel_rfl) (by kernel_rfl) (by kernel_rfl) rfl ⟨_, _, rfl, rfl, rfl⟩ (fun _ _ _ h => h) hM ?_
                          clear hl a; intro a hl
                          refine d_skip (i := 13) hl rfl (by kernel_rfl) (by kernel_rfl) (by kernel_rfl) (by kernel_rfl) (by kernel_rfl) rfl ⟨_, _, rfl, rfl, rfl⟩ (fun _ _ _ h => h) hM ?_
                          clear hl a; intro a hl
                          refine d_takeL (i := 14) hl rfl (by kernel_rfl) (by kernel_rfl) (by kernel_rfl) (by kernel_rfl) (by kernel_rfl) rfl trivial (fun _ _ _ h => h) (fun w => r_pickF hl rfl rfl) rfl ?_
                          clear hl a; intro a hl
                          refine d_takeL (i := 15) hl rfl (by kernel_rfl) (by kernel_rfl) (by kernel_rfl) (by kernel_rfl) (by kernel_rfl) rfl trivial (fun _ _ _ h => h) (fun w => r_field hl rfl fld44_1) rfl ?_
                          clear hl a; intro a hl
                          refine d_one (i := 16) (by kernel_rfl) rfl ?_
                          try clear hM
                          refine id (w_store hl hh trivial one4 rfl rfl (by repeat (first | exact find_head | apply find_tail)) (by first | (simp; done) | (simp; omega)) (by first | rfl | (apply Row.one; assumption)) (by first | (simp only [setL, List.getElem?_cons_zero, List.getElem?_cons_succ, Value.cells, List.take_zero, List.take_succ_cons, List.take_nil, List.drop_zero, List.drop_succ_cons, List.drop_nil, List.length_cons, List.length_nil, List.cons_append, List.nil_append, List.append_nil, Nat.zero_add, Nat.add_zero, Nat.reduceAdd, Nat.reduceBEq, Nat.reduceEqDiff, Nat.ble, BEq.rfl, Bool.and_true, Bool.and_self, cond_true, beq_self_eq_true]; rfl)) ?_)
                          clear hh w; intro w hh
                          refine d_step (fun h => absurd h (by decide)) ?_
                          refine d_done (by kernel_rfl) ?_
                          try clear hM
                          have hl2 := hl.add (t := 3) (hl.add (t := 5) (hl.add (t := 8) (hl.add (t := 9) (hl.add (t := 10) (hl.add (t := 11) (hl.add (t := 23) (hl.add (t := 24) (hl.add (t := 25) (hl.nil) rfl) rfl) rfl) rfl) rfl) rfl) rfl) rfl) rfl; clear hl; have hl := hl2; clear hl2
                          refine then_normal ?_
                          refine c_seq ?_
                          refine c_region ?_
                          refine wl (wl_val hl rfl trivial (r_field hl rfl fld44_1) ?_)
                          clear hl a; intro a hl
                          refine wl (w_load hl hh rfl trivial one4 rfl (by repeat (first | exact find_head | apply find_tail)) (by first | rfl) ?_)
                          clear hl a; intro a hl
                          refine w_nil ?_
                          have hl2 := hl.add (t := 3) (hl.add (t := 5) (hl.add (t := 8) (hl.add (t := 9) (hl.add (t := 10) (hl.add (t := 11) (hl.add (t := 23) (hl.add (t := 24) (hl.add (t := 25) (hl.add (t := 120) (hl.nil) rfl) rfl) rfl) rfl) rfl) rfl) rfl) rfl) rfl) rfl; clear hl; have hl := hl2; clear hl2
                          refine then_normal ?_
                          refine c_cond hl rfl ?_ ?_
                          · intro hc10
                            try simp only [decide_eq_true_eq, decide_eq_false_iff_not, Bool.not_eq_true', Bool.not_eq_false', Bool.not_eq_true, Bool.not_eq_false, Bool.and_eq_true, Bool.or_eq_true, Bool.and_eq_false_iff, Bool.or_eq_false_iff, Bool.not_not, ne_eq, Int.not_lt, Int.not_le, Decidable.not_not, beq_iff_eq, bne_iff_ne] at hc10
                            rw [if_pos (by simp_all)] at hfk
                            refine c_draw [(k8, C [.int .u8 kd2, .int .u32 x2, .int .u64 A2, .int .u64 B2, .int .u64 E2, .int .u64 D2] 36)] [9, 10] mixed hh ?_
                            clear hh w; intro w hh
                            have hM : Mem [(k8, C [.int .u8 kd2, .int .u32 x2, .int .u64 A2, .int .u64 B2, .int .u64 E2, .int .u64 D2] 36)] w := (by repeat (first | exact Mem.nil | refine Mem.cons hh.mem (by repeat (first | exact find_head | apply find_tail)) ?_ | refine Mem.consR hh (by assumption) (by simp) ?_))
                            refine d_take (i := 0) hl rfl (by kernel_rfl) (by kernel_rfl) (by kernel_rfl) (by kernel_rfl) (by kernel_rfl) rfl trivial (fun _ _ _ h => h) hM (fun w hC => r_move hl rfl) rfl ?_
                            clear hl a; intro a hl
                            refine d_take (i := 1) hl rfl (by kernel_rfl) (by kernel_rfl) (by kernel_rfl) (by kernel_rfl) (by kernel_rfl) rfl trivial (fun _ _ _ h => h) hM (fun w hC => r_move hl rfl) rfl ?_
                            clear hl a; intro a hl
                            first | refine d_take (i := 2) hl rfl (by kernel_rfl) (by kernel_rfl) (by kernel_rfl) (by kernel_rfl) (by kernel_rfl) rfl trivial (fun _ _ _ h => h) hM (fun w hC => r_add hl rfl rfl (by simp only [Fits]; omega)) rfl ?_ | refine d_take (i := 2) hl rfl (by kernel_rfl) (by kernel_rfl) (by kernel_rfl) (by kernel_rfl) (by kernel_rfl) rfl trivial (fun _ _ _ h => h) hM (fun w hC => r_addW hl rfl rfl) rfl ?_
                            clear hl a; intro a hl
                            refine d_take (i := 3) hl rfl (by kernel_rfl) (by kernel_rfl) (by kernel_rfl) (by kernel_rfl) (by kernel_rfl) rfl trivial (fun _ _ _ h => h) hM (fun w hC => r_field hl rfl fld36_4) rfl ?_
                            clear hl a; intro a hl
                            refine d_take (i := 4) hl rfl (by kernel_rfl) (by kernel_rfl) (by kernel_rfl) (by kernel_rfl) (by kernel_rfl) rfl trivial (fun _ _ _ h => h) hM (fun w hC => r_loadC hl rfl one27 hC (by repeat (first | exact find_head | apply find_tail)) (by first | rfl)) rfl ?_
                            clear hl a; intro a hl
                            refine d_take (i := 5) hl rfl (by kernel_rfl) (by kernel_rfl) (by kernel_rfl) (by kernel_rfl) (by kernel_rfl) rfl trivial (fun _ _ _ h => h) hM (fun w hC => r_field hl rfl fld36_5) rfl ?_
                            clear hl a; intro a hl
                            refine d_take (i := 6) hl rfl (by kernel_rfl) (by kernel_rfl) (by kernel_rfl) (by kernel_rfl) (by kernel_rfl) rfl trivial (fun _ _ _ h => h) hM (fun w hC => r_loadC hl rfl one27 hC (by repeat (first | exact find_head | apply find_tail)) (by first | rfl)) rfl ?_
                            clear hl a; intro a hl
                            refine d_take (i := 7) hl rfl (by kernel_rfl) (by kernel_rfl) (by kernel_rfl) (by kernel_rfl) (by kernel_rfl) rfl trivial (fun _ _ _ h => h) hM (fun w hC => r_indexA hl rfl rfl arr58 (by omega) (by omega) (by first | (simp only [Int.reduceToNat]; rfl) | exact toNat_add1 _ | exact toNat_add2 _ _ | exact toNat_emod _ _ | exact Int.toNat_natCast _ | rfl)) rfl ?_
                            clear hl a; intro a hl
                            refine d_one (i := 8) (by kernel_rfl) rfl ?_
                            try clear hM
                            refine id (w_store hl hh trivial one27 rfl rfl (by repeat (first | exact find_head | apply find_tail)) (by rw [arrL_length]; omega) (by first | rfl | (apply Row.one; assumption)) (by exact arr_store (by omega)) ?_)
                            clear hh w; intro w hh
                            have hM : Mem [(k8, C [.int .u8 kd2, .int .u32 x2, .int .u64 A2, .int .u64 B2, .int .u64 E2, .int .u64 D2] 36)] w := (by repeat (first | exact Mem.nil | refine Mem.cons hh.mem (by repeat (first | exact find_head | apply find_tail)) ?_ | refine Mem.consR hh (by assumption) (by simp) ?_))
                            refine d_step (fun _ => hM) ?_
                            refine d_takeL (i := 9) hl rfl (by kernel_rfl) (by kernel_rfl) (by kernel_rfl) (by kernel_rfl) (by kernel_rfl) rfl trivial (fun _ _ _ h => h) (fun w => r_indexA hl rfl rfl arr58 (by omega) (by omega) (by first | (simp only [Int.reduceToNat]; rfl) | exact toNat_add1 _ | exact toNat_add2 _ _ | exact toNat_emod _ _ | exact Int.toNat_natCast _ | rfl)) rfl ?_
                            clear hl a; intro a hl
                            refine d_one (i := 10) (by kernel_rfl) rfl ?_
                            try clear hM
                            refine id (w_store hl hh trivial one27 rfl rfl (by repeat (first | exact find_head | apply find_tail)) (by rw [arrL_length]; omega) (by first | rfl | (apply Row.one; assumption)) (by exact arr_store (by omega)) ?_)
                            clear hh w; intro w hh
                            refine d_step (fun h => absurd h (by decide)) ?_
                            refine d_done (by kernel_rfl) ?_
                            try clear hM
                            have hl2 := hl.add (t := 3) (hl.add (t := 5) (hl.add (t := 9) (hl.add (t := 11) (hl.add (t := 23) (hl.add (t := 24) (hl.add (t := 25) (hl.nil) rfl) rfl) rfl) rfl) rfl) rfl) rfl; clear hl; have hl := hl2; clear hl2
                            refine blk_normal ?_
                            refine then_normal ?_
                            refine c_seq ?_
                            refine c_region ?_
                            first | refine wl (w_loadA hl hh rfl trivial agg44 rfl (by repeat (first | exact find_head | apply find_tail)) (by first | (simp only [List.getElem?_cons_zero, List.getElem?_cons_succ, Value.cells, List.take_zero, List.take_succ_cons, List.take_nil, List.drop_zero, List.drop_succ_cons, List.drop_nil, List.length_cons, List.length_nil, List.cons_append, List.nil_append, List.append_nil, Nat.zero_add, Nat.add_zero, Nat.reduceAdd, Nat.reduceBEq, Nat.reduceEqDiff, Nat.ble, BEq.rfl, Bool.and_true, Bool.and_self, cond_true, beq_self_eq_true]; rfl)) (by first | rfl | (simp; done)) ?_) | refine wl (w_loadRA hl hh rfl trivial agg44 rfl hm (by simp) hqv rfl ?_)
                            clear hl a; intro a hl
                            first | refine wl (w_loadA hl hh rfl trivial agg44 rfl (by repeat (first | exact find_head | apply find_tail)) (by first | (simp only [List.getElem?_cons_zero, List.getElem?_cons_succ, Value.cells, List.take_zero, List.take_succ_cons, List.take_nil, List.drop_zero, List.drop_succ_cons, List.drop_nil, List.length_cons, List.length_nil, List.cons_append, List.nil_append, List.append_nil, Nat.zero_add, Nat.add_zero, Nat.reduceAdd, Nat.reduceBEq, Nat.reduceEqDiff, Nat.ble, BEq.rfl, Bool.and_true, Bool.and_self, cond_true, beq_self_eq_true]; rfl)) (by first | rfl | (simp; done)) ?_) | refine wl (w_loadRA hl hh rfl trivial agg44 rfl hm (by simp) hqv rfl ?_)
                            clear hl a; intro a hl
                            refine wl (wl_val hl rfl trivial (r_neqA hl rfl rfl eqf44 shp44 (by simp only [unlitL, unlit]; rfl) (by simp only [unlitL, unlit]; rfl) (by first | exact ⟨trivial⟩ | (refine ⟨?_⟩; simp [LitsOk, litOk, Fits]; done) | (refine ⟨?_⟩; simp [LitsOk, litOk, Fits]; omega)) (by first | exact ⟨trivial⟩ | (refine ⟨?_⟩; simp [LitsOk, litOk, Fits]; done) | (refine ⟨?_⟩; simp [LitsOk, litOk, Fits]; omega))) ?_)
                            clear hl a; intro a hl
                            refine w_nil ?_
                            have hl2 := hl.add (t := 3) (hl.add (t := 5) (hl.add (t := 23) (hl.add (t := 24) (hl.add (t := 25) (hl.add (t := 132) (hl.nil) rfl) rfl) rfl) rfl) rfl) rfl; clear hl; have hl := hl2; clear hl2
                            refine then_normal ?_
                            refine c_cond hl rfl ?_ ?_
                            · intro hc11
                              try simp only [decide_eq_true_eq, decide_eq_false_iff_not, Bool.not_eq_true', Bool.not_eq_false', Bool.not_eq_true, Bool.not_eq_false, Bool.and_eq_true, Bool.or_eq_true, Bool.and_eq_false_iff, Bool.or_eq_false_iff, Bool.not_not, ne_eq, Int.not_lt, Int.not_le, Decidable.not_not, beq_iff_eq, bne_iff_ne] at hc11
                              exfalso; first | (simp [eqLits, litBeq] at hc11; done) | (simp_all [eqLits, litBeq]; done)
                            · intro hc11
                              try simp only [decide_eq_true_eq, decide_eq_false_iff_not, Bool.not_eq_true', Bool.not_eq_false', Bool.not_eq_true, Bool.not_eq_false, Bool.and_eq_true, Bool.or_eq_true, Bool.and_eq_false_iff, Bool.or_eq_false_iff, Bool.not_not, ne_eq, Int.not_lt, Int.not_le, Decidable.not_not, beq_iff_eq, bne_iff_ne] at hc11
                              refine wp_skip ?_
                              refine blk_normal ?_
                              refine then_normal ?_
                              refine c_region ?_
                              first | refine wl (wl_val hl rfl trivial (r_add hl rfl rfl (by simp only [Fits]; omega)) ?_) | refine wl (wl_val hl rfl trivial (r_addW hl rfl rfl) ?_)
                              clear hl a; intro a hl
                              refine wl (wl_val hl rfl trivial (r_move hl rfl) ?_)
                              clear hl a; intro a hl
                              refine w_nil ?_
                              have hl2 := hl.add (t := 3) (hl.add (t := 5) (hl.add (t := 23) (hl.add (t := 24) (hl.add (t := 25) (hl.nil) rfl) rfl) rfl) rfl) rfl; clear hl; have hl := hl2; clear hl2
                              refine then_normal ?_
                              refine ⟨⟨s.i + 1, (doF s.f ⟨kd2, x2, A2, B2, E2, D2⟩).f, fl2, keepF s.rs ⟨kd2, x2, A2, B2, E2, D2⟩ (doF s.f ⟨kd2, x2, A2, B2, E2, D2⟩).ans, rv2, E3⟩, (by dsimp only; omega), hI.next hi hok hI2 hR2, hl.addE (t := 25) (hl.addE (t := 3) (hl.addE (t := 5) (hl.addE (t := 23) (hl.addE (t := 24) (hl.nil) rfl (by first | rfl | rfl)) rfl (by first | rfl | rfl)) rfl (by first | rfl | rfl)) rfl (by first | rfl | rfl)) rfl (by first | rfl | rfl), (by simp only [List.cons_append, List.nil_append, List.append_nil]; exact hh.keep (by repeat (first | exact keeps_nil | apply keeps_cons (by repeat (first | exact find_head | apply find_tail)) (by first  | exact arr_obj (fun i hi => by first | (simp only [hfk, wV, updV, word_setWord]; done) | (simp only [hfk, wV, updV, word_setWord]; (repeat' split) <;> first | rfl | omega | (simp_all; done)) | (simp only [wV]; rw [hfk i hi])) | rfl) | exact keeps_self | apply keeps_mv)))⟩
                          · intro hc10
                            try simp only [decide_eq_true_eq, decide_eq_false_iff_not, Bool.not_eq_true', Bool.not_eq_false', Bool.not_eq_true, Bool.not_eq_false, Bool.and_eq_true, Bool.or_eq_true, Bool.and_eq_false_iff, Bool.or_eq_false_iff, Bool.not_not, ne_eq, Int.not_lt, Int.not_le, Decidable.not_not, beq_iff_eq, bne_iff_ne] at hc10
                            rw [if_neg (by simp_all)] at hfk
                            refine wp_skip ?_
                            refine blk_normal ?_
                            refine then_normal ?_
                            refine c_seq ?_
                            refine c_region ?_
                            first | refine wl (w_loadA hl hh rfl trivial agg44 rfl (by repeat (first | exact find_head | apply find_tail)) (by first | (simp only [List.getElem?_cons_zero, List.getElem?_cons_succ, Value.cells, List.take_zero, List.take_succ_cons, List.take_nil, List.drop_zero, List.drop_succ_cons, List.drop_nil, List.length_cons, List.length_nil, List.cons_append, List.nil_append, List.append_nil, Nat.zero_add, Nat.add_zero, Nat.reduceAdd, Nat.reduceBEq, Nat.reduceEqDiff, Nat.ble, BEq.rfl, Bool.and_true, Bool.and_self, cond_true, beq_self_eq_true]; rfl)) (by first | rfl | (simp; done)) ?_) | refine wl (w_loadRA hl hh rfl trivial agg44 rfl hm (by simp) hqv rfl ?_)
                            clear hl a; intro a hl
                            first | refine wl (w_loadA hl hh rfl trivial agg44 rfl (by repeat (first | exact find_head | apply find_tail)) (by first | (simp only [List.getElem?_cons_zero, List.getElem?_cons_succ, Value.cells, List.take_zero, List.take_succ_cons, List.take_nil, List.drop_zero, List.drop_succ_cons, List.drop_nil, List.length_cons, List.length_nil, List.cons_append, List.nil_append, List.append_nil, Nat.zero_add, Nat.add_zero, Nat.reduceAdd, Nat.reduceBEq, Nat.reduceEqDiff, Nat.ble, BEq.rfl, Bool.and_true, Bool.and_self, cond_true, beq_self_eq_true]; rfl)) (by first | rfl | (simp; done)) ?_) | refine wl (w_loadRA hl hh rfl trivial agg44 rfl hm (by simp) hqv rfl ?_)
                            clear hl a; intro a hl
                            refine wl (wl_val hl rfl trivial (r_neqA hl rfl rfl eqf44 shp44 (by simp only [unlitL, unlit]; rfl) (by simp only [unlitL, unlit]; rfl) (by first | exact ⟨trivial⟩ | (refine ⟨?_⟩; simp [LitsOk, litOk, Fits]; done) | (refine ⟨?_⟩; simp [LitsOk, litOk, Fits]; omega)) (by first | exact ⟨trivial⟩ | (refine ⟨?_⟩; simp [LitsOk, litOk, Fits]; done) | (refine ⟨?_⟩; simp [LitsOk, litOk, Fits]; omega))) ?_)
                            clear hl a; intro a hl
                            refine w_nil ?_
                            have hl2 := hl.add (t := 3) (hl.add (t := 5) (hl.add (t := 23) (hl.add (t := 24) (hl.add (t := 25) (hl.add (t := 132) (hl.nil) rfl) rfl) rfl) rfl) rfl) rfl; clear hl; have hl := hl2; clear hl2
                            refine then_normal ?_
                            refine c_cond hl rfl ?_ ?_
                            · intro hc11
                              try simp only [decide_eq_true_eq, decide_eq_false_iff_not, Bool.not_eq_true', Bool.not_eq_false', Bool.not_eq_true, Bool.not_eq_false, Bool.and_eq_true, Bool.or_eq_true, Bool.and_eq_false_iff, Bool.or_eq_false_iff, Bool.not_not, ne_eq, Int.not_lt, Int.not_le, Decidable.not_not, beq_iff_eq, bne_iff_ne] at hc11
                              exfalso; first | (simp [eqLits, litBeq] at hc11; done) | (simp_all [eqLits, litBeq]; done)
                            · intro hc11
                              try simp only [decide_eq_true_eq, decide_eq_false_iff_not, Bool.not_eq_true', Bool.not_eq_false', Bool.not_eq_true, Bool.not_eq_false, Bool.and_eq_true, Bool.or_eq_true, Bool.and_eq_false_iff, Bool.or_eq_false_iff, Bool.not_not, ne_eq, Int.not_lt, Int.not_le, Decidable.not_not, beq_iff_eq, bne_iff_ne] at hc11
                              refine wp_skip ?_
                              refine blk_normal ?_
                              refine then_normal ?_
                              refine c_region ?_
                              first | refine wl (wl_val hl rfl trivial (r_add hl rfl rfl (by simp only [Fits]; omega)) ?_) | refine wl (wl_val hl rfl trivial (r_addW hl rfl rfl) ?_)
                              clear hl a; intro a hl
                              refine wl (wl_val hl rfl trivial (r_move hl rfl) ?_)
                              clear hl a; intro a hl
                              refine w_nil ?_
                              have hl2 := hl.add (t := 3) (hl.add (t := 5) (hl.add (t := 23) (hl.add (t := 24) (hl.add (t := 25) (hl.nil) rfl) rfl) rfl) rfl) rfl; clear hl; have hl := hl2; clear hl2
                              refine then_normal ?_
                              refine ⟨⟨s.i + 1, (doF s.f ⟨kd2, x2, A2, B2, E2, D2⟩).f, fl2, keepF s.rs ⟨kd2, x2, A2, B2, E2, D2⟩ (doF s.f ⟨kd2, x2, A2, B2, E2, D2⟩).ans, rv2, E3⟩, (by dsimp only; omega), hI.next hi hok hI2 hR2, hl.addE (t := 25) (hl.addE (t := 3) (hl.addE (t := 5) (hl.addE (t := 23) (hl.addE (t := 24) (hl.nil) rfl (by first | rfl | rfl)) rfl (by first | rfl | rfl)) rfl (by first | rfl | rfl)) rfl (by first | rfl | rfl)) rfl (by first | rfl | rfl), (by simp only [List.cons_append, List.nil_append, List.append_nil]; exact hh.keep (by repeat (first | exact keeps_nil | apply keeps_cons (by repeat (first | exact find_head | apply find_tail)) (by first  | exact arr_obj (fun i hi => by first | (simp only [hfk, wV, updV, word_setWord]; done) | (simp only [hfk, wV, updV, word_setWord]; (repeat' split) <;> first | rfl | omega | (simp_all; done)) | (simp only [wV]; rw [hfk i hi])) | rfl) | exact keeps_self | apply keeps_mv)))⟩
                      · intro hc9
                        try simp only [decide_eq_true_eq, decide_eq_false_iff_not, Bool.not_eq_true', Bool.not_eq_false', Bool.not_eq_true, Bool.not_eq_false, Bool.and_eq_true, Bool.or_eq_true, Bool.and_eq_false_iff, Bool.or_eq_false_iff, Bool.not_not, ne_eq, Int.not_lt, Int.not_le, Decidable.not_not, beq_iff_eq, bne_iff_ne] at hc9
                        obtain ⟨ha, hfk⟩ := doF_0 s.f ⟨kd2, x2, A2, B2, E2, D2⟩ (by simp only; omega) hx
                        rw [hr] at ha
                        try simp only at hfk
                        injection ha with e0 e1 e2 e3
                        subst e0; subst e1; subst e2; subst e3
                        refine wp_skip ?_
                        refine blk_normal ?_
                        refine then_normal ?_
                        refine c_seq ?_
                        refine c_region ?_
                        first | refine wl (w_loadA hl hh rfl trivial agg44 rfl (by repeat (first | exact find_head | apply find_tail)) (by first | (simp only [List.getElem?_cons_zero, List.getElem?_cons_succ, Value.cells, List.take_zero, List.take_succ_cons, List.take_nil, List.drop_zero, List.drop_succ_cons, List.drop_nil, List.length_cons, List.length_nil, List.cons_append, List.nil_append, List.append_nil, Nat.zero_add, Nat.add_zero, Nat.reduceAdd, Nat.reduceBEq, Nat.reduceEqDiff, Nat.ble, BEq.rfl, Bool.and_true, Bool.and_self, cond_true, beq_self_eq_true]; rfl)) (by first | rfl | (simp; done)) ?_) | refine wl (w_loadRA hl hh rfl trivial agg44 rfl hm (by simp) hqv rfl ?_)
                        clear hl a; intro a hl
                        first | refine wl (w_loadA hl hh rfl trivial agg44 rfl (by repeat (first | exact find_head | apply find_tail)) (by first | (simp only [List.getElem?_cons_zero, List.getElem?_cons_succ, Value.cells, List.take_zero, List.take_succ_cons, List.take_nil, List.drop_zero, List.drop_succ_cons, List.drop_nil, List.length_cons, List.length_nil, List.cons_append, List.nil_append, List.append_nil, Nat.zero_add, Nat.add_zero, Nat.reduceAdd, Nat.reduceBEq, Nat.reduceEqDiff, Nat.ble, BEq.rfl, Bool.and_true, Bool.and_self, cond_true, beq_self_eq_true]; rfl)) (by first | rfl | (simp; done)) ?_) | refine wl (w_loadRA hl hh rfl trivial agg44 rfl hm (by simp) hqv rfl ?_)
                        clear hl a; intro a hl
                        refine wl (wl_val hl rfl trivial (r_neqA hl rfl rfl eqf44 shp44 (by simp only [unlitL, unlit]; rfl) (by simp only [unlitL, unlit]; rfl) (by first | exact ⟨trivial⟩ | (refine ⟨?_⟩; simp [LitsOk, litOk, Fits]; done) | (refine ⟨?_⟩; simp [LitsOk, litOk, Fits]; omega)) (by first | exact ⟨trivial⟩ | (refine ⟨?_⟩; simp [LitsOk, litOk, Fits]; done) | (refine ⟨?_⟩; simp [LitsOk, litOk, Fits]; omega))) ?_)
                        clear hl a; intro a hl
                        refine w_nil ?_
                        have hl2 := hl.add (t := 3) (hl.add (t := 5) (hl.add (t := 23) (hl.add (t := 24) (hl.add (t := 25) (hl.add (t := 132) (hl.nil) rfl) rfl) rfl) rfl) rfl) rfl; clear hl; have hl := hl2; clear hl2
                        refine then_normal ?_
                        refine c_cond hl rfl ?_ ?_
                        · intro hc11
                          try simp only [decide_eq_true_eq, decide_eq_false_iff_not, Bool.not_eq_true', Bool.not_eq_false', Bool.not_eq_true, Bool.not_eq_false, Bool.and_eq_true, Bool.or_eq_true, Bool.and_eq_false_iff, Bool.or_eq_false_iff, Bool.not_not, ne_eq, Int.not_lt, Int.not_le, Decidable.not_not, beq_iff_eq, bne_iff_ne] at hc11
                          exfalso; first | (simp [eqLits, litBeq] at hc11; done) | (simp_all [eqLits, litBeq]; done)
                        · intro hc11
                          try simp only [decide_eq_true_eq, decide_eq_false_iff_not, Bool.not_eq_true', Bool.not_eq_false', Bool.not_eq_true, Bool.not_eq_false, Bool.and_eq_true, Bool.or_eq_true, Bool.and_eq_false_iff, Bool.or_eq_false_iff, Bool.not_not, ne_eq, Int.not_lt, Int.not_le, Decidable.not_not, beq_iff_eq, bne_iff_ne] at hc11
                          refine wp_skip ?_
                          refine blk_normal ?_
                          refine then_normal ?_
                          refine c_region ?_
                          first | refine wl (wl_val hl rfl trivial (r_add hl rfl rfl (by simp only [Fits]; omega)) ?_) | refine wl (wl_val hl rfl trivial (r_addW hl rfl rfl) ?_)
                          clear hl a; intro a hl
                          refine wl (wl_val hl rfl trivial (r_move hl rfl) ?_)
                          clear hl a; intro a hl
                          refine w_nil ?_
                          have hl2 := hl.add (t := 3) (hl.add (t := 5) (hl.add (t := 23) (hl.add (t := 24) (hl.add (t := 25) (hl.nil) rfl) rfl) rfl) rfl) rfl; clear hl; have hl := hl2; clear hl2
                          refine then_normal ?_
                          refine ⟨⟨s.i + 1, (doF s.f ⟨kd2, x2, A2, B2, E2, D2⟩).f, fl2, keepF s.rs ⟨kd2, x2, A2, B2, E2, D2⟩ (doF s.f ⟨kd2, x2, A2, B2, E2, D2⟩).ans, rv2, E3⟩, (by dsimp only; omega), hI.next hi hok hI2 hR2, hl.addE (t := 25) (hl.addE (t := 3) (hl.addE (t := 5) (hl.addE (t := 23) (hl.addE (t := 24) (hl.nil) rfl (by first | rfl | rfl)) rfl (by first | rfl | rfl)) rfl (by first | rfl | rfl)) rfl (by first | rfl | rfl)) rfl (by first | rfl | rfl), (by simp only [List.cons_append, List.nil_append, List.append_nil]; exact hh.keep (by repeat (first | exact keeps_nil | apply keeps_cons (by repeat (first | exact find_head | apply find_tail)) (by first  | exact arr_obj (fun i hi => by first | (simp only [hfk, wV, updV, word_setWord]; done) | (simp only [hfk, wV, updV, word_setWord]; (repeat' split) <;> first | rfl | omega | (simp_all; done)) | (simp only [wV]; rw [hfk i hi])) | rfl) | exact keeps_self | apply keeps_mv)))⟩
            · intro hg6; clear hl; intro hl
              try simp only [decide_eq_true_eq, decide_eq_false_iff_not, Bool.not_eq_true', Bool.not_eq_false', Bool.not_eq_true, Bool.not_eq_false, Bool.and_eq_true, Bool.or_eq_true, Bool.and_eq_false_iff, Bool.or_eq_false_iff, Bool.not_not, ne_eq, Int.not_lt, Int.not_le, Decidable.not_not, beq_iff_eq, bne_iff_ne] at hg6
              refine wl (wl_skip hl rfl ⟨_, _, rfl, rfl, rfl⟩ ?_)
              clear hl a; intro a hl
              refine wl (wl_skip hl rfl ⟨_, _, rfl, rfl, rfl⟩ ?_)
              clear hl a; intro a hl
              refine wl (wl_skip hl rfl ⟨_, _, rfl, rfl, rfl⟩ ?_)
              clear hl a; intro a hl
              refine wl (wl_val hl rfl ⟨_, _, rfl, rfl, rfl⟩ (r_pickF hl rfl rfl) ?_)
              clear hl a; intro a hl
              refine wl (wl_val hl rfl trivial (r_pickF hl rfl rfl) ?_)
              clear hl a; intro a hl
              refine w_nil ?_
              have hl2 := hl.add (t := 3) (hl.add (t := 5) (hl.add (t := 8) (hl.add (t := 9) (hl.add (t := 10) (hl.add (t := 23) (hl.add (t := 24) (hl.add (t := 25) (hl.add (t := 55) (hl.nil) rfl) rfl) rfl) rfl) rfl) rfl) rfl) rfl) rfl; clear hl; have hl := hl2; clear hl2
              refine then_normal ?_
              refine c_condF hl rfl ?_
              have hx : 2 ≤ x2 ∧ x2 < 4096 := by omega
              have hwd := hI.inv.words x2 hx.2
              simp only [Fits] at hwd
              refine wp_skip ?_
              refine then_normal ?_
              refine c_seq ?_
              refine c_region ?_
              refine wl (wl_val hl rfl trivial (r_move hl rfl) ?_)
              clear hl a; intro a hl
              refine wl (wl_val hl rfl trivial (r_indexA hl rfl rfl arr58 (by omega) (by omega) (by first | (simp only [Int.reduceToNat]; rfl) | exact toNat_add1 _ | exact toNat_add2 _ _ | exact toNat_emod _ _ | exact Int.toNat_natCast _ | rfl)) ?_)
              clear hl a; intro a hl
              refine wl (w_load hl hh rfl trivial one27 rfl (by repeat (first | exact find_head | apply find_tail)) (by exact arr_load (by omega)) ?_)
              clear hl a; intro a hl
              refine wl (wl_val hl rfl trivial (r_build hl rfl zero44 bld44 (by simp only [fillL, setL, List.getElem?_cons_zero, List.getElem?_cons_succ, Value.cells, List.take_zero, List.take_succ_cons, List.take_nil, List.drop_zero, List.drop_succ_cons, List.drop_nil, List.length_cons, List.length_nil, List.cons_append, List.nil_append, List.append_nil, Nat.zero_add, Nat.add_zero, Nat.reduceAdd, Nat.reduceBEq, Nat.reduceEqDiff, Nat.ble, BEq.rfl, Bool.and_true, Bool.and_self, cond_true, beq_self_eq_true]; rfl)) ?_)
              clear hl a; intro a hl
              refine wl (w_alloc hl hh rfl trivial zero44 rfl ?_)
              clear hl hh a w; intro k11 a w hl hh
              refine wl (w_storeA hl hh trivial agg44 rfl rfl (by repeat (first | exact find_head | apply find_tail)) (by first | rfl | (simp; done)) (by first | (simp; done) | (simp; omega)) (by first | rfl | (simp; done)) (by first | (simp only [setL, List.getElem?_cons_zero, List.getElem?_cons_succ, Value.cells, List.take_zero, List.take_succ_cons, List.take_nil, List.drop_zero, List.drop_succ_cons, List.drop_nil, List.length_cons, List.length_nil, List.cons_append, List.nil_append, List.append_nil, Nat.zero_add, Nat.add_zero, Nat.reduceAdd, Nat.reduceBEq, Nat.reduceEqDiff, Nat.ble, BEq.rfl, Bool.and_true, Bool.and_self, cond_true, beq_self_eq_true]; rfl)) ?_)
              clear hh w; intro w hh
              refine w_nil ?_
              have hl2 := hl.add (t := 3) (hl.add (t := 5) (hl.add (t := 8) (hl.add (t := 9) (hl.add (t := 10) (hl.add (t := 11) (hl.add (t := 23) (hl.add (t := 24) (hl.add (t := 25) (hl.nil) rfl) rfl) rfl) rfl) rfl) rfl) rfl) rfl) rfl; clear hl; have hl := hl2; clear hl2
              refine then_normal ?_
              refine c_seq ?_
              refine c_seq ?_
              refine c_region ?_
              refine wl (wl_val hl rfl trivial (r_field hl rfl fld36_0) ?_)
              clear hl a; intro a hl
              refine wl (w_load hl hh rfl trivial one32 rfl (by repeat (first | exact find_head | apply find_tail)) (by first | rfl) ?_)
              clear hl a; intro a hl
              refine w_nil ?_
              have hl2 := hl.add (t := 3) (hl.add (t := 5) (hl.add (t := 8) (hl.add (t := 9) (hl.add (t := 10) (hl.add (t := 11) (hl.add (t := 23) (hl.add (t := 24) (hl.add (t := 25) (hl.add (t := 64) (hl.nil) rfl) rfl) rfl) rfl) rfl) rfl) rfl) rfl) rfl) rfl; clear hl; have hl := hl2; clear hl2
              refine then_normal ?_
              refine wp_block ?_
              refine c_seq ?_
              refine c_region ?_
              refine wl (wl_val hl rfl trivial (r_eql hl rfl rfl) ?_)
              clear hl a; intro a hl
              refine wl (wl_val hl rfl trivial (r_assign hl rfl) ?_)
              clear hl a; intro a hl
              refine w_nil ?_
              have hl2 := hl.add (t := 3) (hl.add (t := 5) (hl.add (t := 8) (hl.add (t := 9) (hl.add (t := 10) (hl.add (t := 11) (hl.add (t := 23) (hl.add (t := 24) (hl.add (t := 25) (hl.add (t := 64) (hl.add (t := 65) (hl.nil) rfl) rfl) rfl) rfl) rfl) rfl) rfl) rfl) rfl) rfl) rfl; clear hl; have hl := hl2; clear hl2
              refine then_normal ?_
              refine c_cond hl rfl ?_ ?_
              · intro hc5
                try simp only [decide_eq_true_eq, decide_eq_false_iff_not, Bool.not_eq_true', Bool.not_eq_false', Bool.not_eq_true, Bool.not_eq_false, Bool.and_eq_true, Bool.or_eq_true, Bool.and_eq_false_iff, Bool.or_eq_false_iff, Bool.not_not, ne_eq, Int.not_lt, Int.not_le, Decidable.not_not, beq_iff_eq, bne_iff_ne] at hc5
                obtain ⟨ha, hfk⟩ := doF_1 s.f ⟨kd2, x2, A2, B2, E2, D2⟩ (by simp only; omega) hx
                rw [hr] at ha
                try simp only at hfk
                injection ha with e0 e1 e2 e3
                subst e0; subst e1; subst e2; subst e3
                refine c_seq ?_
                refine c_region ?_
                refine wl (wl_val hl rfl trivial (r_field hl rfl fld44_2) ?_)
                clear hl a; intro a hl
                refine wl (w_store hl hh trivial one27 rfl rfl (by repeat (first | exact find_head | apply find_tail)) (by first | (simp; done) | (simp; omega)) (by first | rfl | (apply Row.one; assumption)) (by first | (simp only [setL, List.getElem?_cons_zero, List.getElem?_cons_succ, Value.cells, List.take_zero, List.take_succ_cons, List.take_nil, List.drop_zero, List.drop_succ_cons, List.drop_nil, List.length_cons, List.length_nil, List.cons_append, List.nil_append, List.append_nil, Nat.zero_add, Nat.add_zero, Nat.reduceAdd, Nat.reduceBEq, Nat.reduceEqDiff, Nat.ble, BEq.rfl, Bool.and_true, Bool.and_self, cond_true, beq_self_eq_true]; rfl)) ?_)
                clear hh w; intro w hh
                refine w_nil ?_
                have hl2 := hl.add (t := 3) (hl.add (t := 5) (hl.add (t := 8) (hl.add (t := 9) (hl.add (t := 10) (hl.add (t := 11) (hl.add (t := 23) (hl.add (t := 24) (hl.add (t := 25) (hl.nil) rfl) rfl) rfl) rfl) rfl) rfl) rfl) rfl) rfl; clear hl; have hl := hl2; clear hl2
                refine then_normal ?_
                refine c_region ?_
                refine wl (wl_val hl rfl trivial (r_move hl rfl) ?_)
                clear hl a; intro a hl
                refine wl (wl_val hl rfl trivial (r_field hl rfl fld36_2) ?_)
                clear hl a; intro a hl
                refine wl (w_load hl hh rfl trivial one27 rfl (by repeat (first | exact find_head | apply find_tail)) (by first | rfl) ?_)
                clear hl a; intro a hl
                refine wl (wl_val hl rfl trivial (r_indexA hl rfl rfl arr58 (by omega) (by omega) (by first | (simp only [Int.reduceToNat]; rfl) | exact toNat_add1 _ | exact toNat_add2 _ _ | exact toNat_emod _ _ | exact Int.toNat_natCast _ | rfl)) ?_)
                clear hl a; intro a hl
                refine wl (w_store hl hh trivial one27 rfl rfl (by repeat (first | exact find_head | apply find_tail)) (by rw [arrL_length]; omega) (by first | rfl | (apply Row.one; assumption)) (by exact arr_store (by omega)) ?_)
                clear hh w; intro w hh
                refine w_nil ?_
                have hl2 := hl.add (t := 3) (hl.add (t := 5) (hl.add (t := 9) (hl.add (t := 11) (hl.add (t := 23) (hl.add (t := 24) (hl.add (t := 25) (hl.nil) rfl) rfl) rfl) rfl) rfl) rfl) rfl; clear hl; have hl := hl2; clear hl2
                refine blk_normal ?_
                refine then_normal ?_
                refine c_seq ?_
                refine c_region ?_
                first | refine wl (w_loadA hl hh rfl trivial agg44 rfl (by repeat (first | exact find_head | apply find_tail)) (by first | (simp only [List.getElem?_cons_zero, List.getElem?_cons_succ, Value.cells, List.take_zero, List.take_succ_cons, List.take_nil, List.drop_zero, List.drop_succ_cons, List.drop_nil, List.length_cons, List.length_nil, List.cons_append, List.nil_append, List.append_nil, Nat.zero_add, Nat.add_zero, Nat.reduceAdd, Nat.reduceBEq, Nat.reduceEqDiff, Nat.ble, BEq.rfl, Bool.and_true, Bool.and_self, cond_true, beq_self_eq_true]; rfl)) (by first | rfl | (simp; done)) ?_) | refine wl (w_loadRA hl hh rfl trivial agg44 rfl hm (by simp) hqv rfl ?_)
                clear hl a; intro a hl
                first | refine wl (w_loadA hl hh rfl trivial agg44 rfl (by repeat (first | exact find_head | apply find_tail)) (by first | (simp only [List.getElem?_cons_zero, List.getElem?_cons_succ, Value.cells, List.take_zero, List.take_succ_cons, List.take_nil, List.drop_zero, List.drop_succ_cons, List.drop_nil, List.length_cons, List.length_nil, List.cons_append, List.nil_append, List.append_nil, Nat.zero_add, Nat.add_zero, Nat.reduceAdd, Nat.reduceBEq, Nat.reduceEqDiff, Nat.ble, BEq.rfl, Bool.and_true, Bool.and_self, cond_true, beq_self_eq_true]; rfl)) (by first | rfl | (simp; done)) ?_) | refine wl (w_loadRA hl hh rfl trivial agg44 rfl hm (by simp) hqv rfl ?_)
                clear hl a; intro a hl
                refine wl (wl_val hl rfl trivial (r_neqA hl rfl rfl eqf44 shp44 (by simp only [unlitL, unlit]; rfl) (by simp only [unlitL, unlit]; rfl) (by first | exact ⟨trivial⟩ | (refine ⟨?_⟩; simp [LitsOk, litOk, Fits]; done) | (refine ⟨?_⟩; simp [LitsOk, litOk, Fits]; omega)) (by first | exact ⟨trivial⟩ | (refine ⟨?_⟩; simp [LitsOk, litOk, Fits]; done) | (refine ⟨?_⟩; simp [LitsOk, litOk, Fits]; omega))) ?_)
                clear hl a; intro a hl
                refine w_nil ?_
                have hl2 := hl.add (t := 3) (hl.add (t := 5) (hl.add (t := 23) (hl.add (t := 24) (hl.add (t := 25) (hl.add (t := 132) (hl.nil) rfl) rfl) rfl) rfl) rfl) rfl; clear hl; have hl := hl2; clear hl2
                refine then_normal ?_
                refine c_cond hl rfl ?_ ?_
                · intro hc11
                  try simp only [decide_eq_true_eq, decide_eq_false_iff_not, Bool.not_eq_true', Bool.not_eq_false', Bool.not_eq_true, Bool.not_eq_false, Bool.and_eq_true, Bool.or_eq_true, Bool.and_eq_false_iff, Bool.or_eq_false_iff, Bool.not_not, ne_eq, Int.not_lt, Int.not_le, Decidable.not_not, beq_iff_eq, bne_iff_ne] at hc11
                  exfalso; first | (simp [eqLits, litBeq] at hc11; done) | (simp_all [eqLits, litBeq]; done)
                · intro hc11
                  try simp only [decide_eq_true_eq, decide_eq_false_iff_not, Bool.not_eq_true', Bool.not_eq_false', Bool.not_eq_true, Bool.not_eq_false, Bool.and_eq_true, Bool.or_eq_true, Bool.and_eq_false_iff, Bool.or_eq_false_iff, Bool.not_not, ne_eq, Int.not_lt, Int.not_le, Decidable.not_not, beq_iff_eq, bne_iff_ne] at hc11
                  refine wp_skip ?_
                  refine blk_normal ?_
                  refine then_normal ?_
                  refine c_region ?_
                  first | refine wl (wl_val hl rfl trivial (r_add hl rfl rfl (by simp only [Fits]; omega)) ?_) | refine wl (wl_val hl rfl trivial (r_addW hl rfl rfl) ?_)
                  clear hl a; intro a hl
                  refine wl (wl_val hl rfl trivial (r_move hl rfl) ?_)
                  clear hl a; intro a hl
                  refine w_nil ?_
                  have hl2 := hl.add (t := 3) (hl.add (t := 5) (hl.add (t := 23) (hl.add (t := 24) (hl.add (t := 25) (hl.nil) rfl) rfl) rfl) rfl) rfl; clear hl; have hl := hl2; clear hl2
                  refine then_normal ?_
                  refine ⟨⟨s.i + 1, (doF s.f ⟨kd2, x2, A2, B2, E2, D2⟩).f, fl2, keepF s.rs ⟨kd2, x2, A2, B2, E2, D2⟩ (doF s.f ⟨kd2, x2, A2, B2, E2, D2⟩).ans, rv2, E3⟩, (by dsimp only; omega), hI.next hi hok hI2 hR2, hl.addE (t := 25) (hl.addE (t := 3) (hl.addE (t := 5) (hl.addE (t := 23) (hl.addE (t := 24) (hl.nil) rfl (by first | rfl | rfl)) rfl (by first | rfl | rfl)) rfl (by first | rfl | rfl)) rfl (by first | rfl | rfl)) rfl (by first | rfl | rfl), (by simp only [List.cons_append, List.nil_append, List.append_nil]; exact hh.keep (by repeat (first | exact keeps_nil | apply keeps_cons (by repeat (first | exact find_head | apply find_tail)) (by first  | exact arr_obj (fun i hi => by first | (simp only [hfk, wV, updV, word_setWord]; done) | (simp only [hfk, wV, updV, word_setWord]; (repeat' split) <;> first | rfl | omega | (simp_all; done)) | (simp only [wV]; rw [hfk i hi])) | rfl) | exact keeps_self | apply keeps_mv)))⟩
              · intro hc5
                try simp only [decide_eq_true_eq, decide_eq_false_iff_not, Bool.not_eq_true', Bool.not_eq_false', Bool.not_eq_true, Bool.not_eq_false, Bool.and_eq_true, Bool.or_eq_true, Bool.and_eq_false_iff, Bool.or_eq_false_iff, Bool.not_not, ne_eq, Int.not_lt, Int.not_le, Decidable.not_not, beq_iff_eq, bne_iff_ne] at hc5
                refine c_seq ?_
                refine c_region ?_
                refine wl (wl_val hl rfl trivial (r_eql hl rfl rfl) ?_)
                clear hl a; intro a hl
                refine wl (wl_val hl rfl trivial (r_assign hl rfl) ?_)
                clear hl a; intro a hl
                refine w_nil ?_
                have hl2 := hl.add (t := 3) (hl.add (t := 5) (hl.add (t := 8) (hl.add (t := 9) (hl.add (t := 10) (hl.add (t := 11) (hl.add (t := 23) (hl.add (t := 24) (hl.add (t := 25) (hl.add (t := 64) (hl.add (t := 72) (hl.nil) rfl) rfl) rfl) rfl) rfl) rfl) rfl) rfl) rfl) rfl) rfl; clear hl; have hl := hl2; clear hl2
                refine then_normal ?_
                refine c_cond hl rfl ?_ ?_
                · intro hc6
                  try simp only [decide_eq_true_eq, decide_eq_false_iff_not, Bool.not_eq_true', Bool.not_eq_false', Bool.not_eq_true, Bool.not_eq_false, Bool.and_eq_true, Bool.or_eq_true, Bool.and_eq_false_iff, Bool.or_eq_false_iff, Bool.not_not, ne_eq, Int.not_lt, Int.not_le, Decidable.not_not, beq_iff_eq, bne_iff_ne] at hc6
                  obtain ⟨ha, hfk⟩ := doF_2 s.f ⟨kd2, x2, A2, B2, E2, D2⟩ (by simp only; omega) hx
                  rw [hr] at ha
                  try simp only at hfk
                  injection ha with e0 e1 e2 e3
                  subst e0; subst e1; subst e2; subst e3
                  refine c_seq ?_
                  refine c_draw [(k5, C (arrL 4096 (wV s.f)) 58), (k8, C [.int .u8 kd2, .int .u32 x2, .int .u64 A2, .int .u64 B2, .int .u64 E2, .int .u64 D2] 36)] [5, 6, 7] mixed hh ?_
                  clear hh w; intro w hh
                  have hM : Mem [(k5, C (arrL 4096 (wV s.f)) 58), (k8, C [.int .u8 kd2, .int .u32 x2, .int .u64 A2, .int .u64 B2, .int .u64 E2, .int .u64 D2] 36)] w := (by repeat (first | exact Mem.nil | refine Mem.cons hh.mem (by repeat (first | exact find_head | apply find_tail)) ?_ | refine Mem.consR hh (by assumption) (by simp) ?_))
                  refine d_take (i := 0) hl rfl (by kernel_rfl) (by kernel_rfl) (by kernel_rfl) (by kernel_rfl) (by kernel_rfl) rfl trivial (fun _ _ _ h => h) hM (fun w hC => r_move hl rfl) rfl ?_
                  clear hl a; intro a hl
                  refine d_take (i := 1) hl rfl (by kernel_rfl) (by kernel_rfl) (by kernel_rfl) (by kernel_rfl) (by kernel_rfl) rfl trivial (fun _ _ _ h => h) hM (fun w hC => r_indexA hl rfl rfl arr58 (by omega) (by omega) (by first | (simp only [Int.reduceToNat]; rfl) | exact toNat_add1 _ | exact toNat_add2 _ _ | exact toNat_emod _ _ | exact Int.toNat_natCast _ | rfl)) rfl ?_
                  clear hl a; intro a hl
                  refine d_take (i := 2) hl rfl (by kernel_rfl) (by kernel_rfl) (by kernel_rfl) (by kernel_rfl) (by kernel_rfl) rfl trivial (fun _ _ _ h => h) hM (fun w hC => r_loadC hl rfl one27 hC (by repeat (first | exact find_head | apply find_tail)) (by exact arr_load (by omega))) rfl ?_
                  clear hl a; intro a hl
                  refine d_take (i := 3) hl rfl (by kernel_rfl) (by kernel_rfl) (by kernel_rfl) (by kernel_rfl) (by kernel_rfl) rfl trivial (fun _ _ _ h => h) hM (fun w hC => r_field hl rfl fld36_2) rfl ?_
                  clear hl a; intro a hl
                  refine d_take (i := 4) hl rfl (by kernel_rfl) (by kernel_rfl) (by kernel_rfl) (by kernel_rfl) (by kernel_rfl) rfl trivial (fun _ _ _ h => h) hM (fun w hC => r_loadC hl rfl one27 hC (by repeat (first | exact find_head | apply find_tail)) (by first | rfl)) rfl ?_
                  clear hl a; intro a hl
                  refine d_takeL (i := 5) hl rfl (by kernel_rfl) (by kernel_rfl) (by kernel_rfl) (by kernel_rfl) (by kernel_rfl) rfl trivial (fun _ _ _ h => h) (fun w => r_eql hl rfl rfl) rfl ?_
                  clear hl a; intro a hl
                  refine d_takeL (i := 6) hl rfl (by kernel_rfl) (by kernel_rfl) (by kernel_rfl) (by kernel_rfl) (by kernel_rfl) rfl trivial (fun _ _ _ h => h) (fun w => r_field hl rfl fld44_1) rfl ?_
                  clear hl a; intro a hl
                  refine d_one (i := 7) (by kernel_rfl) rfl ?_
                  try clear hM
                  refine id (w_store hl hh trivial one4 rfl rfl (by repeat (first | exact find_head | apply find_tail)) (by first | (simp; done) | (simp; omega)) (by first | rfl | (apply Row.one; assumption)) (by first | (simp only [setL, List.getElem?_cons_zero, List.getElem?_cons_succ, Value.cells, List.take_zero, List.take_succ_cons, List.take_nil, List.drop_zero, List.drop_succ_cons, List.drop_nil, List.length_cons, List.length_nil, List.cons_append, List.nil_append, List.append_nil, Nat.zero_add, Nat.add_zero, Nat.reduceAdd, Nat.reduceBEq, Nat.reduceEqDiff, Nat.ble, BEq.rfl, Bool.and_true, Bool.and_self, cond_true, beq_self_eq_true]; rfl)) ?_)
                  clear hh w; intro w hh
                  refine d_step (fun h => absurd h (by decide)) ?_
                  refine d_done (by kernel_rfl) ?_
                  try clear hM
                  have hl2 := hl.add (t := 3) (hl.add (t := 5) (hl.add (t := 8) (hl.add (t := 9) (hl.add (t := 10) (hl.add (t := 11) (hl.add (t := 23) (hl.add (t := 24) (hl.add (t := 25) (hl.nil) rfl) rfl) rfl) rfl) rfl) rfl) rfl) rfl) rfl; clear hl; have hl := hl2; clear hl2
                  refine then_normal ?_
                  refine c_seq ?_
                  refine c_region ?_
                  refine wl (wl_val hl rfl trivial (r_field hl rfl fld44_1) ?_)
                  clear hl a; intro a hl
                  refine wl (w_load hl hh rfl trivial one4 rfl (by repeat (first | exact find_head | apply find_tail)) (by first | rfl) ?_)
                  clear hl a; intro a hl
                  refine w_nil ?_
                  have hl2 := hl.add (t := 3) (hl.add (t := 5) (hl.add (t := 8) (hl.add (t := 9) (hl.add (t := 10) (hl.add (t := 11) (hl.add (t := 23) (hl.add (t := 24) (hl.add (t := 25) (hl.add (t := 82) (hl.nil) rfl) rfl) rfl) rfl) rfl) rfl) rfl) rfl) rfl) rfl; clear hl; have hl := hl2; clear hl2
                  refine then_normal ?_
                  refine c_cond hl rfl ?_ ?_
                  · intro hc7
                    try simp only [decide_eq_true_eq, decide_eq_false_iff_not, Bool.not_eq_true', Bool.not_eq_false', Bool.not_eq_true, Bool.not_eq_false, Bool.and_eq_true, Bool.or_eq_true, Bool.and_eq_false_iff, Bool.or_eq_false_iff, Bool.not_not, ne_eq, Int.not_lt, Int.not_le, Decidable.not_not, beq_iff_eq, bne_iff_ne] at hc7
                    rw [if_pos (by assumption)] at hfk
                    refine c_region ?_
                    refine wl (wl_val hl rfl trivial (r_move hl rfl) ?_)
                    clear hl a; intro a hl
                    refine wl (wl_val hl rfl trivial (r_field hl rfl fld36_3) ?_)
                    clear hl a; intro a hl
                    refine wl (w_load hl hh rfl trivial one27 rfl (by repeat (first | exact find_head | apply find_tail)) (by first | rfl) ?_)
                    clear hl a; intro a hl
                    refine wl (wl_val hl rfl trivial (r_indexA hl rfl rfl arr58 (by omega) (by omega) (by first | (simp only [Int.reduceToNat]; rfl) | exact toNat_add1 _ | exact toNat_add2 _ _ | exact toNat_emod _ _ | exact Int.toNat_natCast _ | rfl)) ?_)
                    clear hl a; intro a hl
                    refine wl (w_store hl hh trivial one27 rfl rfl (by repeat (first | exact find_head | apply find_tail)) (by rw [arrL_length]; omega) (by first | rfl | (apply Row.one; assumption)) (by exact arr_store (by omega)) ?_)
                    clear hh w; intro w hh
                    refine w_nil ?_
                    have hl2 := hl.add (t := 3) (hl.add (t := 5) (hl.add (t := 9) (hl.add (t := 11) (hl.add (t := 23) (hl.add (t := 24) (hl.add (t := 25) (hl.nil) rfl) rfl) rfl) rfl) rfl) rfl) rfl; clear hl; have hl := hl2; clear hl2
                    refine blk_normal ?_
                    refine then_normal ?_
                    refine c_seq ?_
                    refine c_region ?_
                    first | refine wl (w_loadA hl hh rfl trivial agg44 rfl (by repeat (first | exact find_head | apply find_tail)) (by first | (simp only [List.getElem?_cons_zero, List.getElem?_cons_succ, Value.cells, List.take_zero, List.take_succ_cons, List.take_nil, List.drop_zero, List.drop_succ_cons, List.drop_nil, List.length_cons, List.length_nil, List.cons_append, List.nil_append, List.append_nil, Nat.zero_add, Nat.add_zero, Nat.reduceAdd, Nat.reduceBEq, Nat.reduceEqDiff, Nat.ble, BEq.rfl, Bool.and_true, Bool.and_self, cond_true, beq_self_eq_true]; rfl)) (by first | rfl | (simp; done)) ?_) | refine wl (w_loadRA hl hh rfl trivial agg44 rfl hm (by simp) hqv rfl ?_)
                    clear hl a; intro a hl
                    first | refine wl (w_loadA hl hh rfl trivial agg44 rfl (by repeat (first | exact find_head | apply find_tail)) (by first | (simp only [List.getElem?_cons_zero, List.getElem?_cons_succ, Value.cells, List.take_zero, List.take_succ_cons, List.take_nil, List.drop_zero, List.drop_succ_cons, List.drop_nil, List.length_cons, List.length_nil, List.cons_append, List.nil_append, List.append_nil, Nat.zero_add, Nat.add_zero, Nat.reduceAdd, Nat.reduceBEq, Nat.reduceEqDiff, Nat.ble, BEq.rfl, Bool.and_true, Bool.and_self, cond_true, beq_self_eq_true]; rfl)) (by first | rfl | (simp; done)) ?_) | refine wl (w_loadRA hl hh rfl trivial agg44 rfl hm (by simp) hqv rfl ?_)
                    clear hl a; intro a hl
                    refine wl (wl_val hl rfl trivial (r_neqA hl rfl rfl eqf44 shp44 (by simp only [unlitL, unlit]; rfl) (by simp only [unlitL, unlit]; rfl) (by first | exact ⟨trivial⟩ | (refine ⟨?_⟩; simp [LitsOk, litOk, Fits]; done) | (refine ⟨?_⟩; simp [LitsOk, litOk, Fits]; omega)) (by first | exact ⟨trivial⟩ | (refine ⟨?_⟩; simp [LitsOk, litOk, Fits]; done) | (refine ⟨?_⟩; simp [LitsOk, litOk, Fits]; omega))) ?_)
                    clear hl a; intro a hl
                    refine w_nil ?_
                    have hl2 := hl.add (t := 3) (hl.add (t := 5) (hl.add (t := 23) (hl.add (t := 24) (hl.add (t := 25) (hl.add (t := 132) (hl.nil) rfl) rfl) rfl) rfl) rfl) rfl; clear hl; have hl := hl2; clear hl2
                    refine then_normal ?_
                    refine c_cond hl rfl ?_ ?_
                    · intro hc11
                      try simp only [decide_eq_true_eq, decide_eq_false_iff_not, Bool.not_eq_true', Bool.not_eq_false', Bool.not_eq_true, Bool.not_eq_false, Bool.and_eq_true, Bool.or_eq_true, Bool.and_eq_false_iff, Bool.or_eq_false_iff, Bool.not_not, ne_eq, Int.not_lt, Int.not_le, Decidable.not_not, beq_iff_eq, bne_iff_ne] at hc11
                      exfalso; first | (simp [eqLits, litBeq] at hc11; done) | (simp_all [eqLits, litBeq]; done)
                    · intro hc11
                      try simp only [decide_eq_true_eq, decide_eq_false_iff_not, Bool.not_eq_true', Bool.not_eq_false', Bool.not_eq_true, Bool.not_eq_false, Bool.and_eq_true, Bool.or_eq_true, Bool.and_eq_false_iff, Bool.or_eq_false_iff, Bool.not_not, ne_eq, Int.not_lt, Int.not_le, Decidable.not_not, beq_iff_eq, bne_iff_ne] at hc11
                      refine wp_skip ?_
                      refine blk_normal ?_
                      refine then_normal ?_
                      refine c_region ?_
                      first | refine wl (wl_val hl rfl trivial (r_add hl rfl rfl (by simp only [Fits]; omega)) ?_) | refine wl (wl_val hl rfl trivial (r_addW hl rfl rfl) ?_)
                      clear hl a; intro a hl
                      refine wl (wl_val hl rfl trivial (r_move hl rfl) ?_)
                      clear hl a; intro a hl
                      refine w_nil ?_
                      have hl2 := hl.add (t := 3) (hl.add (t := 5) (hl.add (t := 23) (hl.add (t := 24) (hl.add (t := 25) (hl.nil) rfl) rfl) rfl) rfl) rfl; clear hl; have hl := hl2; clear hl2
                      refine then_normal ?_
                      refine ⟨⟨s.i + 1, (doF s.f ⟨kd2, x2, A2, B2, E2, D2⟩).f, fl2, keepF s.rs ⟨kd2, x2, A2, B2, E2, D2⟩ (doF s.f ⟨kd2, x2, A2, B2, E2, D2⟩).ans, rv2, E3⟩, (by dsimp only; omega), hI.next hi hok hI2 hR2, hl.addE (t := 25) (hl.addE (t := 3) (hl.addE (t := 5) (hl.addE (t := 23) (hl.addE (t := 24) (hl.nil) rfl (by first | rfl | rfl)) rfl (by first | rfl | rfl)) rfl (by first | rfl | rfl)) rfl (by first | rfl | rfl)) rfl (by first | rfl | rfl), (by simp only [List.cons_append, List.nil_append, List.append_nil]; exact hh.keep (by repeat (first | exact keeps_nil | apply keeps_cons (by repeat (first | exact find_head | apply find_tail)) (by first  | exact arr_obj (fun i hi => by first | (simp only [hfk, wV, updV, word_setWord]; done) | (simp only [hfk, wV, updV, word_setWord]; (repeat' split) <;> first | rfl | omega | (simp_all; done)) | (simp only [wV]; rw [hfk i hi])) | rfl) | exact keeps_self | apply keeps_mv)))⟩
                  · intro hc7
                    try simp only [decide_eq_true_eq, decide_eq_false_iff_not, Bool.not_eq_true', Bool.not_eq_false', Bool.not_eq_true, Bool.not_eq_false, Bool.and_eq_true, Bool.or_eq_true, Bool.and_eq_false_iff, Bool.or_eq_false_iff, Bool.not_not, ne_eq, Int.not_lt, Int.not_le, Decidable.not_not, beq_iff_eq, bne_iff_ne] at hc7
                    rw [if_neg (by assumption)] at hfk
                    refine wp_skip ?_
                    refine blk_normal ?_
                    refine then_normal ?_
                    refine c_seq ?_
                    refine c_region ?_
                    first | refine wl (w_loadA hl hh rfl trivial agg44 rfl (by repeat (first | exact find_head | apply find_tail)) (by first | (simp only [List.getElem?_cons_zero, List.getElem?_cons_succ, Value.cells, List.take_zero, List.take_succ_cons, List.take_nil, List.drop_zero, List.drop_succ_cons, List.drop_nil, List.length_cons, List.length_nil, List.cons_append, List.nil_append, List.append_nil, Nat.zero_add, Nat.add_zero, Nat.reduceAdd, Nat.reduceBEq, Nat.reduceEqDiff, Nat.ble, BEq.rfl, Bool.and_true, Bool.and_self, cond_true, beq_self_eq_true]; rfl)) (by first | rfl | (simp; done)) ?_) | refine wl (w_loadRA hl hh rfl trivial agg44 rfl hm (by simp) hqv rfl ?_)
                    clear hl a; intro a hl
                    first | refine wl (w_loadA hl hh rfl trivial agg44 rfl (by repeat (first | exact find_head | apply find_tail)) (by first | (simp only [List.getElem?_cons_zero, List.getElem?_cons_succ, Value.cells, List.take_zero, List.take_succ_cons, List.take_nil, List.drop_zero, List.drop_succ_cons, List.drop_nil, List.length_cons, List.length_nil, List.cons_append, List.nil_append, List.append_nil, Nat.zero_add, Nat.add_zero, Nat.reduceAdd, Nat.reduceBEq, Nat.reduceEqDiff, Nat.ble, BEq.rfl, Bool.and_true, Bool.and_self, cond_true, beq_self_eq_true]; rfl)) (by first | rfl | (simp; done)) ?_) | refine wl (w_loadRA hl hh rfl trivial agg44 rfl hm (by simp) hqv rfl ?_)
                    clear hl a; intro a hl
                    refine wl (wl_val hl rfl trivial (r_neqA hl rfl rfl eqf44 shp44 (by simp only [unlitL, unlit]; rfl) (by simp only [unlitL, unlit]; rfl) (by first | exact ⟨trivial⟩ | (refine ⟨?_⟩; simp [LitsOk, litOk, Fits]; done) | (refine ⟨?_⟩; simp [LitsOk, litOk, Fits]; omega)) (by first | exact ⟨trivial⟩ | (refine ⟨?_⟩; simp [LitsOk, litOk, Fits]; done) | (refine ⟨?_⟩; simp [LitsOk, litOk, Fits]; omega))) ?_)
                    clear hl a; intro a hl
                    refine w_nil ?_
                    have hl2 := hl.add (t := 3) (hl.add (t := 5) (hl.add (t := 23) (hl.add (t := 24) (hl.add (t := 25) (hl.add (t := 132) (hl.nil) rfl) rfl) rfl) rfl) rfl) rfl; clear hl; have hl := hl2; clear hl2
                    refine then_normal ?_
                    refine c_cond hl rfl ?_ ?_
                    · intro hc11
                      try simp only [decide_eq_true_eq, decide_eq_false_iff_not, Bool.not_eq_true', Bool.not_eq_false', Bool.not_eq_true, Bool.not_eq_false, Bool.and_eq_true, Bool.or_eq_true, Bool.and_eq_false_iff, Bool.or_eq_false_iff, Bool.not_not, ne_eq, Int.not_lt, Int.not_le, Decidable.not_not, beq_iff_eq, bne_iff_ne] at hc11
                      exfalso; first | (simp [eqLits, litBeq] at hc11; done) | (simp_all [eqLits, litBeq]; done)
                    · intro hc11
                      try simp only [decide_eq_true_eq, decide_eq_false_iff_not, Bool.not_eq_true', Bool.not_eq_false', Bool.not_eq_true, Bool.not_eq_false, Bool.and_eq_true, Bool.or_eq_true, Bool.and_eq_false_iff, Bool.or_eq_false_iff, Bool.not_not, ne_eq, Int.not_lt, Int.not_le, Decidable.not_not, beq_iff_eq, bne_iff_ne] at hc11
                      refine wp_skip ?_
                      refine blk_normal ?_
                      refine then_normal ?_
                      refine c_region ?_
                      first | refine wl (wl_val hl rfl trivial (r_add hl rfl rfl (by simp only [Fits]; omega)) ?_) | refine wl (wl_val hl rfl trivial (r_addW hl rfl rfl) ?_)
                      clear hl a; intro a hl
                      refine wl (wl_val hl rfl trivial (r_move hl rfl) ?_)
                      clear hl a; intro a hl
                      refine w_nil ?_
                      have hl2 := hl.add (t := 3) (hl.add (t := 5) (hl.add (t := 23) (hl.add (t := 24) (hl.add (t := 25) (hl.nil) rfl) rfl) rfl) rfl) rfl; clear hl; have hl := hl2; clear hl2
                      refine then_normal ?_
                      refine ⟨⟨s.i + 1, (doF s.f ⟨kd2, x2, A2, B2, E2, D2⟩).f, fl2, keepF s.rs ⟨kd2, x2, A2, B2, E2, D2⟩ (doF s.f ⟨kd2, x2, A2, B2, E2, D2⟩).ans, rv2, E3⟩, (by dsimp only; omega), hI.next hi hok hI2 hR2, hl.addE (t := 25) (hl.addE (t := 3) (hl.addE (t := 5) (hl.addE (t := 23) (hl.addE (t := 24) (hl.nil) rfl (by first | rfl | rfl)) rfl (by first | rfl | rfl)) rfl (by first | rfl | rfl)) rfl (by first | rfl | rfl)) rfl (by first | rfl | rfl), (by simp only [List.cons_append, List.nil_append, List.append_nil]; exact hh.keep (by repeat (first | exact keeps_nil | apply keeps_cons (by repeat (first | exact find_head | apply find_tail)) (by first  | exact arr_obj (fun i hi => by first | (simp only [hfk, wV, updV, word_setWord]; done) | (simp only [hfk, wV, updV, word_setWord]; (repeat' split) <;> first | rfl | omega | (simp_all; done)) | (simp only [wV]; rw [hfk i hi])) | rfl) | exact keeps_self | apply keeps_mv)))⟩
                · intro hc6
                  try simp only [decide_eq_true_eq, decide_eq_false_iff_not, Bool.not_eq_true', Bool.not_eq_false', Bool.not_eq_true, Bool.not_eq_false, Bool.and_eq_true, Bool.or_eq_true, Bool.and_eq_false_iff, Bool.or_eq_false_iff, Bool.not_not, ne_eq, Int.not_lt, Int.not_le, Decidable.not_not, beq_iff_eq, bne_iff_ne] at hc6
                  refine c_seq ?_
                  refine c_region ?_
                  refine wl (wl_val hl rfl trivial (r_eql hl rfl rfl) ?_)
                  clear hl a; intro a hl
                  refine wl (wl_val hl rfl trivial (r_assign hl rfl) ?_)
                  clear hl a; intro a hl
                  refine w_nil ?_
                  have hl2 := hl.add (t := 3) (hl.add (t := 5) (hl.add (t := 8) (hl.add (t := 9) (hl.add (t := 10) (hl.add (t := 11) (hl.add (t := 23) (hl.add (t := 24) (hl.add (t := 25) (hl.add (t := 64) (hl.add (t := 87) (hl.nil) rfl) rfl) rfl) rfl) rfl) rfl) rfl) rfl) rfl) rfl) rfl; clear hl; have hl := hl2; clear hl2
                  refine then_normal ?_
                  refine c_cond hl rfl ?_ ?_
                  · intro hc8
                    try simp only [decide_eq_true_eq, decide_eq_false_iff_not, Bool.not_eq_true', Bool.not_eq_false', Bool.not_eq_true, Bool.not_eq_false, Bool.and_eq_true, Bool.or_eq_true, Bool.and_eq_false_iff, Bool.or_eq_false_iff, Bool.not_not, ne_eq, Int.not_lt, Int.not_le, Decidable.not_not, beq_iff_eq, bne_iff_ne] at hc8
                    obtain ⟨ha, hfk⟩ := doF_3 s.f ⟨kd2, x2, A2, B2, E2, D2⟩ (by simp only; omega) hx
                    rw [hr] at ha
                    try simp only at hfk
                    injection ha with e0 e1 e2 e3
                    subst e0; subst e1; subst e2; subst e3
                    refine c_draw [(k5, C (arrL 4096 (wV s.f)) 58), (k8, C [.int .u8 kd2, .int .u32 x2, .int .u64 A2, .int .u64 B2, .int .u64 E2, .int .u64 D2] 36)] [5, 6, 7] mixed hh ?_
                    clear hh w; intro w hh
                    have hM : Mem [(k5, C (arrL 4096 (wV s.f)) 58), (k8, C [.int .u8 kd2, .int .u32 x2, .int .u64 A2, .int .u64 B2, .int .u64 E2, .int .u64 D2] 36)] w := (by repeat (first | exact Mem.nil | refine Mem.cons hh.mem (by repeat (first | exact find_head | apply find_tail)) ?_ | refine Mem.consR hh (by assumption) (by simp) ?_))
                    refine d_take (i := 0) hl rfl (by kernel_rfl) (by kernel_rfl) (by kernel_rfl) (by kernel_rfl) (by kernel_rfl) rfl trivial (fun _ _ _ h => h) hM (fun w hC => r_move hl rfl) rfl ?_
                    clear hl a; intro a hl
                    refine d_take (i := 1) hl rfl (by kernel_rfl) (by kernel_rfl) (by kernel_rfl) (by kernel_rfl) (by kernel_rfl) rfl trivial (fun _ _ _ h => h) hM (fun w hC => r_indexA hl rfl rfl arr58 (by omega) (by omega) (by first | (simp only [Int.reduceToNat]; rfl) | exact toNat_add1 _ | exact toNat_add2 _ _ | exact toNat_emod _ _ | exact Int.toNat_natCast _ | rfl)) rfl ?_
                    clear hl a; intro a hl
                    refine d_take (i := 2) hl rfl (by kernel_rfl) (by kernel_rfl) (by kernel_rfl) (by kernel_rfl) (by kernel_rfl) rfl trivial (fun _ _ _ h => h) hM (fun w hC => r_loadC hl rfl one27 hC (by repeat (first | exact find_head | apply find_tail)) (by exact arr_load (by omega))) rfl ?_
                    clear hl a; intro a hl
                    refine d_take (i := 3) hl rfl (by kernel_rfl) (by kernel_rfl) (by kernel_rfl) (by kernel_rfl) (by kernel_rfl) rfl trivial (fun _ _ _ h => h) hM (fun w hC => r_field hl rfl fld36_2) rfl ?_
                    clear hl a; intro a hl
                    refine d_take (i := 4) hl rfl (by kernel_rfl) (by kernel_rfl) (by kernel_rfl) (by kernel_rfl) (by kernel_rfl) rfl trivial (fun _ _ _ h => h) hM (fun w hC => r_loadC hl rfl one27 hC (by repeat (first | exact find_head | apply find_tail)) (by first | rfl)) rfl ?_
                    clear hl a; intro a hl
                    first | refine d_takeL (i := 5) hl rfl (by kernel_rfl) (by kernel_rfl) (by kernel_rfl) (by kernel_rfl) (by kernel_rfl) rfl trivial (fun _ _ _ h => h) (fun w => r_add hl rfl rfl (by simp only [Fits]; omega)) rfl ?_ | refine d_takeL (i := 5) hl rfl (by kernel_rfl) (by kernel_rfl) (by kernel_rfl) (by kernel_rfl) (by kernel_rfl) rfl trivial (fun _ _ _ h => h) (fun w => r_addW hl rfl rfl) rfl ?_
                    clear hl a; intro a hl
                    refine d_takeL (i := 6) hl rfl (by kernel_rfl) (by kernel_rfl) (by kernel_rfl) (by kernel_rfl) (by kernel_rfl) rfl trivial (fun _ _ _ h => h) (fun w => r_indexA hl rfl rfl arr58 (by omega) (by omega) (by first | (simp only [Int.reduceToNat]; rfl) | exact toNat_add1 _ | exact toNat_add2 _ _ | exact toNat_emod _ _ | exact Int.toNat_natCast _ | rfl)) rfl ?_
                    clear hl a; intro a hl
                    refine d_one (i := 7) (by kernel_rfl) rfl ?_
                    try clear hM
                    refine id (w_store hl hh trivial one27 rfl rfl (by repeat (first | exact find_head | apply find_tail)) (by rw [arrL_length]; omega) (by first | rfl | (apply Row.one; assumption)) (by exact arr_store (by omega)) ?_)
                    clear hh w; intro w hh
                    refine d_step (fun h => absurd h (by decide)) ?_
                    refine d_done (by kernel_rfl) ?_
                    try clear hM
                    have hl2 := hl.add (t := 3) (hl.add (t := 5) (hl.add (t := 9) (hl.add (t := 11) (hl.add (t := 23) (hl.add (t := 24) (hl.add (t := 25) (hl.nil) rfl) rfl) rfl) rfl) rfl) rfl) rfl; clear hl; have hl := hl2; clear hl2
                    refine blk_normal ?_
                    refine then_normal ?_
                    refine c_seq ?_
                    refine c_region ?_
                    first | refine wl (w_loadA hl hh rfl trivial agg44 rfl (by repeat (first | exact find_head | apply find_tail)) (by first | (simp only [List.getElem?_cons_zero, List.getElem?_cons_succ, Value.cells, List.take_zero, List.take_succ_cons, List.take_nil, List.drop_zero, List.drop_succ_cons, List.drop_nil, List.length_cons, List.length_nil, List.cons_append, List.nil_append, List.append_nil, Nat.zero_add, Nat.add_zero, Nat.reduceAdd, Nat.reduceBEq, Nat.reduceEqDiff, Nat.ble, BEq.rfl, Bool.and_true, Bool.and_self, cond_true, beq_self_eq_true]; rfl)) (by first | rfl | (simp; done)) ?_) | refine wl (w_loadRA hl hh rfl trivial agg44 rfl hm (by simp) hqv rfl ?_)
                    clear hl a; intro a hl
                    first | refine wl (w_loadA hl hh rfl trivial agg44 rfl (by repeat (first | exact find_head | apply find_tail)) (by first | (simp only [List.getElem?_cons_zero, List.getElem?_cons_succ, Value.cells, List.take_zero, List.take_succ_cons, List.take_nil, List.drop_zero, List.drop_succ_cons, List.drop_nil, List.length_cons, List.length_nil, List.cons_append, List.nil_append, List.append_nil, Nat.zero_add, Nat.add_zero, Nat.reduceAdd, Nat.reduceBEq, Nat.reduceEqDiff, Nat.ble, BEq.rfl, Bool.and_true, Bool.and_self, cond_true, beq_self_eq_true]; rfl)) (by first | rfl | (simp; done)) ?_) | refine wl (w_loadRA hl hh rfl trivial agg44 rfl hm (by simp) hqv rfl ?_)
                    clear hl a; intro a hl
                    refine wl (wl_val hl rfl trivial (r_neqA hl rfl rfl eqf44 shp44 (by simp only [unlitL, unlit]; rfl) (by simp only [unlitL, unlit]; rfl) (by first | exact ⟨trivial⟩ | (refine ⟨?_⟩; simp [LitsOk, litOk, Fits]; done) | (refine ⟨?_⟩; simp [LitsOk, litOk, Fits]; omega)) (by first | exact ⟨trivial⟩ | (refine ⟨?_⟩; simp [LitsOk, litOk, Fits]; done) | (refine ⟨?_⟩; simp [LitsOk, litOk, Fits]; omega))) ?_)
                    clear hl a; intro a hl
                    refine w_nil ?_
                    have hl2 := hl.add (t := 3) (hl.add (t := 5) (hl.add (t := 23) (hl.add (t := 24) (hl.add (t := 25) (hl.add (t := 132) (hl.nil) rfl) rfl) rfl) rfl) rfl) rfl; clear hl; have hl := hl2; clear hl2
                    refine then_normal ?_
                    refine c_cond hl rfl ?_ ?_
                    · intro hc11
                      try simp only [decide_eq_true_eq, decide_eq_false_iff_not, Bool.not_eq_true', Bool.not_eq_false', Bool.not_eq_true, Bool.not_eq_false, Bool.and_eq_true, Bool.or_eq_true, Bool.and_eq_false_iff, Bool.or_eq_false_iff, Bool.not_not, ne_eq, Int.not_lt, Int.not_le, Decidable.not_not, beq_iff_eq, bne_iff_ne] at hc11
                      exfalso; first | (simp [eqLits, litBeq] at hc11; done) | (simp_all [eqLits, litBeq]; done)
                    · intro hc11
                      try simp only [decide_eq_true_eq, decide_eq_false_iff_not, Bool.not_eq_true', Bool.not_eq_false', Bool.not_eq_true, Bool.not_eq_false, Bool.and_eq_true, Bool.or_eq_true, Bool.and_eq_false_iff, Bool.or_eq_false_iff, Bool.not_not, ne_eq, Int.not_lt, Int.not_le, Decidable.not_not, beq_iff_eq, bne_iff_ne] at hc11
                      refine wp_skip ?_
                      refine blk_normal ?_
                      refine then_normal ?_
                      refine c_region ?_
                      first | refine wl (wl_val hl rfl trivial (r_add hl rfl rfl (by simp only [Fits]; omega)) ?_) | refine wl (wl_val hl rfl trivial (r_addW hl rfl rfl) ?_)
                      clear hl a; intro a hl
                      refine wl (wl_val hl rfl trivial (r_move hl rfl) ?_)
                      clear hl a; intro a hl
                      refine w_nil ?_
                      have hl2 := hl.add (t := 3) (hl.add (t := 5) (hl.add (t := 23) (hl.add (t := 24) (hl.add (t := 25) (hl.nil) rfl) rfl) rfl) rfl) rfl; clear hl; have hl := hl2; clear hl2
                      refine then_normal ?_
                      refine ⟨⟨s.i + 1, (doF s.f ⟨kd2, x2, A2, B2, E2, D2⟩).f, fl2, keepF s.rs ⟨kd2, x2, A2, B2, E2, D2⟩ (doF s.f ⟨kd2, x2, A2, B2, E2, D2⟩).ans, rv2, E3⟩, (by dsimp only; omega), hI.next hi hok hI2 hR2, hl.addE (t := 25) (hl.addE (t := 3) (hl.addE (t := 5) (hl.addE (t := 23) (hl.addE (t := 24) (hl.nil) rfl (by first | rfl | rfl)) rfl (by first | rfl | rfl)) rfl (by first | rfl | rfl)) rfl (by first | rfl | rfl)) rfl (by first | rfl | rfl), (by simp only [List.cons_append, List.nil_append, List.append_nil]; exact hh.keep (by repeat (first | exact keeps_nil | apply keeps_cons (by repeat (first | exact find_head | apply find_tail)) (by first  | exact arr_obj (fun i hi => by first | (simp only [hfk, wV, updV, word_setWord]; done) | (simp only [hfk, wV, updV, word_setWord]; (repeat' split) <;> first | rfl | omega | (simp_all; done)) | (simp only [wV]; rw [hfk i hi])) | rfl) | exact keeps_self | apply keeps_mv)))⟩
                  · intro hc8
                    try simp only [decide_eq_true_eq, decide_eq_false_iff_not, Bool.not_eq_true', Bool.not_eq_false', Bool.not_eq_true, Bool.not_eq_false, Bool.and_eq_true, Bool.or_eq_true, Bool.and_eq_false_iff, Bool.or_eq_false_iff, Bool.not_not, ne_eq, Int.not_lt, Int.not_le, Decidable.not_not, beq_iff_eq, bne_iff_ne] at hc8
                    refine c_seq ?_
                    refine c_region ?_
                    refine wl (wl_val hl rfl trivial (r_eql hl rfl rfl) ?_)
                    clear hl a; intro a hl
                    refine wl (wl_val hl rfl trivial (r_assign hl rfl) ?_)
                    clear hl a; intro a hl
                    refine w_nil ?_
                    have hl2 := hl.add (t := 3) (hl.add (t := 5) (hl.add (t := 8) (hl.add (t := 9) (hl.add (t := 10) (hl.add (t := 11) (hl.add (t := 23) (hl.add (t := 24) (hl.add (t := 25) (hl.add (t := 96) (hl.nil) rfl) rfl) rfl) rfl) rfl) rfl) rfl) rfl) rfl) rfl; clear hl; have hl := hl2; clear hl2
                    refine then_normal ?_
                    refine c_cond hl rfl ?_ ?_
                    · intro hc9
                      try simp only [decide_eq_true_eq, decide_eq_false_iff_not, Bool.not_eq_true', Bool.not_eq_false', Bool.not_eq_true, Bool.not_eq_false, Bool.and_eq_true, Bool.or_eq_true, Bool.and_eq_false_iff, Bool.or_eq_false_iff, Bool.not_not, ne_eq, Int.not_lt, Int.not_le, Decidable.not_not, beq_iff_eq, bne_iff_ne] at hc9
                      obtain ⟨ha, hfk⟩ := doF_4 s.f ⟨kd2, x2, A2, B2, E2, D2⟩ (by simp only; omega) hx (by simp only; omega)
                      rw [hr] at ha
                      try simp only at hfk
                      injection ha with e0 e1 e2 e3
                      subst e0; subst e1; subst e2; subst e3
                      have hwd1 := hI.inv.words (x2 + 1) (by omega)
                      simp only [Fits] at hwd1
                      refine c_seq ?_
                      refine c_region ?_
                      refine wl (wl_val hl rfl trivial (r_move hl rfl) ?_)
                      clear hl a; intro a hl
                      first | refine wl (wl_val hl rfl trivial (r_add hl rfl rfl (by simp only [Fits]; omega)) ?_) | refine wl (wl_val hl rfl trivial (r_addW hl rfl rfl) ?_)
                      clear hl a; intro a hl
                      refine wl (wl_val hl rfl trivial (r_indexA hl rfl rfl arr58 (by omega) (by omega) (by first | (simp only [Int.reduceToNat]; rfl) | exact toNat_add1 _ | exact toNat_add2 _ _ | exact toNat_emod _ _ | exact Int.toNat_natCast _ | rfl)) ?_)
                      clear hl a; intro a hl
                      refine wl (w_load hl hh rfl trivial one27 rfl (by repeat (first | exact find_head | apply find_tail)) (by exact arr_load (by omega)) ?_)
                      clear hl a; intro a hl
                      refine wl (wl_val hl rfl trivial (r_field hl rfl fld44_3) ?_)
                      clear hl a; intro a hl
                      refine wl (w_store hl hh trivial one27 rfl rfl (by repeat (first | exact find_head | apply find_tail)) (by first | (simp; done) | (simp; omega)) (by first | rfl | (apply Row.one; assumption)) (by first | (simp only [setL, List.getElem?_cons_zero, List.getElem?_cons_succ, Value.cells, List.take_zero, List.take_succ_cons, List.take_nil, List.drop_zero, List.drop_succ_cons, List.drop_nil, List.length_cons, List.length_nil, List.cons_append, List.nil_append, List.append_nil, Nat.zero_add, Nat.add_zero, Nat.reduceAdd, Nat.reduceBEq, Nat.reduceEqDiff, Nat.ble, BEq.rfl, Bool.and_true, Bool.and_self, cond_true, beq_self_eq_true]; rfl)) ?_)
                      clear hh w; intro w hh
                      refine w_nil ?_
                      have hl2 := hl.add (t := 3) (hl.add (t := 5) (hl.add (t := 8) (hl.add (t := 9) (hl.add (t := 10) (hl.add (t := 11) (hl.add (t := 23) (hl.add (t := 24) (hl.add (t := 25) (hl.nil) rfl) rfl) rfl) rfl) rfl) rfl) rfl) rfl) rfl; clear hl; have hl := hl2; clear hl2
                      refine then_normal ?_
                      refine c_seq ?_
                      refine c_draw [(k5, C (arrL 4096 (wV s.f)) 58), (k8, C [.int .u8 kd2, .int .u32 x2, .int .u64 A2, .int .u64 B2, .int .u64 E2, .int .u64 D2] 36)] [13, 14, 15, 16] mixed hh ?_
                      clear hh w; intro w hh
                      have hM : Mem [(k5, C (arrL 4096 (wV s.f)) 58), (k8, C [.int .u8 kd2, .int .u32 x2, .int .u64 A2, .int .u64 B2, .int .u64 E2, .int .u64 D2] 36)] w := (by repeat (first | exact Mem.nil | refine Mem.cons hh.mem (by repeat (first | exact find_head | apply find_tail)) ?_ | refine Mem.consR hh (by assumption) (by simp) ?_))
                      refine d_take (i := 0) hl rfl (by kernel_rfl) (by kernel_rfl) (by kernel_rfl) (by kernel_rfl) (by kernel_rfl) rfl trivial (fun _ _ _ h => h) hM (fun w hC => r_move hl rfl) rfl ?_
                      clear hl a; intro a hl
                      refine d_take (i := 1) hl rfl (by kernel_rfl) (by kernel_rfl) (by kernel_rfl) (by kernel_rfl) (by kernel_rfl) rfl trivial (fun _ _ _ h => h) hM (fun w hC => r_indexA hl rfl rfl arr58 (by omega) (by omega) (by first | (simp only [Int.reduceToNat]; rfl) | exact toNat_add1 _ | exact toNat_add2 _ _ | exact toNat_emod _ _ | exact Int.toNat_natCast _ | rfl)) rfl ?_
                      clear hl a; intro a hl
                      refine d_take (i := 2) hl rfl (by kernel_rfl) (by kernel_rfl) (by kernel_rfl) (by kernel_rfl) (by kernel_rfl) rfl trivial (fun _ _ _ h => h) hM (fun w hC => r_loadC hl rfl one27 hC (by repeat (first | exact find_head | apply find_tail)) (by exact arr_load (by omega))) rfl ?_
                      clear hl a; intro a hl
                      refine d_take (i := 3) hl rfl (by kernel_rfl) (by kernel_rfl) (by kernel_rfl) (by kernel_rfl) (by kernel_rfl) rfl trivial (fun _ _ _ h => h) hM (fun w hC => r_field hl rfl fld36_2) rfl ?_
                      clear hl a; intro a hl
                      refine d_take (i := 4) hl rfl (by kernel_rfl) (by kernel_rfl) (by kernel_rfl) (by kernel_rfl) (by kernel_rfl) rfl trivial (fun _ _ _ h => h) hM (fun w hC => r_loadC hl rfl one27 hC (by repeat (first | exact find_head | apply find_tail)) (by first | rfl)) rfl ?_
                      clear hl a; intro a hl
                      refine d_take (i := 5) hl rfl (by kernel_rfl) (by kernel_rfl) (by kernel_rfl) (by kernel_rfl) (by kernel_rfl) rfl trivial (fun _ _ _ h => h) hM (fun w hC => r_eql hl rfl rfl) rfl ?_
                      clear hl a; intro a hl
                      refine d_take (i := 6) hl rfl (by kernel_rfl) (by kernel_rfl) (by kernel_rfl) (by kernel_rfl) (by kernel_rfl) rfl trivial (fun _ _ _ h => h) hM (fun w hC => r_move hl rfl) rfl ?_
                      clear hl a; intro a hl
                      refine sl_split (t := 109) hl rfl ?_ ?_
                      · intro hg8; clear hl; intro hl
                        try simp only [decide_eq_true_eq, decide_eq_false_iff_not, Bool.not_eq_true', Bool.not_eq_false', Bool.not_eq_true, Bool.not_eq_false, Bool.and_eq_true, Bool.or_eq_true, Bool.and_eq_false_iff, Bool.or_eq_false_iff, Bool.not_not, ne_eq, Int.not_lt, Int.not_le, Decidable.not_not, beq_iff_eq, bne_iff_ne] at hg8
                        refine d_take (i := 7) hl rfl (by kernel_rfl) (by kernel_rfl) (by kernel_rfl) (by kernel_rfl) (by kernel_rfl) rfl ⟨_, _, rfl, rfl, rfl⟩ (fun _ _ _ h => h) hM (fun w hC => r_move hl rfl) rfl ?_
                        clear hl a; intro a hl
                        first | refine d_take (i := 8) hl rfl (by kernel_rfl) (by kernel_rfl) (by kernel_rfl) (by kernel_rfl) (by kernel_rfl) rfl ⟨_, _, rfl, rfl, rfl⟩ (fun _ _ _ h => h) hM (fun w hC => r_add hl rfl rfl (by simp only [Fits]; omega)) rfl ?_ | refine d_take (i := 8) hl rfl (by kernel_rfl) (by kernel_rfl) (by kernel_rfl) (by kernel_rfl) (by kernel_rfl) rfl ⟨_, _, rfl, rfl, rfl⟩ (fun _ _ _ h => h) hM (fun w hC => r_addW hl rfl rfl) rfl ?_
                        clear hl a; intro a hl
                        refine d_take (i := 9) hl rfl (by kernel_rfl) (by kernel_rfl) (by kernel_rfl) (by kernel_rfl) (by kernel_rfl) rfl ⟨_, _, rfl, rfl, rfl⟩ (fun _ _ _ h => h) hM (fun w hC => r_indexA hl rfl rfl arr58 (by omega) (by omega) (by first | (simp only [Int.reduceToNat]; rfl) | exact toNat_add1 _ | exact toNat_add2 _ _ | exact toNat_emod _ _ | exact Int.toNat_natCast _ | rfl)) rfl ?_
                        clear hl a; intro a hl
                        refine d_take (i := 10) hl rfl (by kernel_rfl) (by kernel_rfl) (by kernel_rfl) (by kernel_rfl) (by kernel_rfl) rfl ⟨_, _, rfl, rfl, rfl⟩ (fun _ _ _ h => h) hM (fun w hC => r_loadC hl rfl one27 hC (by repeat (first | exact find_head | apply find_tail)) (by exact arr_load (by omega))) rfl ?_
                        clear hl a; intro a hl
                        refine d_take (i := 11) hl rfl (by kernel_rfl) (by kernel_rfl) (by kernel_rfl) (by kernel_rfl) (by kernel_rfl) rfl ⟨_, _, rfl, rfl, rfl⟩ (fun _ _ _ h => h) hM (fun w hC => r_field hl rfl fld36_3) rfl ?_
                        clear hl a; intro a hl
                        refine d_take (i := 12) hl rfl (by kernel_rfl) (by kernel_rfl) (by kernel_rfl) (by kernel_rfl) (by kernel_rfl) rfl ⟨_, _, rfl, rfl, rfl⟩ (fun _ _ _ h => h) hM (fun w hC => r_loadC hl rfl one27 hC (by repeat (first | exact find_head | apply find_tail)) (by first | rfl)) rfl ?_
                        clear hl a; intro a hl
                        refine d_takeL (i := 13) hl rfl (by kernel_rfl) (by kernel_rfl) (by kernel_rfl) (by kernel_rfl) (by kernel_rfl) rfl ⟨_, _, rfl, rfl, rfl⟩ (fun _ _ _ h => h) (fun w => r_eql hl rfl rfl) rfl ?_
                        clear hl a; intro a hl
                        refine d_takeL (i := 14) hl rfl (by kernel_rfl) (by kernel_rfl) (by kernel_rfl) (by kernel_rfl) (by kernel_rfl) rfl trivial (fun _ _ _ h => h) (fun w => r_pickT hl rfl rfl) rfl ?_
                        clear hl a; intro a hl
                        refine d_takeL (i := 15) hl rfl (by kernel_rfl) (by kernel_rfl) (by kernel_rfl) (by kernel_rfl) (by kernel_rfl) rfl trivial (fun _ _ _ h => h) (fun w => r_field hl rfl fld44_1) rfl ?_
                        clear hl a; intro a hl
                        refine d_one (i := 16) (by kernel_rfl) rfl ?_
                        try clear hM
                        refine id (w_store hl hh trivial one4 rfl rfl (by repeat (first | exact find_head | apply find_tail)) (by first | (simp; done) | (simp; omega)) (by first | rfl | (apply Row.one; assumption)) (by first | (simp only [setL, List.getElem?_cons_zero, List.getElem?_cons_succ, Value.cells, List.take_zero, List.take_succ_cons, List.take_nil, List.drop_zero, List.drop_succ_cons, List.drop_nil, List.length_cons, List.length_nil, List.cons_append, List.nil_append, List.append_nil, Nat.zero_add, Nat.add_zero, Nat.reduceAdd, Nat.reduceBEq, Nat.reduceEqDiff, Nat.ble, BEq.rfl, Bool.and_true, Bool.and_self, cond_true, beq_self_eq_true]; rfl)) ?_)
                        clear hh w; intro w hh
                        refine d_step (fun h => absurd h (by decide)) ?_
                        refine d_done (by kernel_rfl) ?_
                        try clear hM
                        have hl2 := hl.add (t := 3) (hl.add (t := 5) (hl.add (t := 8) (hl.add (t := 9) (hl.add (t := 10) (hl.add (t := 11) (hl.add (t := 23) (hl.add (t := 24) (hl.add (t := 25) (hl.nil) rfl) rfl) rfl) rfl) rfl) rfl) rfl) rfl) rfl; clear hl; have hl := hl2; clear hl2
                        refine then_normal ?_
                        refine c_seq ?_
                        refine c_region ?_
                        refine wl (wl_val hl rfl trivial (r_field hl rfl fld44_1) ?_)
                        clear hl a; intro a hl
                        refine wl (w_load hl hh rfl trivial one4 rfl (by repeat (first | exact find_head | apply find_tail)) (by first | rfl) ?_)
                        clear hl a; intro a hl
                        refine w_nil ?_
                        have hl2 := hl.add (t := 3) (hl.add (t := 5) (hl.add (t := 8) (hl.add (t := 9) (hl.add (t := 10) (hl.add (t := 11) (hl.add (t := 23) (hl.add (t := 24) (hl.add (t := 25) (hl.add (t := 120) (hl.nil) rfl) rfl) rfl) rfl) rfl) rfl) rfl) rfl) rfl) rfl; clear hl; have hl := hl2; clear hl2
                        refine then_normal ?_
                        refine c_cond hl rfl ?_ ?_
                        · intro hc10
                          try simp only [decide_eq_true_eq, decide_eq_false_iff_not, Bool.not_eq_true', Bool.not_eq_false', Bool.not_eq_true, Bool.not_eq_false, Bool.and_eq_true, Bool.or_eq_true, Bool.and_eq_false_iff, Bool.or_eq_false_iff, Bool.not_not, ne_eq, Int.not_lt, Int.not_le, Decidable.not_not, beq_iff_eq, bne_iff_ne] at hc10
                          rw [if_pos (by simp_all)] at hfk
                          refine c_draw [(k8, C [.int .u8 kd2, .int .u32 x2, .int .u64 A2, .int .u64 B2, .int .u64 E2, .int .u64 D2] 36)] [9, 10] mixed hh ?_
                          clear hh w; intro w hh
                          have hM : Mem [(k8, C [.int .u8 kd2, .int .u32 x2, .int .u64 A2, .int .u64 B2, .int .u64 E2, .int .u64 D2] 36)] w := (by repeat (first | exact Mem.nil | refine Mem.cons hh.mem (by repeat (first | exact find_head | apply find_tail)) ?_ | refine Mem.consR hh (by assumption) (by simp) ?_))
                          refine d_take (i := 0) hl rfl (by kernel_rfl) (by kernel_rfl) (by kernel_rfl) (by kernel_rfl) (by kernel_rfl) rfl trivial (fun _ _ _ h => h) hM (fun w hC => r_move hl rfl) rfl ?_
                          clear hl a; intro a hl
                          refine d_take (i := 1) hl rfl (by kernel_rfl) (by kernel_rfl) (by kernel_rfl) (by kernel_rfl) (by kernel_rfl) rfl trivial (fun _ _ _ h => h) hM (fun w hC => r_move hl rfl) rfl ?_
                          clear hl a; intro a hl
                          first | refine d_take (i := 2) hl rfl (by kernel_rfl) (by kernel_rfl) (by kernel_rfl) (by kernel_rfl) (by kernel_rfl) rfl trivial (fun _ _ _ h => h) hM (fun w hC => r_add hl rfl rfl (by simp only [Fits]; omega)) rfl ?_ | refine d_take (i := 2) hl rfl (by kernel_rfl) (by kernel_rfl) (by kernel_rfl) (by kernel_rfl) (by kernel_rfl) rfl trivial (fun _ _ _ h => h) hM (fun w hC => r_addW hl rfl rfl) rfl ?_
                          clear hl a; intro a hl
                          refine d_take (i := 3) hl rfl (by kernel_rfl) (by kernel_rfl) (by kernel_rfl) (by kernel_rfl) (by kernel_rfl) rfl trivial (fun _ _ _ h => h) hM (fun w hC => r_field hl rfl fld36_4) rfl ?_
                          clear hl a; intro a hl
                          refine d_take (i := 4) hl rfl (by kernel_rfl) (by kernel_rfl) (by kernel_rfl) (by kernel_rfl) (by kernel_rfl) rfl trivial (fun _ _ _ h => h) hM (fun w hC => r_loadC hl rfl one27 hC (by repeat (first | exact find_head | apply find_tail)) (by first | rfl)) rfl ?_
                          clear hl a; intro a hl
                          refine d_take (i := 5) hl rfl (by kernel_rfl) (by kernel_rfl) (by kernel_rfl) (by kernel_rfl) (by kernel_rfl) rfl trivial (fun _ _ _ h => h) hM (fun w hC => r_field hl rfl fld36_5) rfl ?_
                          clear hl a; intro a hl
                          refine d_take (i := 6) hl rfl (by kernel_rfl) (by kernel_rfl) (by kernel_rfl) (by kernel_rfl) (by kernel_rfl) rfl trivial (fun _ _ _ h => h) hM (fun w hC => r_loadC hl rfl one27 hC (by repeat (first | exact find_head | apply find_tail)) (by first | rfl)) rfl ?_
                          clear hl a; intro a hl
                          refine d_take (i := 7) hl rfl (by kernel_rfl) (by kernel_rfl) (by kernel_rfl) (by kernel_rfl) (by kernel_rfl) rfl trivial (fun _ _ _ h => h) hM (fun w hC => r_indexA hl rfl rfl arr58 (by omega) (by omega) (by first | (simp only [Int.reduceToNat]; rfl) | exact toNat_add1 _ | exact toNat_add2 _ _ | exact toNat_emod _ _ | exact Int.toNat_natCast _ | rfl)) rfl ?_
                          clear hl a; intro a hl
                          refine d_one (i := 8) (by kernel_rfl) rfl ?_
                          try clear hM
                          refine id (w_store hl hh trivial one27 rfl rfl (by repeat (first | exact find_head | apply find_tail)) (by rw [arrL_length]; omega) (by first | rfl | (apply Row.one; assumption)) (by exact arr_store (by omega)) ?_)
                          clear hh w; intro w hh
                          have hM : Mem [(k8, C [.int .u8 kd2, .int .u32 x2, .int .u64 A2, .int .u64 B2, .int .u64 E2, .int .u64 D2] 36)] w := (by repeat (first | exact Mem.nil | refine Mem.cons hh.mem (by repeat (first | exact find_head | apply find_tail)) ?_ | refine Mem.consR hh (by assumption) (by simp) ?_))
                          refine d_step (fun _ => hM) ?_
                          refine d_takeL (i := 9) hl rfl (by kernel_rfl) (by kernel_rfl) (by kernel_rfl) (by kernel_rfl) (by kernel_rfl) rfl trivial (fun _ _ _ h => h) (fun w => r_indexA hl rfl rfl arr58 (by omega) (by omega) (by first | (simp only [Int.reduceToNat]; rfl) | exact toNat_add1 _ | exact toNat_add2 _ _ | exact toNat_emod _ _ | exact Int.toNat_natCast _ | rfl)) rfl ?_
                          clear hl a; intro a hl
                          refine d_one (i := 10) (by kernel_rfl) rfl ?_
                          try clear hM
                          refine id (w_store hl hh trivial one27 rfl rfl (by repeat (first | exact find_head | apply find_tail)) (by rw [arrL_length]; omega) (by first | rfl | (apply Row.one; assumption)) (by exact arr_store (by omega)) ?_)
                          clear hh w; intro w hh
                          refine d_step (fun h => absurd h (by decide)) ?_
                          refine d_done (by kernel_rfl) ?_
                          try clear hM
                          have hl2 := hl.add (t := 3) (hl.add (t := 5) (hl.add (t := 9) (hl.add (t := 11) (hl.add (t := 23) (hl.add (t := 24) (hl.add (t := 25) (hl.nil) rfl) rfl) rfl) rfl) rfl) rfl) rfl; clear hl; have hl := hl2; clear hl2
                          refine blk_normal ?_
                          refine then_normal ?_
                          refine c_seq ?_
                          refine c_region ?_
                          first | refine wl (w_loadA hl hh rfl trivial agg44 rfl (by repeat (first | exact find_head | apply find_tail)) (by first | (simp only [List.getElem?_cons_zero, List.getElem?_cons_succ, Value.cells, List.take_zero, List.take_succ_cons, List.take_nil, List.drop_zero, List.drop_succ_cons, List.drop_nil, List.length_cons, List.length_nil, List.cons_append, List.nil_append, List.append_nil, Nat.zero_add, Nat.add_zero, Nat.reduceAdd, Nat.reduceBEq, Nat.reduceEqDiff, Nat.ble, BEq.rfl, Bool.and_true, Bool.and_self, cond_true, beq_self_eq_true]; rfl)) (by first | rfl | (simp; done)) ?_) | refine wl (w_loadRA hl hh rfl trivial agg44 rfl hm (by simp) hqv rfl ?_)
                          clear hl a; intro a hl
                          first | refine wl (w_loadA hl hh rfl trivial agg44 rfl (by repeat (first | exact find_head | apply find_tail)) (by first | (simp only [List.getElem?_cons_zero, List.getElem?_cons_succ, Value.cells, List.take_zero, List.take_succ_cons, List.take_nil, List.drop_zero, List.drop_succ_cons, List.drop_nil, List.length_cons, List.length_nil, List.cons_append, List.nil_append, List.append_nil, Nat.zero_add, Nat.add_zero, Nat.reduceAdd, Nat.reduceBEq, Nat.reduceEqDiff, Nat.ble, BEq.rfl, Bool.and_true, Bool.and_self, cond_true, beq_self_eq_true]; rfl)) (by first | rfl | (simp; done)) ?_) | refine wl (w_loadRA hl hh rfl trivial agg44 rfl hm (by simp) hqv rfl ?_)
                          clear hl a; intro a hl
                          refine wl (wl_val hl rfl trivial (r_neqA hl rfl rfl eqf44 shp44 (by simp only [unlitL, unlit]; rfl) (by simp only [unlitL, unlit]; rfl) (by first | exact ⟨trivial⟩ | (refine ⟨?_⟩; simp [LitsOk, litOk, Fits]; done) | (refine ⟨?_⟩; simp [LitsOk, litOk, Fits]; omega)) (by first | exact ⟨trivial⟩ | (refine ⟨?_⟩; simp [LitsOk, litOk, Fits]; done) | (refine ⟨?_⟩; simp [LitsOk, litOk, Fits]; omega))) ?_)
                          clear hl a; intro a hl
                          refine w_nil ?_
                          have hl2 := hl.add (t := 3) (hl.add (t := 5) (hl.add (t := 23) (hl.add (t := 24) (hl.add (t := 25) (hl.add (t := 132) (hl.nil) rfl) rfl) rfl) rfl) rfl) rfl; clear hl; have hl := hl2; clear hl2
                          refine then_normal ?_
                          refine c_cond hl rfl ?_ ?_
                          · intro hc11
                            try simp only [decide_eq_true_eq, decide_eq_false_iff_not, Bool.not_eq_true', Bool.not_eq_false', Bool.not_eq_true, Bool.not_eq_false, Bool.and_eq_true, Bool.or_eq_true, Bool.and_eq_false_iff, Bool.or_eq_false_iff, Bool.not_not, ne_eq, Int.not_lt, Int.not_le, Decidable.not_not, beq_iff_eq, bne_iff_ne] at hc11
                            exfalso; first | (simp [eqLits, litBeq] at hc11; done) | (simp_all [eqLits, litBeq]; done)
                          · intro hc11
                            try simp only [decide_eq_true_eq, decide_eq_false_iff_not, Bool.not_eq_true', Bool.not_eq_false', Bool.not_eq_true, Bool.not_eq_false, Bool.and_eq_true, Bool.or_eq_true, Bool.and_eq_false_iff, Bool.or_eq_false_iff, Bool.not_not, ne_eq, Int.not_lt, Int.not_le, Decidable.not_not, beq_iff_eq, bne_iff_ne] at hc11
                            refine wp_skip ?_
                            refine blk_normal ?_
                            refine then_normal ?_
                            refine c_region ?_
                            first | refine wl (wl_val hl rfl trivial (r_add hl rfl rfl (by simp only [Fits]; omega)) ?_) | refine wl (wl_val hl rfl trivial (r_addW hl rfl rfl) ?_)
                            clear hl a; intro a hl
                            refine wl (wl_val hl rfl trivial (r_move hl rfl) ?_)
                            clear hl a; intro a hl
                            refine w_nil ?_
                            have hl2 := hl.add (t := 3) (hl.add (t := 5) (hl.add (t := 23) (hl.add (t := 24) (hl.add (t := 25) (hl.nil) rfl) rfl) rfl) rfl) rfl; clear hl; have hl := hl2; clear hl2
                            refine then_normal ?_
                            refine ⟨⟨s.i + 1, (doF s.f ⟨kd2, x2, A2, B2, E2, D2⟩).f, fl2, keepF s.rs ⟨kd2, x2, A2, B2, E2, D2⟩ (doF s.f ⟨kd2, x2, A2, B2, E2, D2⟩).ans, rv2, E3⟩, (by dsimp only; omega), hI.next hi hok hI2 hR2, hl.addE (t := 25) (hl.addE (t := 3) (hl.addE (t := 5) (hl.addE (t := 23) (hl.addE (t := 24) (hl.nil) rfl (by first | rfl | rfl)) rfl (by first | rfl | rfl)) rfl (by first | rfl | rfl)) rfl (by first | rfl | rfl)) rfl (by first | rfl | rfl), (by simp only [List.cons_append, List.nil_append, List.append_nil]; exact hh.keep (by repeat (first | exact keeps_nil | apply keeps_cons (by repeat (first | exact find_head | apply find_tail)) (by first  | exact arr_obj (fun i hi => by first | (simp only [hfk, wV, updV, word_setWord]; done) | (simp only [hfk, wV, updV, word_setWord]; (repeat' split) <;> first | rfl | omega | (simp_all; done)) | (simp only [wV]; rw [hfk i hi])) | rfl) | exact keeps_self | apply keeps_mv)))⟩
                        · intro hc10
                          try simp only [decide_eq_true_eq, decide_eq_false_iff_not, Bool.not_eq_true', Bool.not_eq_false', Bool.not_eq_true, Bool.not_eq_false, Bool.and_eq_true, Bool.or_eq_true, Bool.and_eq_false_iff, Bool.or_eq_false_iff, Bool.not_not, ne_eq, Int.not_lt, Int.not_le, Decidable.not_not, beq_iff_eq, bne_iff_ne] at hc10
                          rw [if_neg (by simp_all)] at hfk
                          refine wp_skip ?_
                          refine blk_normal ?_
                          refine then_normal ?_
                          refine c_seq ?_
                          refine c_region ?_
                          first | refine wl (w_loadA hl hh rfl trivial agg44 rfl (by repeat (first | exact find_head | apply find_tail)) (by first | (simp only [List.getElem?_cons_zero, List.getElem?_cons_succ, Value.cells, List.take_zero, List.take_succ_cons, List.take_nil, List.drop_zero, List.drop_succ_cons, List.drop_nil, List.length_cons, List.length_nil, List.cons_append, List.nil_append, List.append_nil, Nat.zero_add, Nat.add_zero, Nat.reduceAdd, Nat.reduceBEq, Nat.reduceEqDiff, Nat.ble, BEq.rfl, Bool.and_true, Bool.and_self, cond_true, beq_self_eq_true]; rfl)) (by first | rfl | (simp; done)) ?_) | refine wl (w_loadRA hl hh rfl trivial agg44 rfl hm (by simp) hqv rfl ?_)
                          clear hl a; intro a hl
                          first | refine wl (w_loadA hl hh rfl trivial agg44 rfl (by repeat (first | exact find_head | apply find_tail)) (by first | (simp only [List.getElem?_cons_zero, List.getElem?_cons_succ, Value.cells, List.take_zero, List.take_succ_cons, List.take_nil, List.drop_zero, List.drop_succ_cons, List.drop_nil, List.length_cons, List.length_nil, List.cons_append, List.nil_append, List.append_nil, Nat.zero_add, Nat.add_zero, Nat.reduceAdd, Nat.reduceBEq, Nat.reduceEqDiff, Nat.ble, BEq.rfl, Bool.and_true, Bool.and_self, cond_true, beq_self_eq_true]; rfl)) (by first | rfl | (simp; done)) ?_) | refine wl (w_loadRA hl hh rfl trivial agg44 rfl hm (by simp) hqv rfl ?_)
                          clear hl a; intro a hl
                          refine wl (wl_val hl rfl trivial (r_neqA hl rfl rfl eqf44 shp44 (by simp only [unlitL, unlit]; rfl) (by simp only [unlitL, unlit]; rfl) (by first | exact ⟨trivial⟩ | (refine ⟨?_⟩; simp [LitsOk, litOk, Fits]; done) | (refine ⟨?_⟩; simp [LitsOk, litOk, Fits]; omega)) (by first | exact ⟨trivial⟩ | (refine ⟨?_⟩; simp [LitsOk, litOk, Fits]; done) | (refine ⟨?_⟩; simp [LitsOk, litOk, Fits]; omega))) ?_)
                          clear hl a; intro a hl
                          refine w_nil ?_
                          have hl2 := hl.add (t := 3) (hl.add (t := 5) (hl.add (t := 23) (hl.add (t := 24) (hl.add (t := 25) (hl.add (t := 132) (hl.nil) rfl) rfl) rfl) rfl) rfl) rfl; clear hl; have hl := hl2; clear hl2
                          refine then_normal ?_
                          refine c_cond hl rfl ?_ ?_
                          · intro hc11
                            try simp only [decide_eq_true_eq, decide_eq_false_iff_not, Bool.not_eq_true', Bool.not_eq_false', Bool.not_eq_true, Bool.not_eq_false, Bool.and_eq_true, Bool.or_eq_true, Bool.and_eq_false_iff, Bool.or_eq_false_iff, Bool.not_not, ne_eq, Int.not_lt, Int.not_le, Decidable.not_not, beq_iff_eq, bne_iff_ne] at hc11
                            exfalso; first | (simp [eqLits, litBeq] at hc11; done) | (simp_all [eqLits, litBeq]; done)
                          · intro hc11
                            try simp only [decide_eq_true_eq, decide_eq_false_iff_not, Bool.not_eq_true', Bool.not_eq_false', Bool.not_eq_true, Bool.not_eq_false, Bool.and_eq_true, Bool.or_eq_true, Bool.and_eq_false_iff, Bool.or_eq_false_iff, Bool.not_not, ne_eq, Int.not_lt, Int.not_le, Decidable.not_not, beq_iff_eq, bne_iff_ne] at hc11
                            refine wp_skip ?_
                            refine blk_normal ?_
                            refine then_normal ?_
                            refine c_region ?_
                            first | refine wl (wl_val hl rfl trivial (r_add hl rfl rfl (by simp only [Fits]; omega)) ?_) | refine wl (wl_val hl rfl trivial (r_addW hl rfl rfl) ?_)
                            clear hl a; intro a hl
                            refine wl (wl_val hl rfl trivial (r_move hl rfl) ?_)
                            clear hl a; intro a hl
                            refine w_nil ?_
                            have hl2 := hl.add (t := 3) (hl.add (t := 5) (hl.add (t := 23) (hl.add (t := 24) (hl.add (t := 25) (hl.nil) rfl) rfl) rfl) rfl) rfl; clear hl; have hl := hl2; clear hl2
                            refine then_normal ?_
                            refine ⟨⟨s.i + 1, (doF s.f ⟨kd2, x2, A2, B2, E2, D2⟩).f, fl2, keepF s.rs ⟨kd2, x2, A2, B2, E2, D2⟩ (doF s.f ⟨kd2, x2, A2, B2, E2, D2⟩).ans, rv2, E3⟩, (by dsimp only; omega), hI.next hi hok hI2 hR2, hl.addE (t := 25) (hl.addE (t := 3) (hl.addE (t := 5) (hl.addE (t := 23) (hl.addE (t := 24) (hl.nil) rfl (by first | rfl | rfl)) rfl (by first | rfl | rfl)) rfl (by first | rfl | rfl)) rfl (by first | rfl | rfl)) rfl (by first | rfl | rfl), (by simp only [List.cons_append, List.nil_append, List.append_nil]; exact hh.keep (by repeat (first | exact keeps_nil | apply keeps_cons (by repeat (first | exact find_head | apply find_tail)) (by first  | exact arr_obj (fun i hi => by first | (simp only [hfk, wV, updV, word_setWord]; done) | (simp only [hfk, wV, updV, word_setWord]; (repeat' split) <;> first | rfl | omega | (simp_all; done)) | (simp only [wV]; rw [hfk i hi])) | rfl) | exact keeps_self | apply keeps_mv)))⟩
                      · intro hg8; clear hl; intro hl
                        try simp only [decide_eq_true_eq, decide_eq_false_iff_not, Bool.not_eq_true', Bool.not_eq_false', Bool.not_eq_true, Bool.not_eq_false, Bool.and_eq_true, Bool.or_eq_true, Bool.and_eq_false_iff, Bool.or_eq_false_iff, Bool.not_not, ne_eq, Int.not_lt, Int.not_le, Decidable.not_not, beq_iff_eq, bne_iff_ne] at hg8
                        refine d_skip (i := 7) hl rfl (by kernel_rfl) (by kernel_rfl) (by kernel_rfl) (by kernel_rfl) (by kernel_rfl) rfl ⟨_, _, rfl, rfl, rfl⟩ (fun _ _ _ h => h) hM ?_
                        clear hl a; intro a hl
                        refine d_skip (i := 8) hl rfl (by kernel_rfl) (by kernel_rfl) (by kernel_rfl) (by kernel_rfl) (by kernel_rfl) rfl ⟨_, _, rfl, rfl, rfl⟩ (fun _ _ _ h => h) hM ?_
                        clear hl a; intro a hl
                        refine d_skip (i := 9) hl rfl (by kernel_rfl) (by kernel_rfl) (by kernel_rfl) (by kernel_rfl) (by kernel_rfl) rfl ⟨_, _, rfl, rfl, rfl⟩ (fun _ _ _ h => h) hM ?_
                        clear hl a; intro a hl
                        refine d_skip (i := 10) hl rfl (by kernel_rfl) (by kernel_rfl) (by kernel_rfl) (by kernel_rfl) (by kernel_rfl) rfl ⟨_, _, rfl, rfl, rfl⟩ (fun _ _ _ h => h) hM ?_
                        clear hl a; intro a hl
                        refine d_skip (i := 11) hl rfl (by kernel_rfl) (by kernel_rfl) (by kernel_rfl) (by kernel_rfl) (by kernel_rfl) rfl ⟨_, _, rfl, rfl, rfl⟩ (fun _ _ _ h => h) hM ?_
                        clear hl a; intro a hl
                        refine d_skip (i := 12) hl rfl (by kernel_rfl) (by kernel_rfl) (by kernel_rfl) (by kernel_rfl) (by kernel_rfl) rfl ⟨_, _, rfl, rfl, rfl⟩ (fun _ _ _ h => h) hM ?_
                        clear hl a; intro a hl
                        refine d_skip (i := 13) hl rfl (by kernel_rfl) (by kernel_rfl) (by kernel_rfl) (by kernel_rfl) (by kernel_rfl) rfl ⟨_, _, rfl, rfl, rfl⟩ (fun _ _ _ h => h) hM ?_
                        clear hl a; intro a hl
                        refine d_takeL (i := 14) hl rfl (by kernel_rfl) (by kernel_rfl) (by kernel_rfl) (by kernel_rfl) (by kernel_rfl) rfl trivial (fun _ _ _ h => h) (fun w => r_pickF hl rfl rfl) rfl ?_
                        clear hl a; intro a hl
                        refine d_takeL (i := 15) hl rfl (by kernel_rfl) (by kernel_rfl) (by kernel_rfl) (by kernel_rfl) (by kernel_rfl) rfl trivial (fun _ _ _ h => h) (fun w => r_field hl rfl fld44_1) rfl ?_
                        clear hl a; intro a hl
                        refine d_one (i := 16) (by kernel_rfl) rfl ?_
                        try clear hM
                        refine id (w_store hl hh trivial one4 rfl rfl (by repeat (first | exact find_head | apply find_tail)) (by first | (simp; done) | (simp; omega)) (by first | rfl | (apply Row.one; assumption)) (by first | (simp only [setL, List.getElem?_cons_zero, List.getElem?_cons_succ, Value.cells, List.take_zero, List.take_succ_cons, List.take_nil, List.drop_zero, List.drop_succ_cons, List.drop_nil, List.length_cons, List.length_nil, List.cons_append, List.nil_append, List.append_nil, Nat.zero_add, Nat.add_zero, Nat.reduceAdd, Nat.reduceBEq, Nat.reduceEqDiff, Nat.ble, BEq.rfl, Bool.and_true, Bool.and_self, cond_true, beq_self_eq_true]; rfl)) ?_)
                        clear hh w; intro w hh
                        refine d_step (fun h => absurd h (by decide)) ?_
                        refine d_done (by kernel_rfl) ?_
                        try clear hM
                        have hl2 := hl.add (t := 3) (hl.add (t := 5) (hl.add (t := 8) (hl.add (t := 9) (hl.add (t := 10) (hl.add (t := 11) (hl.add (t := 23) (hl.add (t := 24) (hl.add (t := 25) (hl.nil) rfl) rfl) rfl) rfl) rfl) rfl) rfl) rfl) rfl; clear hl; have hl := hl2; clear hl2
                        refine then_normal ?_
                        refine c_seq ?_
                        refine c_region ?_
                        refine wl (wl_val hl rfl trivial (r_field hl rfl fld44_1) ?_)
                        clear hl a; intro a hl
                        refine wl (w_load hl hh rfl trivial one4 rfl (by repeat (first | exact find_head | apply find_tail)) (by first | rfl) ?_)
                        clear hl a; intro a hl
                        refine w_nil ?_
                        have hl2 := hl.add (t := 3) (hl.add (t := 5) (hl.add (t := 8) (hl.add (t := 9) (hl.add (t := 10) (hl.add (t := 11) (hl.add (t := 23) (hl.add (t := 24) (hl.add (t := 25) (hl.add (t := 120) (hl.nil) rfl) rfl) rfl) rfl) rfl) rfl) rfl) rfl) rfl) rfl; clear hl; have hl := hl2; clear hl2
                        refine then_normal ?_
                        refine c_cond hl rfl ?_ ?_
                        · intro hc10
                          try simp only [decide_eq_true_eq, decide_eq_false_iff_not, Bool.not_eq_true', Bool.not_eq_false', Bool.not_eq_true, Bool.not_eq_false, Bool.and_eq_true, Bool.or_eq_true, Bool.and_eq_false_iff, Bool.or_eq_false_iff, Bool.not_not, ne_eq, Int.not_lt, Int.not_le, Decidable.not_not, beq_iff_eq, bne_iff_ne] at hc10
                          rw [if_pos (by simp_all)] at hfk
                          refine c_draw [(k8, C [.int .u8 kd2, .int .u32 x2, .int .u64 A2, .int .u64 B2, .int .u64 E2, .int .u64 D2] 36)] [9, 10] mixed hh ?_
                          clear hh w; intro w hh
                          have hM : Mem [(k8, C [.int .u8 kd2, .int .u32 x2, .int .u64 A2, .int .u64 B2, .int .u64 E2, .int .u64 D2] 36)] w := (by repeat (first | exact Mem.nil | refine Mem.cons hh.mem (by repeat (first | exact find_head | apply find_tail)) ?_ | refine Mem.consR hh (by assumption) (by simp) ?_))
                          refine d_take (i := 0) hl rfl (by kernel_rfl) (by kernel_rfl) (by kernel_rfl) (by kernel_rfl) (by kernel_rfl) rfl trivial (fun _ _ _ h => h) hM (fun w hC => r_move hl rfl) rfl ?_
                          clear hl a; intro a hl
                          refine d_take (i := 1) hl rfl (by kernel_rfl) (by kernel_rfl) (by kernel_rfl) (by kernel_rfl) (by kernel_rfl) rfl trivial (fun _ _ _ h => h) hM (fun w hC => r_move hl rfl) rfl ?_
                          clear hl a; intro a hl
                          first | refine d_take (i := 2) hl rfl (by kernel_rfl) (by kernel_rfl) (by kernel_rfl) (by kernel_rfl) (by kernel_rfl) rfl trivial (fun _ _ _ h => h) hM (fun w hC => r_add hl rfl rfl (by simp only [Fits]; omega)) rfl ?_ | refine d_take (i := 2) hl rfl (by kernel_rfl) (by kernel_rfl) (by kernel_rfl) (by kernel_rfl) (by kernel_rfl) rfl trivial (fun _ _ _ h => h) hM (fun w hC => r_addW hl rfl rfl) rfl ?_
                          clear hl a; intro a hl
                          refine d_take (i := 3) hl rfl (by kernel_rfl) (by kernel_rfl) (by kernel_rfl) (by kernel_rfl) (by kernel_rfl) rfl trivial (fun _ _ _ h => h) hM (fun w hC => r_field hl rfl fld36_4) rfl ?_
                          clear hl a; intro a hl
                          refine d_take (i := 4) hl rfl (by kernel_rfl) (by kernel_rfl) (by kernel_rfl) (by kernel_rfl) (by kernel_rfl) rfl trivial (fun _ _ _ h => h) hM (fun w hC => r_loadC hl rfl one27 hC (by repeat (first | exact find_head | apply find_tail)) (by first | rfl)) rfl ?_
                          clear hl a; intro a hl
                          refine d_take (i := 5) hl rfl (by kernel_rfl) (by kernel_rfl) (by kernel_rfl) (by kernel_rfl) (by kernel_rfl) rfl trivial (fun _ _ _ h => h) hM (fun w hC => r_field hl rfl fld36_5) rfl ?_
                          clear hl a; intro a hl
                          refine d_take (i := 6) hl rfl (by kernel_rfl) (by kernel_rfl) (by kernel_rfl) (by kernel_rfl) (by kernel_rfl) rfl trivial (fun _ _ _ h => h) hM (fun w hC => r_loadC hl rfl one27 hC (by repeat (first | exact find_head | apply find_tail)) (by first | rfl)) rfl ?_
                          clear hl a; intro a hl
                          refine d_take (i := 7) hl rfl (by kernel_rfl) (by kernel_rfl) (by kernel_rfl) (by kernel_rfl) (by kernel_rfl) rfl trivial (fun _ _ _ h => h) hM (fun w hC => r_indexA hl rfl rfl arr58 (by omega) (by omega) (by first | (simp only [Int.reduceToNat]; rfl) | exact toNat_add1 _ | exact toNat_add2 _ _ | exact toNat_emod _ _ | exact Int.toNat_natCast _ | rfl)) rfl ?_
                          clear hl a; intro a hl
                          refine d_one (i := 8) (by kernel_rfl) rfl ?_
                          try clear hM
                          refine id (w_store hl hh trivial one27 rfl rfl (by repeat (first | exact find_head | apply find_tail)) (by rw [arrL_length]; omega) (by first | rfl | (apply Row.one; assumption)) (by exact arr_store (by omega)) ?_)
                          clear hh w; intro w hh
                          have hM : Mem [(k8, C [.int .u8 kd2, .int .u32 x2, .int .u64 A2, .int .u64 B2, .int .u64 E2, .int .u64 D2] 36)] w := (by repeat (first | exact Mem.nil | refine Mem.cons hh.mem (by repeat (first | exact find_head | apply find_tail)) ?_ | refine Mem.consR hh (by assumption) (by simp) ?_))
                          refine d_step (fun _ => hM) ?_
                          refine d_takeL (i := 9) hl rfl (by kernel_rfl) (by kernel_rfl) (by kernel_rfl) (by kernel_rfl) (by kernel_rfl) rfl trivial (fun _ _ _ h => h) (fun w => r_indexA hl rfl rfl arr58 (by omega) (by omega) (by first | (simp only [Int.reduceToNat]; rfl) | exact toNat_add1 _ | exact toNat_add2 _ _ | exact toNat_emod _ _ | exact Int.toNat_natCast _ | rfl)) rfl ?_
                          clear hl a; intro a hl
                          refine d_one (i := 10) (by kernel_rfl) rfl ?_
                          try clear hM
                          refine id (w_store hl hh trivial one27 rfl rfl (by repeat (first | exact find_head | apply find_tail)) (by rw [arrL_length]; omega) (by first | rfl | (apply Row.one; assumption)) (by exact arr_store (by omega)) ?_)
                          clear hh w; intro w hh
                          refine d_step (fun h => absurd h (by decide)) ?_
                          refine d_done (by kernel_rfl) ?_
                          try clear hM
                          have hl2 := hl.add (t := 3) (hl.add (t := 5) (hl.add (t := 9) (hl.add (t := 11) (hl.add (t := 23) (hl.add (t := 24) (hl.add (t := 25) (hl.nil) rfl) rfl) rfl) rfl) rfl) rfl) rfl; clear hl; have hl := hl2; clear hl2
                          refine blk_normal ?_
                          refine then_normal ?_
                          refine c_seq ?_
                          refine c_region ?_
                          first | refine wl (w_loadA hl hh rfl trivial agg44 rfl (by repeat (first | exact find_head | apply find_tail)) (by first | (simp only [List.getElem?_cons_zero, List.getElem?_cons_succ, Value.cells, List.take_zero, List.take_succ_cons, List.take_nil, List.drop_zero, List.drop_succ_cons, List.drop_nil, List.length_cons, List.length_nil, List.cons_append, List.nil_append, List.append_nil, Nat.zero_add, Nat.add_zero, Nat.reduceAdd, Nat.reduceBEq, Nat.reduceEqDiff, Nat.ble, BEq.rfl, Bool.and_true, Bool.and_self, cond_true, beq_self_eq_true]; rfl)) (by first | rfl | (simp; done)) ?_) | refine wl (w_loadRA hl hh rfl trivial agg44 rfl hm (by simp) hqv rfl ?_)
                          clear hl a; intro a hl
                          first | refine wl (w_loadA hl hh rfl trivial agg44 rfl (by repeat (first | exact find_head | apply find_tail)) (by first | (simp only [List.getElem?_cons_zero, List.getElem?_cons_succ, Value.cells, List.take_zero, List.take_succ_cons, List.take_nil, List.drop_zero, List.drop_succ_cons, List.drop_nil, List.length_cons, List.length_nil, List.cons_append, List.nil_append, List.append_nil, Nat.zero_add, Nat.add_zero, Nat.reduceAdd, Nat.reduceBEq, Nat.reduceEqDiff, Nat.ble, BEq.rfl, Bool.and_true, Bool.and_self, cond_true, beq_self_eq_true]; rfl)) (by first | rfl | (simp; done)) ?_) | refine wl (w_loadRA hl hh rfl trivial agg44 rfl hm (by simp) hqv rfl ?_)
                          clear hl a; intro a hl
                          refine wl (wl_val hl rfl trivial (r_neqA hl rfl rfl eqf44 shp44 (by simp only [unlitL, unlit]; rfl) (by simp only [unlitL, unlit]; rfl) (by first | exact ⟨trivial⟩ | (refine ⟨?_⟩; simp [LitsOk, litOk, Fits]; done) | (refine ⟨?_⟩; simp [LitsOk, litOk, Fits]; omega)) (by first | exact ⟨trivial⟩ | (refine ⟨?_⟩; simp [LitsOk, litOk, Fits]; done) | (refine ⟨?_⟩; simp [LitsOk, litOk, Fits]; omega))) ?_)
                          clear hl a; intro a hl
                          refine w_nil ?_
                          have hl2 := hl.add (t := 3) (hl.add (t := 5) (hl.add (t := 23) (hl.add (t := 24) (hl.add (t := 25) (hl.add (t := 132) (hl.nil) rfl) rfl) rfl) rfl) rfl) rfl; clear hl; have hl := hl2; clear hl2
                          refine then_normal ?_
                          refine c_cond hl rfl ?_ ?_
                          · intro hc11
                            try simp only [decide_eq_true_eq, decide_eq_false_iff_not, Bool.not_eq_true', Bool.not_eq_false', Bool.not_eq_true, Bool.not_eq_false, Bool.and_eq_true, Bool.or_eq_true, Bool.and_eq_false_iff, Bool.or_eq_false_iff, Bool.not_not, ne_eq, Int.not_lt, Int.not_le, Decidable.not_not, beq_iff_eq, bne_iff_ne] at hc11
                            exfalso; first | (simp [eqLits, litBeq] at hc11; done) | (simp_all [eqLits, litBeq]; done)
                          · intro hc11
                            try simp only [decide_eq_true_eq, decide_eq_false_iff_not, Bool.not_eq_true', Bool.not_eq_false', Bool.not_eq_true, Bool.not_eq_false, Bool.and_eq_true, Bool.or_eq_true, Bool.and_eq_false_iff, Bool.or_eq_false_iff, Bool.not_not, ne_eq, Int.not_lt, Int.not_le, Decidable.not_not, beq_iff_eq, bne_iff_ne] at hc11
                            refine wp_skip ?_
                            refine blk_normal ?_
                            refine then_normal ?_
                            refine c_region ?_
                            first | refine wl (wl_val hl rfl trivial (r_add hl rfl rfl (by simp only [Fits]; omega)) ?_) | refine wl (wl_val hl rfl trivial (r_addW hl rfl rfl) ?_)
                            clear hl a; intro a hl
                            refine wl (wl_val hl rfl trivial (r_move hl rfl) ?_)
                            clear hl a; intro a hl
                            refine w_nil ?_
                            have hl2 := hl.add (t := 3) (hl.add (t := 5) (hl.add (t := 23) (hl.add (t := 24) (hl.add (t := 25) (hl.nil) rfl) rfl) rfl) rfl) rfl; clear hl; have hl := hl2; clear hl2
                            refine then_normal ?_
                            refine ⟨⟨s.i + 1, (doF s.f ⟨kd2, x2, A2, B2, E2, D2⟩).f, fl2, keepF s.rs ⟨kd2, x2, A2, B2, E2, D2⟩ (doF s.f ⟨kd2, x2, A2, B2, E2, D2⟩).ans, rv2, E3⟩, (by dsimp only; omega), hI.next hi hok hI2 hR2, hl.addE (t := 25) (hl.addE (t := 3) (hl.addE (t := 5) (hl.addE (t := 23) (hl.addE (t := 24) (hl.nil) rfl (by first | rfl | rfl)) rfl (by first | rfl | rfl)) rfl (by first | rfl | rfl)) rfl (by first | rfl | rfl)) rfl (by first | rfl | rfl), (by simp only [List.cons_append, List.nil_append, List.append_nil]; exact hh.keep (by repeat (first | exact keeps_nil | apply keeps_cons (by repeat (first | exact find_head | apply find_tail)) (by first  | exact arr_obj (fun i hi => by first | (simp only [hfk, wV, updV, word_setWord]; done) | (simp only [hfk, wV, updV, word_setWord]; (repeat' split) <;> first | rfl | omega | (simp_all; done)) | (simp only [wV]; rw [hfk i hi])) | rfl) | exact keeps_self | apply keeps_mv)))⟩
                        · intro hc10
                          try simp only [decide_eq_true_eq, decide_eq_false_iff_not, Bool.not_eq_true', Bool.not_eq_false', Bool.not_eq_true, Bool.not_eq_false, Bool.and_eq_true, Bool.or_eq_true, Bool.and_eq_false_iff, Bool.or_eq_false_iff, Bool.not_not, ne_eq, Int.not_lt, Int.not_le, Decidable.not_not, beq_iff_eq, bne_iff_ne] at hc10
                          rw [if_neg (by simp_all)] at hfk
                          refine wp_skip ?_
                          refine blk_normal ?_
                          refine then_normal ?_
                          refine c_seq ?_
                          refine c_region ?_
                          first | refine wl (w_loadA hl hh rfl trivial agg44 rfl (by repeat (first | exact find_head | apply find_tail)) (by first | (simp only [List.getElem?_cons_zero, List.getElem?_cons_succ, Value.cells, List.take_zero, List.take_succ_cons, List.take_nil, List.drop_zero, List.drop_succ_cons, List.drop_nil, List.length_cons, List.length_nil, List.cons_append, List.nil_append, List.append_nil, Nat.zero_add, Nat.add_zero, Nat.reduceAdd, Nat.reduceBEq, Nat.reduceEqDiff, Nat.ble, BEq.rfl, Bool.and_true, Bool.and_self, cond_true, beq_self_eq_true]; rfl)) (by first | rfl | (simp; done)) ?_) | refine wl (w_loadRA hl hh rfl trivial agg44 rfl hm (by simp) hqv rfl ?_)
                          clear hl a; intro a hl
                          first | refine wl (w_loadA hl hh rfl trivial agg44 rfl (by repeat (first | exact find_head | apply find_tail)) (by first | (simp only [List.getElem?_cons_zero, List.getElem?_cons_succ, Value.cells, List.take_zero, List.take_succ_cons, List.take_nil, List.drop_zero, List.drop_succ_cons, List.drop_nil, List.length_cons, List.length_nil, List.cons_append, List.nil_append, List.append_nil, Nat.zero_add, Nat.add_zero, Nat.reduceAdd, Nat.reduceBEq, Nat.reduceEqDiff, Nat.ble, BEq.rfl, Bool.and_true, Bool.and_self, cond_true, beq_self_eq_true]; rfl)) (by first | rfl | (simp; done)) ?_) | refine wl (w_loadRA hl hh rfl trivial agg44 rfl hm (by simp) hqv rfl ?_)
                          clear hl a; intro a hl
                          refine wl (wl_val hl rfl trivial (r_neqA hl rfl rfl eqf44 shp44 (by simp only [unlitL, unlit]; rfl) (by simp only [unlitL, unlit]; rfl) (by first | exact ⟨trivial⟩ | (refine ⟨?_⟩; simp [LitsOk, litOk, Fits]; done) | (refine ⟨?_⟩; simp [LitsOk, litOk, Fits]; omega)) (by first | exact ⟨trivial⟩ | (refine ⟨?_⟩; simp [LitsOk, litOk, Fits]; done) | (refine ⟨?_⟩; simp [LitsOk, litOk, Fits]; omega))) ?_)
                          clear hl a; intro a hl
                          refine w_nil ?_
                          have hl2 := hl.add (t := 3) (hl.add (t := 5) (hl.add (t := 23) (hl.add (t := 24) (hl.add (t := 25) (hl.add (t := 132) (hl.nil) rfl) rfl) rfl) rfl) rfl) rfl; clear hl; have hl := hl2; clear hl2
                          refine then_normal ?_
                          refine c_cond hl rfl ?_ ?_
                          · intro hc11
                            try simp only [decide_eq_true_eq, decide_eq_false_iff_not, Bool.not_eq_true', Bool.not_eq_false', Bool.not_eq_true, Bool.not_eq_false, Bool.and_eq_true, Bool.or_eq_true, Bool.and_eq_false_iff, Bool.or_eq_false_iff, Bool.not_not, ne_eq, Int.not_lt, Int.not_le, Decidable.not_not, beq_iff_eq, bne_iff_ne] at hc11
                            exfalso; first | (simp [eqLits, litBeq] at hc11; done) | (simp_all [eqLits, litBeq]; done)
                          · intro hc11
                            try simp only [decide_eq_true_eq, decide_eq_false_iff_not, Bool.not_eq_true', Bool.not_eq_false', Bool.not_eq_true, Bool.not_eq_false, Bool.and_eq_true, Bool.or_eq_true, Bool.and_eq_false_iff, Bool.or_eq_false_iff, Bool.not_not, ne_eq, Int.not_lt, Int.not_le, Decidable.not_not, beq_iff_eq, bne_iff_ne] at hc11
                            refine wp_skip ?_
                            refine blk_normal ?_
                            refine then_normal ?_
                            refine c_region ?_
                            first | refine wl (wl_val hl rfl trivial (r_add hl rfl rfl (by simp only [Fits]; omega)) ?_) | refine wl (wl_val hl rfl trivial (r_addW hl rfl rfl) ?_)
                            clear hl a; intro a hl
                            refine wl (wl_val hl rfl trivial (r_move hl rfl) ?_)
                            clear hl a; intro a hl
                            refine w_nil ?_
                            have hl2 := hl.add (t := 3) (hl.add (t := 5) (hl.add (t := 23) (hl.add (t := 24) (hl.add (t := 25) (hl.nil) rfl) rfl) rfl) rfl) rfl; clear hl; have hl := hl2; clear hl2
                            refine then_normal ?_
                            refine ⟨⟨s.i + 1, (doF s.f ⟨kd2, x2, A2, B2, E2, D2⟩).f, fl2, keepF s.rs ⟨kd2, x2, A2, B2, E2, D2⟩ (doF s.f ⟨kd2, x2, A2, B2, E2, D2⟩).ans, rv2, E3⟩, (by dsimp only; omega), hI.next hi hok hI2 hR2, hl.addE (t := 25) (hl.addE (t := 3) (hl.addE (t := 5) (hl.addE (t := 23) (hl.addE (t := 24) (hl.nil) rfl (by first | rfl | rfl)) rfl (by first | rfl | rfl)) rfl (by first | rfl | rfl)) rfl (by first | rfl | rfl)) rfl (by first | rfl | rfl), (by simp only [List.cons_append, List.nil_append, List.append_nil]; exact hh.keep (by repeat (first | exact keeps_nil | apply keeps_cons (by repeat (first | exact find_head | apply find_tail)) (by first  | exact arr_obj (fun i hi => by first | (simp only [hfk, wV, updV, word_setWord]; done) | (simp only [hfk, wV, updV, word_setWord]; (repeat' split) <;> first | rfl | omega | (simp_all; done)) | (simp only [wV]; rw [hfk i hi])) | rfl) | exact keeps_self | apply keeps_mv)))⟩
                    · intro hc9
                      try simp only [decide_eq_true_eq, decide_eq_false_iff_not, Bool.not_eq_true', Bool.not_eq_false', Bool.not_eq_true, Bool.not_eq_false, Bool.and_eq_true, Bool.or_eq_true, Bool.and_eq_false_iff, Bool.or_eq_false_iff, Bool.not_not, ne_eq, Int.not_lt, Int.not_le, Decidable.not_not, beq_iff_eq, bne_iff_ne] at hc9
                      obtain ⟨ha, hfk⟩ := doF_0 s.f ⟨kd2, x2, A2, B2, E2, D2⟩ (by simp only; omega) hx
                      rw [hr] at ha
                      try simp only at hfk
                      injection ha with e0 e1 e2 e3
                      subst e0; subst e1; subst e2; subst e3
                      refine wp_skip ?_
                      refine blk_normal ?_
                      refine then_normal ?_
                      refine c_seq ?_
                      refine c_region ?_
                      first | refine wl (w_loadA hl hh rfl trivial agg44 rfl (by repeat (first | exact find_head | apply find_tail)) (by first | (simp only [List.getElem?_cons_zero, List.getElem?_cons_succ, Value.cells, List.take_zero, List.take_succ_cons, List.take_nil, List.drop_zero, List.drop_succ_cons, List.drop_nil, List.length_cons, List.length_nil, List.cons_append, List.nil_append, List.append_nil, Nat.zero_add, Nat.add_zero, Nat.reduceAdd, Nat.reduceBEq, Nat.reduceEqDiff, Nat.ble, BEq.rfl, Bool.and_true, Bool.and_self, cond_true, beq_self_eq_true]; rfl)) (by first | rfl | (simp; done)) ?_) | refine wl (w_loadRA hl hh rfl trivial agg44 rfl hm (by simp) hqv rfl ?_)
                      clear hl a; intro a hl
                      first | refine wl (w_loadA hl hh rfl trivial agg44 rfl (by repeat (first | exact find_head | apply find_tail)) (by first | (simp only [List.getElem?_cons_zero, List.getElem?_cons_succ, Value.cells, List.take_zero, List.take_succ_cons, List.take_nil, List.drop_zero, List.drop_succ_cons, List.drop_nil, List.length_cons, List.length_nil, List.cons_append, List.nil_append, List.append_nil, Nat.zero_add, Nat.add_zero, Nat.reduceAdd, Nat.reduceBEq, Nat.reduceEqDiff, Nat.ble, BEq.rfl, Bool.and_true, Bool.and_self, cond_true, beq_self_eq_true]; rfl)) (by first | rfl | (simp; done)) ?_) | refine wl (w_loadRA hl hh rfl trivial agg44 rfl hm (by simp) hqv rfl ?_)
                      clear hl a; intro a hl
                      refine wl (wl_val hl rfl trivial (r_neqA hl rfl rfl eqf44 shp44 (by simp only [unlitL, unlit]; rfl) (by simp only [unlitL, unlit]; rfl) (by first | exact ⟨trivial⟩ | (refine ⟨?_⟩; simp [LitsOk, litOk, Fits]; done) | (refine ⟨?_⟩; simp [LitsOk, litOk, Fits]; omega)) (by first | exact ⟨trivial⟩ | (refine ⟨?_⟩; simp [LitsOk, litOk, Fits]; done) | (refine ⟨?_⟩; simp [LitsOk, litOk, Fits]; omega))) ?_)
                      clear hl a; intro a hl
                      refine w_nil ?_
                      have hl2 := hl.add (t := 3) (hl.add (t := 5) (hl.add (t := 23) (hl.add (t := 24) (hl.add (t := 25) (hl.add (t := 132) (hl.nil) rfl) rfl) rfl) rfl) rfl) rfl; clear hl; have hl := hl2; clear hl2
                      refine then_normal ?_
                      refine c_cond hl rfl ?_ ?_
                      · intro hc11
                        try simp only [decide_eq_true_eq, decide_eq_false_iff_not, Bool.not_eq_true', Bool.not_eq_false', Bool.not_eq_true, Bool.not_eq_false, Bool.and_eq_true, Bool.or_eq_true, Bool.and_eq_false_iff, Bool.or_eq_false_iff, Bool.not_not, ne_eq, Int.not_lt, Int.not_le, Decidable.not_not, beq_iff_eq, bne_iff_ne] at hc11
                        exfalso; first | (simp [eqLits, litBeq] at hc11; done) | (simp_all [eqLits, litBeq]; done)
                      · intro hc11
                        try simp only [decide_eq_true_eq, decide_eq_false_iff_not, Bool.not_eq_true', Bool.not_eq_false', Bool.not_eq_true, Bool.not_eq_false, Bool.and_eq_true, Bool.or_eq_true, Bool.and_eq_false_iff, Bool.or_eq_false_iff, Bool.not_not, ne_eq, Int.not_lt, Int.not_le, Decidable.not_not, beq_iff_eq, bne_iff_ne] at hc11
                        refine wp_skip ?_
                        refine blk_normal ?_
                        refine then_normal ?_
                        refine c_region ?_
                        first | refine wl (wl_val hl rfl trivial (r_add hl rfl rfl (by simp only [Fits]; omega)) ?_) | refine wl (wl_val hl rfl trivial (r_addW hl rfl rfl) ?_)
                        clear hl a; intro a hl
                        refine wl (wl_val hl rfl trivial (r_move hl rfl) ?_)
                        clear hl a; intro a hl
                        refine w_nil ?_
                        have hl2 := hl.add (t := 3) (hl.add (t := 5) (hl.add (t := 23) (hl.add (t := 24) (hl.add (t := 25) (hl.nil) rfl) rfl) rfl) rfl) rfl; clear hl; have hl := hl2; clear hl2
                        refine then_normal ?_
                        refine ⟨⟨s.i + 1, (doF s.f ⟨kd2, x2, A2, B2, E2, D2⟩).f, fl2, keepF s.rs ⟨kd2, x2, A2, B2, E2, D2⟩ (doF s.f ⟨kd2, x2, A2, B2, E2, D2⟩).ans, rv2, E3⟩, (by dsimp only; omega), hI.next hi hok hI2 hR2, hl.addE (t := 25) (hl.addE (t := 3) (hl.addE (t := 5) (hl.addE (t := 23) (hl.addE (t := 24) (hl.nil) rfl (by first | rfl | rfl)) rfl (by first | rfl | rfl)) rfl (by first | rfl | rfl)) rfl (by first | rfl | rfl)) rfl (by first | rfl | rfl), (by simp only [List.cons_append, List.nil_append, List.append_nil]; exact hh.keep (by repeat (first | exact keeps_nil | apply keeps_cons (by repeat (first | exact find_head | apply find_tail)) (by first  | exact arr_obj (fun i hi => by first | (simp only [hfk, wV, updV, word_setWord]; done) | (simp only [hfk, wV, updV, word_setWord]; (repeat' split) <;> first | rfl | omega | (simp_all; done)) | (simp only [wV]; rw [hfk i hi])) | rfl) | exact keeps_self | apply keeps_mv)))⟩
    · intro hc1
      try simp only [decide_eq_true_eq, decide_eq_false_iff_not, Bool.not_eq_true', Bool.not_eq_false', Bool.not_eq_true, Bool.not_eq_false, Bool.and_eq_true, Bool.or_eq_true, Bool.and_eq_false_iff, Bool.or_eq_false_iff, Bool.not_not, ne_eq, Int.not_lt, Int.not_le, Decidable.not_not, beq_iff_eq, bne_iff_ne] at hc1
      refine wp_exit ?_
      refine then_exit ?_
      refine then_exit ?_
      refine blk_exit ?_
      refine then_normal ?_
      refine c_seq ?_
      refine c_seq ?_
      refine c_region ?_
      refine wl (wl_val hl rfl trivial (r_assign hl rfl) ?_)
      clear hl a; intro a hl
      refine w_nil ?_
      have hl2 := hl.add (t := 3) (hl.add (t := 5) (hl.add (t := 12) (hl.nil) rfl) rfl) rfl; clear hl; have hl := hl2; clear hl2
      refine then_normal ?_
      refine wp_block ?_
      obtain ⟨KS1, hKS1, hk⟩ := (hl.add (t := 3) (hl.add (t := 5) (hl.nil) rfl) rfl).name
      obtain ⟨HS1, hHS1, hh2⟩ := hh.name (keeps_nil)
      refine c_loop (α := Nat) (fun i => 4096 - i) (fun i a w => (2 ≤ i ∧ i ≤ 4096) ∧ Sl 156 ([(12, .int .u32 i)] ++ KS1) a ∧ Has _ w0 ([] ++ HS1) w) 2 ⟨⟨Nat.le_refl _, by omega⟩, hl.addE (t := 12) (hk) rfl (by first | rfl), hh2⟩ ?_
      clear hk hh2 hl hh a w
      intro i a w hI
      obtain ⟨⟨hi1, hi2⟩, hl, hh⟩ := hI
      subst hKS1; subst hHS1
      simp only [List.cons_append, List.nil_append, List.append_nil] at hl hh
      refine c_seq ?_
      refine c_seq ?_
      refine c_region ?_
      refine wl (wl_val hl rfl trivial (r_move hl rfl) ?_)
      clear hl a; intro a hl
      refine wl (wl_val hl rfl trivial (r_lss hl rfl rfl) ?_)
      clear hl a; intro a hl
      refine w_nil ?_
      have hl2 := hl.add (t := 3) (hl.add (t := 5) (hl.add (t := 12) (hl.add (t := 135) (hl.nil) rfl) rfl) rfl) rfl; clear hl; have hl := hl2; clear hl2
      refine then_normal ?_
      refine c_cond hl rfl ?_ ?_
      · intro hc12
        try simp only [decide_eq_true_eq, decide_eq_false_iff_not, Bool.not_eq_true', Bool.not_eq_false', Bool.not_eq_true, Bool.not_eq_false, Bool.and_eq_true, Bool.or_eq_true, Bool.and_eq_false_iff, Bool.or_eq_false_iff, Bool.not_not, ne_eq, Int.not_lt, Int.not_le, Decidable.not_not, beq_iff_eq, bne_iff_ne] at hc12
        refine wp_skip ?_
        refine then_normal ?_
        refine c_seq ?_
        refine wp_block ?_
        refine c_seq ?_
        refine c_region ?_
        refine wl (wl_val hl rfl trivial (r_move hl rfl) ?_)
        clear hl a; intro a hl
        refine wl (wl_val hl rfl trivial (r_nilCheck hl rfl) ?_)
        clear hl a; intro a hl
        refine wl (wl_val hl rfl trivial (r_field hl rfl fld41_0) ?_)
        clear hl a; intro a hl
        refine wl (w_load hl hh rfl trivial one38 rfl (by repeat (first | exact find_head | apply find_tail)) (by first | rfl) ?_)
        clear hl a; intro a hl
        refine wl (wl_val hl rfl trivial (r_move hl rfl) ?_)
        clear hl a; intro a hl
        refine wl (w_call hl hh rfl trivial rfl cal21 rfl (load_yes b s.f i _ rfl (by omega)) (by repeat (first | exact keeps_nil | apply keeps_cons (by repeat (first | exact find_head | apply find_tail)) (by first  | rfl) | exact keeps_self | apply keeps_mv)) trivial ?_)
        clear hl hh a w; intro vc Fc a w hR hl hh
        obtain ⟨rfl, rfl⟩ := hR
        try simp only [List.cons_append, List.nil_append] at hh
        refine wl (wl_val hl rfl trivial (r_move hl rfl) ?_)
        clear hl a; intro a hl
        refine wl (wl_val hl rfl trivial (r_extract hl rfl (by simp only [List.getElem?_toArray, List.getElem?_cons_zero, List.getElem?_cons_succ]; rfl)) ?_)
        clear hl a; intro a hl
        refine wl (wl_val hl rfl trivial (r_extract hl rfl (by simp only [List.getElem?_toArray, List.getElem?_cons_zero, List.getElem?_cons_succ]; rfl)) ?_)
        clear hl a; intro a hl
        refine wl (wl_val hl rfl trivial (r_assign hl rfl) ?_)
        clear hl a; intro a hl
        refine wl (wl_val hl rfl trivial (r_assign hl rfl) ?_)
        clear hl a; intro a hl
        refine w_nil ?_
        have hl2 := hl.add (t := 3) (hl.add (t := 5) (hl.add (t := 12) (hl.add (t := 13) (hl.add (t := 14) (hl.nil) rfl) rfl) rfl) rfl) rfl; clear hl; have hl := hl2; clear hl2
        refine then_normal ?_
        refine c_seq ?_
        refine c_region ?_
        refine wl (wl_val hl rfl trivial (r_move hl rfl) ?_)
        clear hl a; intro a hl
        refine wl (wl_val hl rfl trivial (r_neq hl rfl rfl) ?_)
        clear hl a; intro a hl
        refine wl (wl_val hl rfl trivial (r_move hl rfl) ?_)
        clear hl a; intro a hl
        refine sl_split (t := 149) hl rfl ?_ ?_
        · intro hg9; clear hl; intro hl
          try simp only [decide_eq_true_eq, decide_eq_false_iff_not, Bool.not_eq_true', Bool.not_eq_false', Bool.not_eq_true, Bool.not_eq_false, Bool.and_eq_true, Bool.or_eq_true, Bool.and_eq_false_iff, Bool.or_eq_false_iff, Bool.not_not, ne_eq, Int.not_lt, Int.not_le, Decidable.not_not, beq_iff_eq, bne_iff_ne] at hg9
          exfalso; first | omega | (simp at *; done) | (simp at *; omega)
        · intro hg9; clear hl; intro hl
          try simp only [decide_eq_true_eq, decide_eq_false_iff_not, Bool.not_eq_true', Bool.not_eq_false', Bool.not_eq_true, Bool.not_eq_false, Bool.and_eq_true, Bool.or_eq_true, Bool.and_eq_false_iff, Bool.or_eq_false_iff, Bool.not_not, ne_eq, Int.not_lt, Int.not_le, Decidable.not_not, beq_iff_eq, bne_iff_ne] at hg9
          refine wl (wl_val hl rfl ⟨_, _, rfl, rfl, rfl⟩ (r_move hl rfl) ?_)
          clear hl a; intro a hl
          refine wl (wl_val hl rfl ⟨_, _, rfl, rfl, rfl⟩ (r_move hl rfl) ?_)
          clear hl a; intro a hl
          refine wl (wl_val hl rfl ⟨_, _, rfl, rfl, rfl⟩ (r_indexA hl rfl rfl arr58 (by omega) (by omega) (by first | (simp only [Int.reduceToNat]; rfl) | exact toNat_add1 _ | exact toNat_add2 _ _ | exact toNat_emod _ _ | exact Int.toNat_natCast _ | rfl)) ?_)
          clear hl a; intro a hl
          refine wl (w_load hl hh rfl ⟨_, _, rfl, rfl, rfl⟩ one27 rfl (by repeat (first | exact find_head | apply find_tail)) (by exact arr_load (by omega)) ?_)
          clear hl a; intro a hl
          refine wl (wl_val hl rfl ⟨_, _, rfl, rfl, rfl⟩ (r_neq hl rfl rfl) ?_)
          clear hl a; intro a hl
          refine wl (wl_val hl rfl trivial (r_pickF hl rfl rfl) ?_)
          clear hl a; intro a hl
          refine w_nil ?_
          have hl2 := hl.add (t := 3) (hl.add (t := 5) (hl.add (t := 12) (hl.add (t := 155) (hl.nil) rfl) rfl) rfl) rfl; clear hl; have hl := hl2; clear hl2
          refine then_normal ?_
          refine c_cond hl rfl ?_ ?_
          · intro hc13
            try simp only [decide_eq_true_eq, decide_eq_false_iff_not, Bool.not_eq_true', Bool.not_eq_false', Bool.not_eq_true, Bool.not_eq_false, Bool.and_eq_true, Bool.or_eq_true, Bool.and_eq_false_iff, Bool.or_eq_false_iff, Bool.not_not, ne_eq, Int.not_lt, Int.not_le, Decidable.not_not, beq_iff_eq, bne_iff_ne] at hc13
            exfalso; first | omega | (simp at *; done) | (simp at *; omega)
          · intro hc13
            try simp only [decide_eq_true_eq, decide_eq_false_iff_not, Bool.not_eq_true', Bool.not_eq_false', Bool.not_eq_true, Bool.not_eq_false, Bool.and_eq_true, Bool.or_eq_true, Bool.and_eq_false_iff, Bool.or_eq_false_iff, Bool.not_not, ne_eq, Int.not_lt, Int.not_le, Decidable.not_not, beq_iff_eq, bne_iff_ne] at hc13
            refine wp_skip ?_
            refine blk_normal ?_
            refine then_normal ?_
            refine c_region ?_
            refine wl (wl_val hl rfl trivial (r_move hl rfl) ?_)
            clear hl a; intro a hl
            first | refine wl (wl_val hl rfl trivial (r_add hl rfl rfl (by simp only [Fits]; omega)) ?_) | refine wl (wl_val hl rfl trivial (r_addW hl rfl rfl) ?_)
            clear hl a; intro a hl
            refine wl (wl_val hl rfl trivial (r_assign hl rfl) ?_)
            clear hl a; intro a hl
            refine w_nil ?_
            have hl2 := hl.add (t := 3) (hl.add (t := 5) (hl.add (t := 12) (hl.nil) rfl) rfl) rfl; clear hl; have hl := hl2; clear hl2
            refine then_normal ?_
            refine ⟨i + 1, (by omega), ⟨by omega, by omega⟩, hl.addE (t := 12) (hl.addE (t := 3) (hl.addE (t := 5) (hl.nil) rfl (by first | rfl | rfl)) rfl (by first | rfl | rfl)) rfl (by first | rfl | rfl), hh.keep (by repeat (first | exact keeps_nil | apply keeps_cons (by repeat (first | exact find_head | apply find_tail)) (by first  | rfl) | exact keeps_self | apply keeps_mv))⟩
      · intro hc12
        try simp only [decide_eq_true_eq, decide_eq_false_iff_not, Bool.not_eq_true', Bool.not_eq_false', Bool.not_eq_true, Bool.not_eq_false, Bool.and_eq_true, Bool.or_eq_true, Bool.and_eq_false_iff, Bool.or_eq_false_iff, Bool.not_not, ne_eq, Int.not_lt, Int.not_le, Decidable.not_not, beq_iff_eq, bne_iff_ne] at hc12
        refine wp_exit ?_
        refine then_exit ?_
        refine then_exit ?_
        refine blk_exit ?_
        refine then_normal ?_
        refine c_seq ?_
        refine c_region ?_
        refine wl (wl_val hl rfl trivial (r_assign hl rfl) ?_)
        clear hl a; intro a hl
        refine w_nil ?_
        have hl2 := hl.add (t := 2) (hl.nil) rfl; clear hl; have hl := hl2; clear hl2
        refine then_normal ?_
        refine wp_ret ?_
        refine f_ret1 (F' := []) hl hh rfl rfl (by repeat (first | exact keeps_nil | apply keeps_cons (by repeat (first | exact find_head | apply find_tail)) (by first  | rfl) | exact keeps_self | apply keeps_mv)) ?_
        exact ⟨rfl, rfl⟩
end Go.Proofs.Qxb6500913a

import Derived.Test.Qxb6500913aFmtB2
namespace Go.Proofs.Qxb6500913aFmt
open Go.Eng
set_option linter.unusedVariables false
set_option linter.unusedSimpArgs false
theorem zero51 : zeroOk Tryf.prog 51 (.agg #[(.int .u32 0), (.int .i64 0), (.int .u64 0)]) := by unfold zeroOk; kernel_rfl
theorem bld51 : buildOk Tryf.prog 51 [(0, 1), (1, 1), (2, 1)] = true := by kernel_rfl
theorem app48 : appOk Tryf.prog 48 51 3 24 = true := by kernel_rfl
attribute [local irreducible] encL

/-! the live nodes, as they are listed -/
def lives (f : Nat → Int) (l : List Nat) : List Nat := l.filter fun x => decide (role f x = 1)
def blkV (f : Nat → Int) (x : Nat) : List Value := [.int .u32 (x : Int), .int .i64 (sz f x), .int .u64 (gen f x)]
def blkL (f : Nat → Int) (l : List Nat) : List Value := (lives f l).flatMap (blkV f)
theorem blk_yes {f : Nat → Int} {l : List Nat} {x z : Nat} (hr : role f x = 1) (hz : sz f x = z) : (lives f (l ++ [x])).length = (lives f l).length + 1 ∧ blkL f (l ++ [x]) = blkL f l ++ [.int .u32 (x : Int), .int .i64 (z : Int), .int .u64 (gen f x)] := by
  have h : lives f (l ++ [x]) = lives f l ++ [x] := by unfold lives; rw [List.filter_append, List.filter_cons_of_pos (by simp [hr])]; rfl
  unfold blkL
  rw [h, List.length_append, List.flatMap_append, ← hz]
  exact ⟨rfl, by simp [blkV]⟩
theorem blk_no {f : Nat → Int} {l : List Nat} {x : Nat} (hr : role f x ≠ 1) : (lives f (l ++ [x])).length = (lives f l).length ∧ blkL f (l ++ [x]) = blkL f l := by
  have h : lives f (l ++ [x]) = lives f l := by unfold lives; rw [List.filter_append, List.filter_cons_of_neg (by simp [hr]), List.filter_nil, List.append_nil]
  unfold blkL
  rw [h]; exact ⟨rfl, rfl⟩
theorem lives_le (f : Nat → Int) (l : List Nat) : (lives f l).length ≤ l.length := List.length_filter_le _ _
theorem blk_at (f : Nat → Int) (l : List Nat) (junk : List Value) (i : Nat) (x : Nat) (h : l[i]? = some x) : ((l.flatMap (blkV f) ++ junk).drop (0 + i * 3)).take 3 = blkV f x := by
  induction l generalizing i with
  | nil => cases h
  | cons y l ih =>
    cases i with
    | zero =>
      have : y = x := by simpa using h
      subst this
      rfl
    | succ i =>
      have h' : l[i]? = some x := by simpa using h
      have := ih i h'
      rw [List.flatMap_cons, List.append_assoc, show 0 + (i + 1) * 3 = (blkV f y).length + (0 + i * 3) by show _ = 3 + _; omega, List.drop_append]
      simp only [show (blkV f y).length + (0 + i * 3) - (blkV f y).length = 0 + i * 3 by omega]
      rw [List.drop_eq_nil_of_le (by omega), List.nil_append]
      exact this
theorem tot_take (f : Nat → Int) (q : Int) (l : List Nat) (i x : Nat) (h : l[i]? = some x) : tot f q (l.take (i + 1)) = tot f q (l.take i) + if role f x = q then sz f x else 0 := by
  rw [List.take_add_one, h, Option.toList_some, tot_snoc]
theorem tot_lives (f : Nat → Int) (l : List Nat) : tot f 1 (lives f l) = tot f 1 l := by
  induction l with
  | nil => rfl
  | cons y l ih =>
    unfold lives
    by_cases c : role f y = 1
    · rw [List.filter_cons_of_pos (by simp [c])]
      unfold tot
      rw [show tot f 1 (List.filter (fun x => decide (role f x = 1)) l) = tot f 1 l from ih]
    · rw [List.filter_cons_of_neg (by simp [c])]
      rw [show tot f 1 (y :: l) = (if role f y = 1 then sz f y else 0) + tot f 1 l from rfl, if_neg c, Int.zero_add]
      exact ih
theorem tot_bounds {f : Nat → Int} {fl : Nat → List Nat} {k : Nat} (h : Inv f fl k) (q : Int) : ∀ l : List Nat, (∀ x, x ∈ l → x < 4096) → 0 ≤ tot f q l ∧ tot f q l ≤ 32 * (l.length : Int)
  | [], _ => ⟨Int.le_refl _, by show (0 : Int) ≤ 32 * (0 : Nat); omega⟩
  | y :: l, hx => by
    have h1 := tot_bounds h q l fun x hm => hx x (List.mem_cons_of_mem _ hm)
    have h2 := h.szs y (hx y (List.mem_cons_self ..))
    show 0 ≤ (if role f y = q then sz f y else 0) + tot f q l ∧ (if role f y = q then sz f y else 0) + tot f q l ≤ 32 * ((l.length + 1 : Nat) : Int)
    split <;> omega
theorem Bk.len {f : Nat → Int} {fl : Nat → List Nat} {ns : List Nat} {k : Nat} (h : Inv f fl k) (B : Bk f ns) : ns.length ≤ 4096 ∧ ∀ x, x ∈ ns → x < 4096 := by
  obtain ⟨e, he, ht⟩ := B.tile
  obtain ⟨e', he', _, h3, _⟩ := h.fr
  have hm : ∀ x, x ∈ ns → x < 4096 := fun x hx => by have := (ht.ge x hx).2.1; omega
  have := nodup_le (m := List.range 4096) ht.nodup fun x hx => List.mem_range.2 (hm x hx)
  rw [List.length_range] at this
  exact ⟨this, hm⟩
/-- a listed node is live, and its ref is good -/
theorem Bk.liveAt {f : Nat → Int} {fl : Nat → List Nat} {ns : List Nat} {k : Nat} (h : Inv f fl k) (B : Bk f ns) {x : Nat} (hx : x ∈ lives f ns) : x < 4096 ∧ role f x = 1 ∧ 0 ≤ sz f x ∧ sz f x ≤ 32 ∧ ∃ g : Nat, gen f x = g ∧ g < 281474976710656 ∧ judgeF f (g * 65536 + x) = 0 := by
  obtain ⟨hx1, hx2⟩ := List.mem_filter.1 hx
  have hr := of_decide_eq_true hx2
  have hx4 := (B.len h).2 x hx1
  obtain ⟨s, hs⟩ := h.head x hx4 (.inl hr)
  have hg := h.gens x hx4
  have hz := h.szs x hx4
  obtain ⟨g, hgg⟩ : ∃ g : Nat, gen f x = g := ⟨(gen f x).toNat, by omega⟩
  refine ⟨hx4, hr, hz.1, hz.2, g, hgg, by omega, ?_⟩
  have m1 : (g * 65536 + x) % 65536 = x := by omega
  have m2 : (g * 65536 + x) / 65536 = g := by omega
  have hgl := hs.glo
  have hge := hs.ge
  unfold judgeF
  rw [m1, m2, if_neg (by omega), if_neg (by rw [hr]; simp), if_neg (by omega), if_neg (by rw [hr]; omega)]
theorem row_val3 {v : Value} {n : Nat} {xs : List Value} {size : Nat} {e : TypeId} {E : List (Nat × Obj)} (h : Row v n xs size e E) : ∃ p cap, v = .slice p n cap := by
  rcases h with ⟨h1, h2, _, _⟩ | ⟨b, cap, junk, h1, _⟩
  · exact ⟨none, 0, by rw [h1, h2]⟩
  · exact ⟨_, _, h1⟩
theorem Bk.sums {f : Nat → Int} {fl : Nat → List Nat} {ns : List Nat} {k : Nat} (h : Inv f fl k) (B : Bk f ns) : ∃ e : Nat, e ≤ 4096 ∧ fresh f = e ∧ 2 + tot f 1 ns + tot f 3 ns + tot f 5 ns = e ∧ (∀ q, 0 ≤ tot f q ns ∧ tot f q ns ≤ 32 * 4096) := by
  obtain ⟨e, he, ht⟩ := B.tile
  obtain ⟨e', he', _, h3, _⟩ := h.fr
  have hl := B.len h
  refine ⟨e, by omega, he, ?_, fun q => ?_⟩
  · have key : ∀ (l : List Nat) (a : Nat), Tile f a e l → (a : Int) + tot f 1 l + tot f 3 l + tot f 5 l = e := by
      intro l
      induction l with
      | nil => intro a ht; have ht : a = e := ht; show (a : Int) + 0 + 0 + 0 = e; omega
      | cons y l ih =>
        intro a ⟨h1, h2, h3, h4, h5⟩
        subst h1
        have := ih _ h5
        show (y : Int) + ((if role f y = 1 then sz f y else 0) + tot f 1 l) + ((if role f y = 3 then sz f y else 0) + tot f 3 l) + ((if role f y = 5 then sz f y else 0) + tot f 5 l) = e
        rcases h2 with r | r | r <;> rw [r] <;> simp <;> omega
    exact key ns 2 ht
  · have := tot_bounds h q ns hl.2
    omega


set_option maxHeartbeats 4000000 in
theorem blocks_spec (b : Nat) (f : Nat → Int) (fl : Nat → List Nat) (ns : List Nat) (k : Nat) (hI : Inv f fl k) (B : Bk f ns) : Sp Tryf.prog 10 #[.pointer (some ⟨b, 0, none⟩)] [(b, C (encL f) 65)] (fun v F' => ∃ lv E, Row lv (lives f ns).length (blkL f ns) 3 51 E ∧ v = lv ∧ F' = (b, C (encL f) 65) :: E) := by
  refine f_enter (args := [.pointer (some ⟨b, 0, none⟩)]) Tryf.func10 rfl Tryf.ntmps10 rfl ?_
  intro w0 w a hpre hl hh
  obtain ⟨e, hfr, htile⟩ := B.tile
  obtain ⟨e2, hfr2, hf2, hf4, hf5⟩ := hI.fr
  obtain rfl : e2 = e := by omega
  simp only [slotsFrom, Nat.reduceAdd] at hl
  refine c_seq ?_
  refine c_region ?_
  refine wl (wl_val hl rfl trivial (r_assign hl rfl) ?_)
  clear hl a; intro a hl
  refine w_nil ?_
  have hl2 := hl.add (t := 0) (hl.nil) rfl; clear hl; have hl := hl2; clear hl2
  refine then_normal ?_
  refine c_seq ?_
  refine c_region ?_
  refine wl (wl_val hl rfl trivial (r_assign hl rfl) ?_)
  clear hl a; intro a hl
  refine w_nil ?_
  have hl2 := hl.add (t := 0) (hl.add (t := 3) (hl.nil) rfl) rfl; clear hl; have hl := hl2; clear hl2
  refine then_normal ?_
  refine c_seq ?_
  refine c_seq ?_
  refine c_region ?_
  refine wl (wl_val hl rfl trivial (r_assign hl rfl) ?_)
  clear hl a; intro a hl
  refine w_nil ?_
  have hl2 := hl.add (t := 0) (hl.add (t := 3) (hl.add (t := 4) (hl.nil) rfl) rfl) rfl; clear hl; have hl := hl2; clear hl2
  refine then_normal ?_
  refine wp_block ?_
  obtain ⟨KS0, hKS0, hk⟩ := (hl.add (t := 0) (hl.nil) rfl).name
  obtain ⟨HS0, hHS0, hh2⟩ := hh.nameT (A := [(b, C (encL f) 65)]) (U := []) (keeps_cons (b := b) (by repeat (first | exact find_head | apply find_tail)) (by first | rfl) ((by repeat (first | exact keeps_nil | exact keeps_self | exact keeps_swap | apply keeps_mv))))
  refine c_loop (α := AuS × Value × List (Nat × Obj)) (fun s => e2 - s.1.a) (fun s a w => (AuI f ns e2 s.1 ∧ Row s.2.1 (lives f s.1.dn).length (blkL f s.1.dn) 3 51 s.2.2) ∧ Sl 42 ([(4, .int .u32 s.1.a), (3, s.2.1)] ++ KS0) a ∧ Has _ w0 ([(b, C (encL f) 65)] ++ (HS0 ++ s.2.2)) w) (⟨[], ns, 2⟩, .slice none 0 0, []) ⟨⟨AuI.start htile, Row.nil _ _⟩, hl.addE (t := 4) (hl.addE (t := 3) (hk) rfl (by first | rfl)) rfl (by first | rfl), (by simp only [List.append_nil]; simp only [List.append_nil] at hh2; exact hh2)⟩ ?_
  clear hk hh2 hl hh a w
  intro s a w hI
  obtain ⟨⟨hS, hrow⟩, hl, hh⟩ := hI
  subst hKS0; subst hHS0
  simp only [List.cons_append, List.nil_append, List.append_nil] at hl hh
  have hone : s.2.1.oneCell' = true := hrow.one; have hlen := hS.len; have hlv := lives_le f s.1.dn
  refine c_seq ?_
  refine c_seq ?_
  refine c_region ?_
  refine wl (wl_val hl rfl trivial (r_move hl rfl) ?_)
  clear hl a; intro a hl
  refine wl (wl_val hl rfl trivial (r_move hl rfl) ?_)
  clear hl a; intro a hl
  refine wl (wl_val hl rfl trivial (r_nilCheck hl rfl) ?_)
  clear hl a; intro a hl
  refine wl (wl_val hl rfl trivial (r_field hl rfl fld65_3) ?_)
  clear hl a; intro a hl
  refine wl (w_load hl hh rfl trivial one29 rfl (by repeat (first | exact find_head | apply find_tail)) (by exact cell_fresh _) ?_)
  clear hl a; intro a hl
  try rw [hfr] at hl
  try rw [hz.size] at hl
  refine wl (wl_val hl rfl trivial (r_lss hl rfl rfl) ?_)
  clear hl a; intro a hl
  refine w_nil ?_
  have hl2 := hl.add (t := 0) (hl.add (t := 3) (hl.add (t := 4) (hl.add (t := 11) (hl.nil) rfl) rfl) rfl) rfl; clear hl; have hl := hl2; clear hl2
  refine then_normal ?_
  refine c_cond hl rfl ?_ ?_
  · intro hc0
    try simp only [decide_eq_true_eq, decide_eq_false_iff_not, Bool.not_eq_true', Bool.not_eq_false', Bool.not_eq_true, Bool.not_eq_false, Bool.and_eq_true, Bool.or_eq_true, Bool.and_eq_false_iff, Bool.or_eq_false_iff, Bool.not_not, ne_eq, Int.not_lt, Int.not_le, Decidable.not_not, beq_iff_eq, bne_iff_ne] at hc0
    obtain ⟨l, hl1, hr, hl3⟩ := hS.open (by omega)
    have hx : s.1.a < 4096 := by omega
    obtain ⟨z, hz, hbd⟩ := B.nodeAt hI hx hr
    have hzl := hz.lo; have hzh := hz.hi; have hzt := hz.le
    refine wp_skip ?_
    refine then_normal ?_
    refine c_seq ?_
    refine wp_block ?_
    refine c_seq ?_
    refine c_region ?_
    refine wl (wl_val hl rfl trivial (r_move hl rfl) ?_)
    clear hl a; intro a hl
    refine wl (wl_val hl rfl trivial (r_move hl rfl) ?_)
    clear hl a; intro a hl
    refine wl (wl_val hl rfl trivial (r_nilCheck hl rfl) ?_)
    clear hl a; intro a hl
    refine wl (wl_val hl rfl trivial (r_field hl rfl fld65_1) ?_)
    clear hl a; intro a hl
    refine wl (wl_val hl rfl trivial (r_indexA hl rfl rfl arr62 (by omega) (by omega) (by first | (simp only [Int.reduceToNat]; rfl) | exact toNat_add1 _ | exact toNat_add2 _ _ | exact toNat_emod _ _ | exact Int.toNat_natCast _ | rfl)) ?_)
    clear hl a; intro a hl
    refine wl (w_loadA hl hh rfl trivial agg61 rfl (by repeat (first | exact find_head | apply find_tail)) (by exact (cell_book f s.1.a (by omega)).trans (by rw [hz.size])) (by rfl) ?_)
    clear hl a; intro a hl
    try rw [hfr] at hl
    try rw [hz.size] at hl
    refine wl (w_alloc hl hh rfl trivial zero61 rfl ?_)
    clear hl hh a w; intro k5 a w hl hh
    refine wl (w_storeA hl hh trivial agg61 rfl rfl (by repeat (first | exact find_head | apply find_tail)) (by first | rfl | (simp; done)) (by first | (simp; done) | (simp; omega)) (by first | rfl | (simp; done)) (by first | (simp only [setL, List.getElem?_cons_zero, List.getElem?_cons_succ, Value.cells, List.take_zero, List.take_succ_cons, List.take_nil, List.drop_zero, List.drop_succ_cons, List.drop_nil, List.length_cons, List.length_nil, List.cons_append, List.nil_append, List.append_nil, Nat.zero_add, Nat.add_zero, Nat.reduceAdd, Nat.reduceBEq, Nat.reduceEqDiff, Nat.ble, BEq.rfl, Bool.and_true, Bool.and_self, cond_true, beq_self_eq_true]; rfl)) ?_)
    clear hh w; intro w hh
    refine w_nil ?_
    have hl2 := hl.add (t := 0) (hl.add (t := 3) (hl.add (t := 4) (hl.add (t := 5) (hl.nil) rfl) rfl) rfl) rfl; clear hl; have hl := hl2; clear hl2
    refine then_normal ?_
    refine c_seq ?_
    refine c_region ?_
    refine wl (wl_val hl rfl trivial (r_field hl rfl fld61_3) ?_)
    clear hl a; intro a hl
    refine wl (w_load hl hh rfl trivial one59 rfl (by repeat (first | exact find_head | apply find_tail)) (by first | rfl) ?_)
    clear hl a; intro a hl
    refine wl (wl_val hl rfl trivial (r_eql hl rfl rfl) ?_)
    clear hl a; intro a hl
    refine w_nil ?_
    have hl2 := hl.add (t := 0) (hl.add (t := 3) (hl.add (t := 4) (hl.add (t := 5) (hl.add (t := 30) (hl.nil) rfl) rfl) rfl) rfl) rfl; clear hl; have hl := hl2; clear hl2
    refine then_normal ?_
    refine c_cond hl rfl ?_ ?_
    · intro hc1
      try simp only [decide_eq_true_eq, decide_eq_false_iff_not, Bool.not_eq_true', Bool.not_eq_false', Bool.not_eq_true, Bool.not_eq_false, Bool.and_eq_true, Bool.or_eq_true, Bool.and_eq_false_iff, Bool.or_eq_false_iff, Bool.not_not, ne_eq, Int.not_lt, Int.not_le, Decidable.not_not, beq_iff_eq, bne_iff_ne] at hc1
      refine c_region ?_
      refine wl (wl_val hl rfl trivial (r_move hl rfl) ?_)
      clear hl a; intro a hl
      refine wl (wl_val hl rfl trivial (r_move hl rfl) ?_)
      clear hl a; intro a hl
      refine wl (wl_val hl rfl trivial (r_field hl rfl fld61_2) ?_)
      clear hl a; intro a hl
      refine wl (w_load hl hh rfl trivial one5 rfl (by repeat (first | exact find_head | apply find_tail)) (by first | rfl) ?_)
      clear hl a; intro a hl
      first | refine wl (wl_val hl rfl trivial (r_conv hl rfl Tryf.underlying5 Tryf.underlying3 (by simp only [Fits]; omega)) ?_) | refine wl (wl_val hl rfl trivial (r_convW hl rfl Tryf.underlying5 Tryf.underlying3) ?_)
      clear hl a; intro a hl
      refine wl (wl_val hl rfl trivial (r_field hl rfl fld61_0) ?_)
      clear hl a; intro a hl
      refine wl (w_load hl hh rfl trivial one30 rfl (by repeat (first | exact find_head | apply find_tail)) (by first | rfl) ?_)
      clear hl a; intro a hl
      refine wl (wl_val hl rfl trivial (r_build hl rfl zero51 bld51 (by simp only [fillL, setL, List.getElem?_cons_zero, List.getElem?_cons_succ, Value.cells, List.take_zero, List.take_succ_cons, List.take_nil, List.drop_zero, List.drop_succ_cons, List.drop_nil, List.length_cons, List.length_nil, List.cons_append, List.nil_append, List.append_nil, Nat.zero_add, Nat.add_zero, Nat.reduceAdd, Nat.reduceBEq, Nat.reduceEqDiff, Nat.ble, BEq.rfl, Bool.and_true, Bool.and_self, cond_true, beq_self_eq_true]; rfl)) ?_)
      clear hl a; intro a hl
      refine wl (w_buildSlice hl hh rfl trivial app48 zero51 rfl rfl rfl rfl rfl (by simp only [fillL, arrPl, List.range_succ, List.range_zero, List.map_cons, List.map_nil, List.map_append, List.nil_append, List.replicate_succ, List.replicate_zero, List.flatten_cons, List.flatten_nil, Nat.zero_mul, Nat.mul_one, Nat.one_mul, Nat.reduceMul, setL, List.getElem?_cons_zero, List.getElem?_cons_succ, Value.cells, List.take_zero, List.take_succ_cons, List.take_nil, List.drop_zero, List.drop_succ_cons, List.drop_nil, List.length_cons, List.length_nil, List.cons_append, List.nil_append, List.append_nil, Nat.zero_add, Nat.add_zero, Nat.reduceAdd, Nat.reduceBEq, Nat.reduceEqDiff, Nat.ble, BEq.rfl, Bool.and_true, Bool.and_self, cond_true, beq_self_eq_true]; rfl) ?_)
      clear hl hh a w; intro k39 a w hl hh
      refine wl (w_append (news := [.int .u32 (s.1.a : Int), .int .i64 (z : Int), .int .u64 (gen f s.1.a)]) hl hh rfl trivial app48 rfl rfl rfl hrow (by repeat (first | exact keeps_nil | apply keeps_cons (by repeat (first | exact find_head | apply find_tail)) (by first  | rfl) | exact keeps_self | exact keeps_left | exact keeps_right | exact keeps_swap | apply keeps_mv)) (hh.mem _ _ (Find.mem (by repeat (first | exact find_head | apply find_tail)))) rfl rfl rfl (by omega) (by omega) (by omega) (by decide) ?_)
      clear hl hh a w; intro rv2 E2 a w hR2 hl hh
      have hh3 := hh.comm; clear hh; have hh := hh3; clear hh3
      simp only [List.cons_append, List.nil_append] at hh
      refine wl (wl_val hl rfl trivial (r_assign hl rfl) ?_)
      clear hl a; intro a hl
      refine w_nil ?_
      have hl2 := hl.add (t := 0) (hl.add (t := 3) (hl.add (t := 4) (hl.nil) rfl) rfl) rfl; clear hl; have hl := hl2; clear hl2
      obtain ⟨hn1, hn2⟩ := blk_yes (l := s.1.dn) (f := f) (x := s.1.a) (by assumption) hz.size
      have hR3 : Row rv2 (lives f (s.1.dn ++ [s.1.a])).length (blkL f (s.1.dn ++ [s.1.a])) 3 51 E2 := by rw [hn1, hn2]; exact hR2
      refine blk_normal ?_
      refine then_normal ?_
      refine c_region ?_
      refine wl (wl_val hl rfl trivial (r_move hl rfl) ?_)
      clear hl a; intro a hl
      refine wl (wl_val hl rfl trivial (r_move hl rfl) ?_)
      clear hl a; intro a hl
      refine wl (wl_val hl rfl trivial (r_move hl rfl) ?_)
      clear hl a; intro a hl
      refine wl (wl_val hl rfl trivial (r_nilCheck hl rfl) ?_)
      clear hl a; intro a hl
      refine wl (wl_val hl rfl trivial (r_field hl rfl fld65_1) ?_)
      clear hl a; intro a hl
      refine wl (wl_val hl rfl trivial (r_indexA hl rfl rfl arr62 (by omega) (by omega) (by first | (simp only [Int.reduceToNat]; rfl) | exact toNat_add1 _ | exact toNat_add2 _ _ | exact toNat_emod _ _ | exact Int.toNat_natCast _ | rfl)) ?_)
      clear hl a; intro a hl
      refine wl (wl_val hl rfl trivial (r_field hl rfl fld61_2) ?_)
      clear hl a; intro a hl
      refine wl (w_load hl hh rfl trivial one5 rfl (by repeat (first | exact find_head | apply find_tail)) (by exact cell_sz _ _ (by omega)) ?_)
      clear hl a; intro a hl
      try rw [hfr] at hl
      try rw [hz.size] at hl
      first | refine wl (wl_val hl rfl trivial (r_conv hl rfl Tryf.underlying5 Tryf.underlying29 (by simp only [Fits]; omega)) ?_) | refine wl (wl_val hl rfl trivial (r_convW hl rfl Tryf.underlying5 Tryf.underlying29) ?_)
      clear hl a; intro a hl
      first | refine wl (wl_val hl rfl trivial (r_add hl rfl rfl (by simp only [Fits]; omega)) ?_) | refine wl (wl_val hl rfl trivial (r_addW hl rfl rfl) ?_)
      clear hl a; intro a hl
      refine wl (wl_val hl rfl trivial (r_assign hl rfl) ?_)
      clear hl a; intro a hl
      refine w_nil ?_
      have hl2 := hl.add (t := 0) (hl.add (t := 3) (hl.add (t := 4) (hl.nil) rfl) rfl) rfl; clear hl; have hl := hl2; clear hl2
      refine then_normal ?_
      refine ⟨(⟨s.1.dn ++ [s.1.a], l, s.1.a + z⟩, rv2, E2), (by show e2 - (s.1.a + z) < e2 - s.1.a; omega), ⟨hS.next hl1 hz.size (by omega) hl3, hR3⟩, hl.addE (t := 4) (hl.addE (t := 3) (hl.addE (t := 0) (hl.nil) rfl (by first | rfl | rfl)) rfl (by first | rfl | rfl)) rfl (by first | rfl | rfl), hh.keep (by repeat (first | exact keeps_nil | apply keeps_cons (by repeat (first | exact find_head | apply find_tail)) (by first  | rfl) | exact keeps_self | exact keeps_left | exact keeps_right | exact keeps_swap | apply keeps_mv))⟩
    · intro hc1
      try simp only [decide_eq_true_eq, decide_eq_false_iff_not, Bool.not_eq_true', Bool.not_eq_false', Bool.not_eq_true, Bool.not_eq_false, Bool.and_eq_true, Bool.or_eq_true, Bool.and_eq_false_iff, Bool.or_eq_false_iff, Bool.not_not, ne_eq, Int.not_lt, Int.not_le, Decidable.not_not, beq_iff_eq, bne_iff_ne] at hc1
      obtain ⟨hn1, hn2⟩ := blk_no (l := s.1.dn) (f := f) (x := s.1.a) (by assumption)
      have hR3 := hrow
      rw [← hn1, ← hn2] at hR3
      have hrv2 : ∃ rv2, rv2 = s.2.1 := ⟨_, rfl⟩
      obtain ⟨rv2, hrv2⟩ := hrv2
      have hE2 : ∃ E2, E2 = s.2.2 := ⟨_, rfl⟩
      obtain ⟨E2, hE2⟩ := hE2
      rw [← hrv2, ← hE2] at hR3
      rw [← hrv2] at hl
      rw [← hE2] at hh
      refine wp_skip ?_
      refine blk_normal ?_
      refine then_normal ?_
      refine c_region ?_
      refine wl (wl_val hl rfl trivial (r_move hl rfl) ?_)
      clear hl a; intro a hl
      refine wl (wl_val hl rfl trivial (r_move hl rfl) ?_)
      clear hl a; intro a hl
      refine wl (wl_val hl rfl trivial (r_move hl rfl) ?_)
      clear hl a; intro a hl
      refine wl (wl_val hl rfl trivial (r_nilCheck hl rfl) ?_)
      clear hl a; intro a hl
      refine wl (wl_val hl rfl trivial (r_field hl rfl fld65_1) ?_)
      clear hl a; intro a hl
      refine wl (wl_val hl rfl trivial (r_indexA hl rfl rfl arr62 (by omega) (by omega) (by first | (simp only [Int.reduceToNat]; rfl) | exact toNat_add1 _ | exact toNat_add2 _ _ | exact toNat_emod _ _ | exact Int.toNat_natCast _ | rfl)) ?_)
      clear hl a; intro a hl
      refine wl (wl_val hl rfl trivial (r_field hl rfl fld61_2) ?_)
      clear hl a; intro a hl
      refine wl (w_load hl hh rfl trivial one5 rfl (by repeat (first | exact find_head | apply find_tail)) (by exact cell_sz _ _ (by omega)) ?_)
      clear hl a; intro a hl
      try rw [hfr] at hl
      try rw [hz.size] at hl
      first | refine wl (wl_val hl rfl trivial (r_conv hl rfl Tryf.underlying5 Tryf.underlying29 (by simp only [Fits]; omega)) ?_) | refine wl (wl_val hl rfl trivial (r_convW hl rfl Tryf.underlying5 Tryf.underlying29) ?_)
      clear hl a; intro a hl
      first | refine wl (wl_val hl rfl trivial (r_add hl rfl rfl (by simp only [Fits]; omega)) ?_) | refine wl (wl_val hl rfl trivial (r_addW hl rfl rfl) ?_)
      clear hl a; intro a hl
      refine wl (wl_val hl rfl trivial (r_assign hl rfl) ?_)
      clear hl a; intro a hl
      refine w_nil ?_
      have hl2 := hl.add (t := 0) (hl.add (t := 3) (hl.add (t := 4) (hl.nil) rfl) rfl) rfl; clear hl; have hl := hl2; clear hl2
      refine then_normal ?_
      refine ⟨(⟨s.1.dn ++ [s.1.a], l, s.1.a + z⟩, rv2, E2), (by show e2 - (s.1.a + z) < e2 - s.1.a; omega), ⟨hS.next hl1 hz.size (by omega) hl3, hR3⟩, hl.addE (t := 4) (hl.addE (t := 3) (hl.addE (t := 0) (hl.nil) rfl (by first | rfl | rfl)) rfl (by first | rfl | rfl)) rfl (by first | rfl | rfl), hh.keep (by repeat (first | exact keeps_nil | apply keeps_cons (by repeat (first | exact find_head | apply find_tail)) (by first  | rfl) | exact keeps_self | exact keeps_left | exact keeps_right | exact keeps_swap | apply keeps_mv))⟩
  · intro hc0
    try simp only [decide_eq_true_eq, decide_eq_false_iff_not, Bool.not_eq_true', Bool.not_eq_false', Bool.not_eq_true, Bool.not_eq_false, Bool.and_eq_true, Bool.or_eq_true, Bool.and_eq_false_iff, Bool.or_eq_false_iff, Bool.not_not, ne_eq, Int.not_lt, Int.not_le, Decidable.not_not, beq_iff_eq, bne_iff_ne] at hc0
    obtain ⟨hae, hdn⟩ := hS.done (by omega)
    rw [hdn] at hrow
    refine wp_exit ?_
    refine then_exit ?_
    refine then_exit ?_
    refine blk_exit ?_
    refine then_normal ?_
    refine c_seq ?_
    refine c_region ?_
    refine wl (wl_val hl rfl trivial (r_move hl rfl) ?_)
    clear hl a; intro a hl
    refine wl (wl_val hl rfl trivial (r_assign hl rfl) ?_)
    clear hl a; intro a hl
    refine w_nil ?_
    have hl2 := hl.add (t := 2) (hl.nil) rfl; clear hl; have hl := hl2; clear hl2
    refine then_normal ?_
    refine wp_ret ?_
    refine f_ret1 (F' := (b, C (encL f) 65) :: s.2.2) hl hh rfl rfl (by repeat (first | exact keeps_nil | apply keeps_cons (by repeat (first | exact find_head | apply find_tail)) (by first  | rfl) | exact keeps_self | exact keeps_left | exact keeps_right | exact keeps_swap | apply keeps_mv)) ?_
    exact ⟨s.2.1, s.2.2, hrow, rfl, rfl⟩
end Go.Proofs.Qxb6500913aFmt

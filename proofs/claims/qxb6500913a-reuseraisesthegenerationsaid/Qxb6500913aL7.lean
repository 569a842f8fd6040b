import Derived.Test.Qxb6500913aPs
namespace Go.Proofs.Qxb6500913a
open Go.Eng
set_option linter.unusedVariables false
set_option linter.unusedSimpArgs false
theorem cal22 : callable Try.prog 22 = true := by kernel_rfl
theorem zero4 : zeroOk Try.prog 4 (.bool false) := by unfold zeroOk; kernel_rfl
theorem cal28 : callable Try.prog 28 = true := by kernel_rfl
attribute [local irreducible] encL

/-- the tag that the memory tells of a cell -/
def tG (f : Nat → Int) (c : Nat) : Int := if c < 2 then 0 else gen f c
def tV (f : Nat → Int) : Nat → Value := fun c => .int .u64 (tG f c)
def tTo (f : Nat → Int) (i : Nat) : Nat → Value := fun c => .int .u64 (if c < i then tG f c else 0)
def tIn (f f' : Nat → Int) (x i : Nat) : Nat → Value := fun c => .int .u64 (if x ≤ c ∧ c < i then gen f' c else tG f c)
set_option maxRecDepth 20000 in
theorem zero58 : zeroOk Try.prog 58 (.agg ⟨arrL 4096 (fun _ => .int .u64 0)⟩) := by unfold zeroOk; kernel_rfl
theorem tTo_zero (f : Nat → Int) : C (arrL 4096 (fun _ => .int .u64 0)) 58 = C (arrL 4096 (tTo f 0)) 58 := arr_obj fun i hi => by
  simp only [tTo]; rw [if_neg (by omega)]
theorem tTo_succ (f : Nat → Int) (i : Nat) : C (arrL 4096 (updV (tTo f i) i (.int .u64 (tG f i)))) 58 = C (arrL 4096 (tTo f (i + 1))) 58 := arr_obj fun c hc => by
  simp only [tTo, updV]
  by_cases e : c = i
  · rw [if_pos e, e, if_pos (by omega)]
  · rw [if_neg e]
    by_cases e2 : c < i
    · rw [if_pos e2, if_pos (by omega)]
    · rw [if_neg e2, if_neg (by omega)]
theorem tTo_all (f : Nat → Int) {i : Nat} (h : 4096 ≤ i) : C (arrL 4096 (tTo f i)) 58 = C (arrL 4096 (tV f)) 58 := arr_obj fun c hc => by
  simp only [tTo, tV]; rw [if_pos (by omega)]
theorem tIn_zero (f f' : Nat → Int) (x : Nat) : C (arrL 4096 (tV f)) 58 = C (arrL 4096 (tIn f f' x x)) 58 := arr_obj fun c hc => by
  simp only [tIn, tV]; rw [if_neg (by omega)]
theorem tIn_succ (f f' : Nat → Int) (x i : Nat) (h : x ≤ i) : C (arrL 4096 (updV (tIn f f' x i) i (.int .u64 (gen f' i)))) 58 = C (arrL 4096 (tIn f f' x (i + 1))) 58 := arr_obj fun c hc => by
  simp only [tIn, updV]
  by_cases e : c = i
  · rw [if_pos e, e, if_pos (by omega)]
  · rw [if_neg e]
    by_cases e2 : x ≤ c ∧ c < i
    · rw [if_pos e2, if_pos (by omega)]
    · rw [if_neg e2, if_neg (by omega)]
theorem tIn_all {f f' : Nat → Int} {fl fl' : Nat → List Nat} {x s i : Nat} (h : AllocOk f f' fl fl' x s) (hi : i = x + s) : C (arrL 4096 (tIn f f' x i)) 58 = C (arrL 4096 (tV f')) 58 := arr_obj fun c hc => by
  subst hi
  have h1 := h.x1
  have h2 := h.gn c hc
  simp only [tIn, tV, tG]
  by_cases e : x ≤ c ∧ c < x + s
  · rw [if_pos e, if_neg (by omega)]
  · rw [if_neg e] at h2 ⊢
    rw [h2]
theorem tV_same {f f' : Nat → Int} (h : ∀ c, c < 4096 → gen f' c = gen f c) : C (arrL 4096 (tV f)) 58 = C (arrL 4096 (tV f')) 58 := arr_obj fun c hc => by
  simp only [tV, tG]; rw [h c hc]
theorem tIn_at {f f' : Nat → Int} {fl fl' : Nat → List Nat} {x s i : Nat} (h : AllocOk f f' fl fl' x s) (h1 : x ≤ i) (h2 : i < x + s) : tIn f f' x i i = .int .u64 (gen f x) ∧ gen f' i = gen f x + 1 := by
  have hx := h.x1
  have hs := h.xs
  refine ⟨?_, ?_⟩
  · simp only [tIn, tG]; rw [if_neg (by omega), if_neg (by omega), (h.cells i h1 h2).1]
  · rw [h.gn i (by omega), if_pos ⟨h1, h2⟩]
theorem gen_tV (b : Nat) (f : Nat → Int) (x : Nat) (X : Int) (hX : X = x) (h : x < 4096) : ∃ st : Int, Sp Try.prog 22 #[.pointer (some ⟨b, 0, none⟩), .int .u32 X] [(b, C (encL f) 87)] (fun v F' => v = .tuple #[.int .u64 (tG f x), .int .u8 st] ∧ F' = [(b, C (encL f) 87)]) := by
  subst hX
  have := gen_spec b f x
  by_cases c : 2 ≤ x ∧ x < 4096
  · rw [if_pos c] at this
    refine ⟨0, ?_⟩
    rw [tG, if_neg (by omega)]
    exact this
  · rw [if_neg c] at this
    refine ⟨1, ?_⟩
    rw [tG, if_pos (by omega)]
    exact this
theorem gen_yes (b : Nat) (f : Nat → Int) (x : Nat) (X : Int) (hX : X = x) (h : 2 ≤ x ∧ x < 4096) : Sp Try.prog 22 #[.pointer (some ⟨b, 0, none⟩), .int .u32 X] [(b, C (encL f) 87)] (fun v F' => v = .tuple #[.int .u64 (gen f x), .int .u8 0] ∧ F' = [(b, C (encL f) 87)]) := by
  subst hX
  have := gen_spec b f x
  rw [if_pos h] at this
  exact this
theorem doF_gens {f : Nat → Int} {fl : Nat → List Nat} {k : Nat} (hI : Inv f fl k) (o : MOp) (h : ¬ (o.kd = 5 ∧ (doF f o).ans.st = 0)) : ∀ c, c < 4096 → gen (doF f o).f c = gen f c := by
  by_cases h6 : o.kd = 6 ∧ (doF f o).ans.st = 0
  · obtain ⟨e1, e2⟩ := doF_free f o h6.1
    have hj : judgeF f o.a = 0 := by rw [← freeF_st0]; have := h6.2; rw [e2] at this; exact this
    obtain ⟨_, s, fl', _, hF⟩ := hI.freeOk o.a hj
    rw [e1]
    exact hF.gn
  · exact (doF_sameBut f o (fun e => fun z => h ⟨e, z⟩) (fun e => fun z => h6 ⟨e, z⟩)).gen
/-- the refs seen so far -/
structure J7 (f : Nat → Int) (l : List (Int × Value)) : Prop where
  at_ : ∀ r : Nat, (mget l (r : Int)).getD (.bool false) = .bool false ∨ (r % 65536 < 4096 ∧ ((r / 65536 : Nat) : Int) ≤ gen f (r % 65536))
theorem J7.start (f : Nat → Int) : J7 f [] := ⟨fun r => .inl rfl⟩
theorem J7.same {f f' : Nat → Int} {l : List (Int × Value)} (h : J7 f l) (e : ∀ c, c < 4096 → gen f' c = gen f c) : J7 f' l := ⟨fun r => (h.at_ r).imp id (fun q => ⟨q.1, by rw [e _ q.1]; exact q.2⟩)⟩
theorem J7.new {f f' : Nat → Int} {fl fl' : Nat → List Nat} {l : List (Int × Value)} {x s r0 : Nat} (h : J7 f l) (e : AllocOk f f' fl fl' x s) (hr0 : r0 = ((gen f x).toNat + 1) * 65536 + x) : (mget l (r0 : Int)).getD (.bool false) = .bool false := by
  have hg := e.g0
  have hx := e.xs
  have hs := e.s1
  obtain ⟨p1, p2⟩ := ref_parts (by omega) hr0
  rcases h.at_ r0 with q | q
  · exact q
  · have q2 := q.2
    rw [p1, p2] at q2
    omega
theorem J7.alloc {f f' : Nat → Int} {fl fl' : Nat → List Nat} {l : List (Int × Value)} {x s r0 : Nat} (h : J7 f l) (e : AllocOk f f' fl fl' x s) (hr0 : r0 = ((gen f x).toNat + 1) * 65536 + x) : J7 f' (mput l (r0 : Int) (.bool true)) := ⟨fun r => by
  have hg := e.g0
  have hx := e.xs
  have hs := e.s1
  obtain ⟨p1, p2⟩ := ref_parts (by omega) hr0
  rw [mget_mput]
  by_cases c : r = r0
  · rw [if_pos (by omega)]
    subst c
    refine .inr ⟨by omega, ?_⟩
    rw [p1, p2, e.gn x (by omega), if_pos (by omega)]
    omega
  · rw [if_neg (by omega)]
    refine (h.at_ r).imp id (fun q => ⟨q.1, ?_⟩)
    rw [e.gn _ q.1]
    have q2 := q.2
    split
    · rename_i hin
      rw [(e.cells _ hin.1 hin.2).1] at q2
      omega
    · exact q2⟩


set_option maxHeartbeats 1000000 in
theorem law7 (sb : Nat) (c : List Value) (T : TypeId) (fr : Nat × Nat) (p : Option Addr) (n cap : Nat) (ops : List MOp) (hn : n = ops.length) (hlen : n ≤ 9223372036854775807) (h : Ops sb c p cap ops) : SpK Try.prog 7 #[.slice p n cap] (OpsIn sb c T fr ops) [] (fun v F' => v = .bool true ∧ F' = []) := by
  refine f_enter (args := [.slice p n cap]) Try.func7 rfl Try.ntmps7 rfl ?_
  intro w0 w a hpre hl hh
  simp only [slotsFrom, Nat.reduceAdd] at hl
  refine c_seq ?_
  refine c_region ?_
  refine wl (wl_val hl rfl trivial (r_assign hl rfl) ?_)
  clear hl a; intro a hl
  refine w_nil ?_
  have hl2 := hl.add (t := 0) (hl.nil) rfl; clear hl; have hl := hl2; clear hl2
  refine then_normal ?_
  refine c_seq ?_
  refine c_seq ?_
  refine c_region ?_
  refine wl (wl_val hl rfl trivial (r_move hl rfl) ?_)
  clear hl a; intro a hl
  refine wl (w_call hl hh rfl trivial rfl cal12 rfl (small_spec p n cap hlen) (by repeat (first | exact keeps_nil | apply keeps_cons (by repeat (first | exact find_head | apply find_tail)) (by first  | rfl) | exact keeps_self | apply keeps_mv)) trivial ?_)
  clear hl hh a w; intro vc Fc a w hR hl hh
  obtain ⟨rfl, rfl⟩ := hR
  try simp only [List.cons_append, List.nil_append] at hh
  refine wl (wl_val hl rfl trivial (r_not hl rfl) ?_)
  clear hl a; intro a hl
  refine w_nil ?_
  have hl2 := hl.add (t := 0) (hl.add (t := 22) (hl.nil) rfl) rfl; clear hl; have hl := hl2; clear hl2
  refine then_normal ?_
  refine c_cond hl rfl ?_ ?_
  · intro hc0
    try simp only [decide_eq_true_eq, decide_eq_false_iff_not, Bool.not_eq_true', Bool.not_eq_false', Bool.not_eq_true, Bool.not_eq_false, Bool.and_eq_true, Bool.or_eq_true, Bool.and_eq_false_iff, Bool.or_eq_false_iff, Bool.not_not, ne_eq, Int.not_lt, Int.not_le, Decidable.not_not, beq_iff_eq, bne_iff_ne] at hc0
    refine c_seq ?_
    refine c_region ?_
    refine wl (wl_val hl rfl trivial (r_assign hl rfl) ?_)
    clear hl a; intro a hl
    refine w_nil ?_
    have hl2 := hl.add (t := 2) (hl.nil) rfl; clear hl; have hl := hl2; clear hl2
    refine then_normal ?_
    refine wp_ret ?_
    refine then_ret ?_
    refine f_ret1 (F' := []) hl hh rfl rfl (by repeat (first | exact keeps_nil | apply keeps_cons (by repeat (first | exact find_head | apply find_tail)) (by first  | rfl) | exact keeps_self | apply keeps_mv)) ?_
    exact ⟨rfl, rfl⟩
  · intro hc0
    try simp only [decide_eq_true_eq, decide_eq_false_iff_not, Bool.not_eq_true', Bool.not_eq_false', Bool.not_eq_true, Bool.not_eq_false, Bool.and_eq_true, Bool.or_eq_true, Bool.and_eq_false_iff, Bool.or_eq_false_iff, Bool.not_not, ne_eq, Int.not_lt, Int.not_le, Decidable.not_not, beq_iff_eq, bne_iff_ne] at hc0
    refine wp_skip ?_
    refine then_normal ?_
    refine c_seq ?_
    refine c_region ?_
    refine wl (wl_val hl rfl trivial (r_move hl rfl) ?_)
    clear hl a; intro a hl
    refine wl (w_call hl hh rfl trivial rfl cal13 rfl (start_spec sb c T fr p n cap ops hn h) (by repeat (first | exact keeps_nil | apply keeps_cons (by repeat (first | exact find_head | apply find_tail)) (by first  | rfl) | exact keeps_self | apply keeps_mv)) (OpsIn.keep (fun b hb => hh.frm.block b hb (by simp)) hpre) ?_)
    clear hl hh a w; intro vc Fc a w hR hl hh
    obtain ⟨gb, b, p2, n2, cap2, steps, G, hn2, rfl, hO, hst, hG0, hG1, rfl⟩ := hR
    try simp only [List.cons_append, List.nil_append] at hh
    refine wl (wl_val hl rfl trivial (r_move hl rfl) ?_)
    clear hl a; intro a hl
    refine wl (wl_val hl rfl trivial (r_extract hl rfl (by simp only [List.getElem?_toArray, List.getElem?_cons_zero, List.getElem?_cons_succ]; rfl)) ?_)
    clear hl a; intro a hl
    refine wl (wl_val hl rfl trivial (r_extract hl rfl (by simp only [List.getElem?_toArray, List.getElem?_cons_zero, List.getElem?_cons_succ]; rfl)) ?_)
    clear hl a; intro a hl
    refine wl (wl_val hl rfl trivial (r_assign hl rfl) ?_)
    clear hl a; intro a hl
    refine wl (wl_val hl rfl trivial (r_assign hl rfl) ?_)
    clear hl a; intro a hl
    refine w_nil ?_
    have hl2 := hl.add (t := 3) (hl.add (t := 4) (hl.nil) rfl) rfl; clear hl; have hl := hl2; clear hl2
    refine then_normal ?_
    refine c_seq ?_
    refine c_region ?_
    refine wl (w_alloc hl hh rfl trivial zero58 rfl ?_)
    clear hl hh a w; intro k5 a w hl hh
    refine w_nil ?_
    have hl2 := hl.add (t := 3) (hl.add (t := 4) (hl.add (t := 5) (hl.nil) rfl) rfl) rfl; clear hl; have hl := hl2; clear hl2
    refine then_normal ?_
    refine c_seq ?_
    refine c_seq ?_
    refine c_region ?_
    refine wl (wl_val hl rfl trivial (r_move hl rfl) ?_)
    clear hl a; intro a hl
    refine w_nil ?_
    have hl2 := hl.add (t := 3) (hl.add (t := 4) (hl.add (t := 5) (hl.add (t := 28) (hl.nil) rfl) rfl) rfl) rfl; clear hl; have hl := hl2; clear hl2
    refine then_normal ?_
    refine wp_block ?_
    obtain ⟨KS0, hKS0, hk⟩ := (hl.add (t := 3) (hl.add (t := 4) (hl.add (t := 5) (hl.nil) rfl) rfl) rfl).name
    obtain ⟨HS0, hHS0, hh2⟩ := hh.name (keeps_cons (b := k5) (o' := C (arrL 4096 (tTo (initF G) 0)) 58) (by repeat (first | exact find_head | apply find_tail)) (by first | exact tTo_zero _ | rfl) (keeps_nil))
    refine c_loop (α := Nat) (fun i => 4096 - i) (fun i a w => (i ≤ 4096) ∧ Sl 140 ([(28, .int .i64 i)] ++ KS0) a ∧ Has _ w0 ([(k5, C (arrL 4096 (tTo (initF G) i)) 58)] ++ HS0) w) 0 ⟨(by omega), hl.addE (t := 28) (hk) rfl (by first | rfl), hh2⟩ ?_
    clear hk hh2 hl hh a w
    intro i a w hI
    obtain ⟨hi2, hl, hh⟩ := hI
    subst hKS0; subst hHS0
    simp only [List.cons_append, List.nil_append, List.append_nil] at hl hh
    refine c_seq ?_
    refine c_region ?_
    refine wl (wl_val hl rfl trivial (r_lss hl rfl rfl) ?_)
    clear hl a; intro a hl
    refine w_nil ?_
    have hl2 := hl.add (t := 3) (hl.add (t := 4) (hl.add (t := 5) (hl.add (t := 28) (hl.add (t := 29) (hl.nil) rfl) rfl) rfl) rfl) rfl; clear hl; have hl := hl2; clear hl2
    refine then_normal ?_
    refine c_seq ?_
    refine c_cond hl rfl ?_ ?_
    · intro hc1
      try simp only [decide_eq_true_eq, decide_eq_false_iff_not, Bool.not_eq_true', Bool.not_eq_false', Bool.not_eq_true, Bool.not_eq_false, Bool.and_eq_true, Bool.or_eq_true, Bool.and_eq_false_iff, Bool.or_eq_false_iff, Bool.not_not, ne_eq, Int.not_lt, Int.not_le, Decidable.not_not, beq_iff_eq, bne_iff_ne] at hc1
      refine wp_skip ?_
      refine then_normal ?_
      refine c_seq ?_
      refine wp_block ?_
      refine c_seq ?_
      refine c_region ?_
      refine wl (wl_val hl rfl trivial (r_move hl rfl) ?_)
      clear hl a; intro a hl
      refine wl (wl_val hl rfl trivial (r_assign hl rfl) ?_)
      clear hl a; intro a hl
      refine w_nil ?_
      have hl2 := hl.add (t := 3) (hl.add (t := 4) (hl.add (t := 5) (hl.add (t := 6) (hl.add (t := 28) (hl.nil) rfl) rfl) rfl) rfl) rfl; clear hl; have hl := hl2; clear hl2
      refine then_normal ?_
      refine c_region ?_
      refine wl (wl_val hl rfl trivial (r_move hl rfl) ?_)
      clear hl a; intro a hl
      refine wl (wl_val hl rfl trivial (r_move hl rfl) ?_)
      clear hl a; intro a hl
      refine wl (wl_val hl rfl trivial (r_nilCheck hl rfl) ?_)
      clear hl a; intro a hl
      refine wl (wl_val hl rfl trivial (r_field hl rfl fld41_0) ?_)
      clear hl a; intro a hl
      refine wl (w_load hl hh rfl trivial one38 rfl (by repeat (first | exact find_head | apply find_tail)) (by first | rfl) ?_)
      clear hl a; intro a hl
      refine wl (wl_val hl rfl trivial (r_move hl rfl) ?_)
      clear hl a; intro a hl
      first | refine wl (wl_val hl rfl trivial (r_conv hl rfl Try.underlying3 Try.underlying34 (by simp only [Fits]; omega)) ?_) | refine wl (wl_val hl rfl trivial (r_convW hl rfl Try.underlying3 Try.underlying34) ?_)
      clear hl a; intro a hl
      refine wl (w_call hl hh rfl trivial rfl cal22 rfl ((gen_tV b (initF G) i _ rfl (by omega)).choose_spec) (by repeat (first | exact keeps_nil | apply keeps_cons (by repeat (first | exact find_head | apply find_tail)) (by first  | rfl) | exact keeps_self | apply keeps_mv)) trivial ?_)
      clear hl hh a w; intro vc Fc a w hR hl hh
      obtain ⟨rfl, rfl⟩ := hR
      try simp only [List.cons_append, List.nil_append] at hh
      refine wl (wl_val hl rfl trivial (r_move hl rfl) ?_)
      clear hl a; intro a hl
      refine wl (wl_val hl rfl trivial (r_extract hl rfl (by simp only [List.getElem?_toArray, List.getElem?_cons_zero, List.getElem?_cons_succ]; rfl)) ?_)
      clear hl a; intro a hl
      refine wl (wl_val hl rfl trivial (r_extract hl rfl (by simp only [List.getElem?_toArray, List.getElem?_cons_zero, List.getElem?_cons_succ]; rfl)) ?_)
      clear hl a; intro a hl
      refine wl (wl_val hl rfl trivial (r_indexA hl rfl rfl arr58 (by omega) (by omega) (by first | (simp only [Int.reduceToNat]; rfl) | exact toNat_add1 _ | exact toNat_add2 _ _ | exact toNat_emod _ _ | exact Int.toNat_natCast _ | rfl)) ?_)
      clear hl a; intro a hl
      refine wl (w_store hl hh trivial one27 rfl rfl (by repeat (first | exact find_head | apply find_tail)) (by rw [arrL_length]; omega) (by first | rfl | (apply Row.one; assumption)) (by exact arr_store (by omega)) ?_)
      clear hh w; intro w hh
      refine w_nil ?_
      have hl2 := hl.add (t := 3) (hl.add (t := 4) (hl.add (t := 5) (hl.add (t := 28) (hl.nil) rfl) rfl) rfl) rfl; clear hl; have hl := hl2; clear hl2
      refine blk_normal ?_
      refine then_normal ?_
      refine c_region ?_
      first | refine wl (wl_val hl rfl trivial (r_add hl rfl rfl (by simp only [Fits]; omega)) ?_) | refine wl (wl_val hl rfl trivial (r_addW hl rfl rfl) ?_)
      clear hl a; intro a hl
      refine wl (wl_val hl rfl trivial (r_move hl rfl) ?_)
      clear hl a; intro a hl
      refine w_nil ?_
      have hl2 := hl.add (t := 3) (hl.add (t := 4) (hl.add (t := 5) (hl.add (t := 28) (hl.nil) rfl) rfl) rfl) rfl; clear hl; have hl := hl2; clear hl2
      refine then_normal ?_
      refine ⟨i + 1, (by omega), (by omega), hl.addE (t := 28) (hl.addE (t := 3) (hl.addE (t := 4) (hl.addE (t := 5) (hl.nil) rfl (by first | rfl | rfl)) rfl (by first | rfl | rfl)) rfl (by first | rfl | rfl)) rfl (by first | rfl | rfl), hh.keep (by repeat (first | exact keeps_nil | apply keeps_cons (by repeat (first | exact find_head | apply find_tail)) (by first  | exact tTo_succ _ _ | rfl) | exact keeps_self | apply keeps_mv))⟩
    · intro hc1
      try simp only [decide_eq_true_eq, decide_eq_false_iff_not, Bool.not_eq_true', Bool.not_eq_false', Bool.not_eq_true, Bool.not_eq_false, Bool.and_eq_true, Bool.or_eq_true, Bool.and_eq_false_iff, Bool.or_eq_false_iff, Bool.not_not, ne_eq, Int.not_lt, Int.not_le, Decidable.not_not, beq_iff_eq, bne_iff_ne] at hc1
      refine wp_exit ?_
      refine then_exit ?_
      refine then_exit ?_
      refine blk_exit ?_
      refine then_normal ?_
      refine c_seq ?_
      refine c_region ?_
      refine wl (w_makeMap (kInt .u64) hl hh rfl trivial ?_)
      clear hl hh a w; intro k44 a w hl hh
      refine wl (wl_val hl rfl trivial (r_assign hl rfl) ?_)
      clear hl a; intro a hl
      refine w_nil ?_
      have hl2 := hl.add (t := 3) (hl.add (t := 4) (hl.add (t := 5) (hl.add (t := 7) (hl.nil) rfl) rfl) rfl) rfl; clear hl; have hl := hl2; clear hl2
      refine then_normal ?_
      refine c_seq ?_
      refine c_seq ?_
      refine c_region ?_
      refine wl (wl_val hl rfl trivial (r_move hl rfl) ?_)
      clear hl a; intro a hl
      refine wl (wl_val hl rfl trivial (r_lenS hl rfl slc22) ?_)
      clear hl a; intro a hl
      refine wl (wl_val hl rfl trivial (r_move hl rfl) ?_)
      clear hl a; intro a hl
      refine w_nil ?_
      have hl2 := hl.add (t := 3) (hl.add (t := 5) (hl.add (t := 7) (hl.add (t := 45) (hl.add (t := 46) (hl.add (t := 47) (hl.nil) rfl) rfl) rfl) rfl) rfl) rfl; clear hl; have hl := hl2; clear hl2
      refine then_normal ?_
      refine wp_block ?_
      obtain ⟨KS1, hKS1, hk⟩ := (hl.add (t := 3) (hl.add (t := 5) (hl.add (t := 7) (hl.add (t := 45) (hl.add (t := 46) (hl.nil) rfl) rfl) rfl) rfl) rfl).name
      obtain ⟨HS1, hHS1, hh2⟩ := hh.name (keeps_cons (b := gb) (o' := C [.pointer (some ⟨b, 0, none⟩), .slice none 0 0] 41) (by repeat (first | exact find_head | apply find_tail)) (by first | exact tTo_all _ (by omega) | rfl) (keeps_cons (b := b) (o' := C (encL (initF G)) 87) (by repeat (first | exact find_head | apply find_tail)) (by first | exact tTo_all _ (by omega) | rfl) (keeps_cons (b := k5) (o' := C (arrL 4096 (tV (initF G))) 58) (by repeat (first | exact find_head | apply find_tail)) (by first | exact tTo_all _ (by omega) | rfl) (keeps_cons (b := k44) (by repeat (first | exact find_head | apply find_tail)) (by first | exact tTo_all _ (by omega) | rfl) (keeps_nil)))))
      refine c_loop (α := LS × (List (Int × Value))) (fun s => n2 - s.1.i) (fun s a w => (LI n2 s.1 ∧ (J7 s.1.f s.2)) ∧ Sl 140 ([(47, .int .i64 s.1.i)] ++ KS1) a ∧ Has _ w0 ([(gb, C [.pointer (some ⟨b, 0, none⟩), s.1.rv] 41), (b, C (encL s.1.f) 87), (k5, C (arrL 4096 (tV s.1.f)) 58), (k44, MO (kInt .u64) s.2)] ++ (HS1 ++ s.1.Er)) w) (⟨0, initF G, fun _ => [], [], .slice none 0 0, []⟩, []) ⟨⟨LI.start G hG0 hG1, J7.start _⟩, hl.addE (t := 47) (hk) rfl (by first | rfl), (by rw [List.append_nil]; exact hh2)⟩ ?_
      clear hk hh2 hl hh a w
      intro s a w hI
      obtain ⟨⟨hI, hJ⟩, hl, hh⟩ := hI
      subst hKS1; subst hHS1
      simp only [List.cons_append, List.nil_append, List.append_nil] at hl hh
      refine c_seq ?_
      refine c_region ?_
      refine wl (wl_val hl rfl trivial (r_lss hl rfl rfl) ?_)
      clear hl a; intro a hl
      refine w_nil ?_
      have hl2 := hl.add (t := 3) (hl.add (t := 5) (hl.add (t := 7) (hl.add (t := 45) (hl.add (t := 46) (hl.add (t := 47) (hl.add (t := 48) (hl.nil) rfl) rfl) rfl) rfl) rfl) rfl) rfl; clear hl; have hl := hl2; clear hl2
      refine then_normal ?_
      refine c_seq ?_
      refine c_cond hl rfl ?_ ?_
      · intro hc2
        try simp only [decide_eq_true_eq, decide_eq_false_iff_not, Bool.not_eq_true', Bool.not_eq_false', Bool.not_eq_true, Bool.not_eq_false, Bool.and_eq_true, Bool.or_eq_true, Bool.and_eq_false_iff, Bool.or_eq_false_iff, Bool.not_not, ne_eq, Int.not_lt, Int.not_le, Decidable.not_not, beq_iff_eq, bne_iff_ne] at hc2
        have hi : s.1.i < n2 := by omega
        obtain ⟨so, rfl, hat⟩ := hO.at_ (by omega)
        obtain ⟨q, hq⟩ : ∃ q, steps[s.1.i]? = some q := ⟨_, List.getElem?_eq_getElem (by omega)⟩
        have hqv := hat s.1.i q hq
        have hqo := hO.ok q (List.mem_of_getElem? hq)
        have hm := hpre (by omega)
        obtain ⟨kd, x, A, B, E, D⟩ := q
        simp only [MOp.vals] at hqv
        refine wp_skip ?_
        refine then_normal ?_
        refine c_seq ?_
        refine wp_block ?_
        refine c_seq ?_
        refine c_region ?_
        refine wl (wl_val hl rfl trivial (r_indexS hl rfl rfl slc22 (by omega) (by omega) (by first | (simp only [Int.reduceToNat]; rfl) | exact toNat_add1 _ | exact toNat_add2 _ _ | exact toNat_emod _ _ | exact Int.toNat_natCast _ | rfl)) ?_)
        clear hl a; intro a hl
        first | refine wl (w_loadA hl hh rfl trivial agg36 rfl (by repeat (first | exact find_head | apply find_tail)) (by first | (simp only [List.getElem?_cons_zero, List.getElem?_cons_succ, Value.cells, List.take_zero, List.take_succ_cons, List.take_nil, List.drop_zero, List.drop_succ_cons, List.drop_nil, List.length_cons, List.length_nil, List.cons_append, List.nil_append, List.append_nil, Nat.zero_add, Nat.add_zero, Nat.reduceAdd, Nat.reduceBEq, Nat.reduceEqDiff, Nat.ble, BEq.rfl, Bool.and_true, Bool.and_self, cond_true, beq_self_eq_true]; rfl)) (by first | rfl | (simp; done)) ?_) | refine wl (w_loadRA hl hh rfl trivial agg36 rfl hm (by simp) hqv rfl ?_)
        clear hl a; intro a hl
        refine wl (w_alloc hl hh rfl trivial zero36 rfl ?_)
        clear hl hh a w; intro k9 a w hl hh
        refine wl (w_storeA hl hh trivial agg36 rfl rfl (by repeat (first | exact find_head | apply find_tail)) (by first | rfl | (simp; done)) (by first | (simp; done) | (simp; omega)) (by first | rfl | (simp; done)) (by first | (simp only [setL, List.getElem?_cons_zero, List.getElem?_cons_succ, Value.cells, List.take_zero, List.take_succ_cons, List.take_nil, List.drop_zero, List.drop_succ_cons, List.drop_nil, List.length_cons, List.length_nil, List.cons_append, List.nil_append, List.append_nil, Nat.zero_add, Nat.add_zero, Nat.reduceAdd, Nat.reduceBEq, Nat.reduceEqDiff, Nat.ble, BEq.rfl, Bool.and_true, Bool.and_self, cond_true, beq_self_eq_true]; rfl)) ?_)
        clear hh w; intro w hh
        refine w_nil ?_
        have hl2 := hl.add (t := 3) (hl.add (t := 5) (hl.add (t := 7) (hl.add (t := 9) (hl.add (t := 45) (hl.add (t := 46) (hl.add (t := 47) (hl.nil) rfl) rfl) rfl) rfl) rfl) rfl) rfl; clear hl; have hl := hl2; clear hl2
        refine then_normal ?_
        refine c_seq ?_
        refine c_draw [(gb, C [.pointer (some ⟨b, 0, none⟩), s.1.rv] 41), (k9, C [.int .u8 kd, .int .u32 x, .int .u64 A, .int .u64 B, .int .u64 E, .int .u64 D] 36)] [7] mixed hh ?_
        clear hh w; intro w hh
        have hM : Mem [(gb, C [.pointer (some ⟨b, 0, none⟩), s.1.rv] 41), (k9, C [.int .u8 kd, .int .u32 x, .int .u64 A, .int .u64 B, .int .u64 E, .int .u64 D] 36)] w := (by repeat (first | exact Mem.nil | refine Mem.cons hh.mem (by repeat (first | exact find_head | apply find_tail)) ?_ | refine Mem.consR hh (by assumption) (by simp) ?_))
        refine d_take (i := 0) hl rfl (by kernel_rfl) (by kernel_rfl) (by kernel_rfl) (by kernel_rfl) (by kernel_rfl) rfl trivial (fun _ _ _ h => h) hM (fun w hC => r_loadCA hl rfl agg36 hC (by repeat (first | exact find_head | apply find_tail)) (by first | (simp only [List.getElem?_cons_zero, List.getElem?_cons_succ, Value.cells, List.take_zero, List.take_succ_cons, List.take_nil, List.drop_zero, List.drop_succ_cons, List.drop_nil, List.length_cons, List.length_nil, List.cons_append, List.nil_append, List.append_nil, Nat.zero_add, Nat.add_zero, Nat.reduceAdd, Nat.reduceBEq, Nat.reduceEqDiff, Nat.ble, BEq.rfl, Bool.and_true, Bool.and_self, cond_true, beq_self_eq_true]; rfl)) (by first | rfl | (simp; done))) rfl ?_
        clear hl a; intro a hl
        refine d_take (i := 1) hl rfl (by kernel_rfl) (by kernel_rfl) (by kernel_rfl) (by kernel_rfl) (by kernel_rfl) rfl trivial (fun _ _ _ h => h) hM (fun w hC => r_move hl rfl) rfl ?_
        clear hl a; intro a hl
        refine d_take (i := 2) hl rfl (by kernel_rfl) (by kernel_rfl) (by kernel_rfl) (by kernel_rfl) (by kernel_rfl) rfl trivial (fun _ _ _ h => h) hM (fun w hC => r_nilCheck hl rfl) rfl ?_
        clear hl a; intro a hl
        refine d_take (i := 3) hl rfl (by kernel_rfl) (by kernel_rfl) (by kernel_rfl) (by kernel_rfl) (by kernel_rfl) rfl trivial (fun _ _ _ h => h) hM (fun w hC => r_field hl rfl fld41_1) rfl ?_
        clear hl a; intro a hl
        refine d_take (i := 4) hl rfl (by kernel_rfl) (by kernel_rfl) (by kernel_rfl) (by kernel_rfl) (by kernel_rfl) rfl trivial (fun _ _ _ h => h) hM (fun w hC => r_loadC hl rfl one39 hC (by repeat (first | exact find_head | apply find_tail)) (by first | rfl)) rfl ?_
        clear hl a; intro a hl
        refine d_two (i := 5) (j := 6) (by kernel_rfl) rfl rfl ?_ ?_
        ·
          try clear hM
          refine id (w_call hl hh rfl trivial rfl cal16 rfl (plain_spec s.1.rs s.1.rv s.1.Er hI.row (by have := hI.len; omega) ⟨kd, x, A, B, E, D⟩) (by repeat (first | exact keeps_nil | apply keeps_cons (by repeat (first | exact find_head | apply find_tail)) (by first  | rfl) | exact keeps_self | apply keeps_mv)) trivial ?_)
          clear hl hh a w; intro vc Fc a w hR hl hh
          obtain ⟨rfl, rfl⟩ := hR
          try simp only [List.cons_append, List.nil_append] at hh
          replace hh := hh.comm; simp only [List.cons_append, List.nil_append, List.append_nil] at hh; have hok : (plainF s.1.rs ⟨kd, x, A, B, E, D⟩).ok := plainF_ok hqo hI.ok; generalize hp2 : plainF s.1.rs ⟨kd, x, A, B, E, D⟩ = o2 at hl hok; obtain ⟨kd2, x2, A2, B2, E2, D2⟩ := o2; simp only [MOp.vals] at hl; obtain ⟨fl2, hI2⟩ := hI.inv.do hok
          have hM : Mem [(gb, C [.pointer (some ⟨b, 0, none⟩), s.1.rv] 41), (k9, C [.int .u8 kd, .int .u32 x, .int .u64 A, .int .u64 B, .int .u64 E, .int .u64 D] 36)] w := (by repeat (first | exact Mem.nil | refine Mem.cons hh.mem (by repeat (first | exact find_head | apply find_tail)) ?_ | refine Mem.consR hh (by assumption) (by simp) ?_))
          refine d_step (fun _ => hM) ?_
          refine d_one (i := 6) (by kernel_rfl) rfl ?_
          try clear hM
          refine id (w_alloc hl hh rfl trivial zero36 rfl ?_)
          clear hl hh a w; intro k10 a w hl hh
          have hM : Mem [(gb, C [.pointer (some ⟨b, 0, none⟩), s.1.rv] 41), (k9, C [.int .u8 kd, .int .u32 x, .int .u64 A, .int .u64 B, .int .u64 E, .int .u64 D] 36)] w := (by repeat (first | exact Mem.nil | refine Mem.cons hh.mem (by repeat (first | exact find_head | apply find_tail)) ?_ | refine Mem.consR hh (by assumption) (by simp) ?_))
          refine d_step (fun _ => hM) ?_
          refine d_one (i := 7) (by kernel_rfl) rfl ?_
          try clear hM
          refine id (w_storeA hl hh trivial agg36 rfl rfl (by repeat (first | exact find_head | apply find_tail)) (by first | rfl | (simp; done)) (by first | (simp; done) | (simp; omega)) (by first | rfl | (simp; done)) (by first | (simp only [setL, List.getElem?_cons_zero, List.getElem?_cons_succ, Value.cells, List.take_zero, List.take_succ_cons, List.take_nil, List.drop_zero, List.drop_succ_cons, List.drop_nil, List.length_cons, List.length_nil, List.cons_append, List.nil_append, List.append_nil, Nat.zero_add, Nat.add_zero, Nat.reduceAdd, Nat.reduceBEq, Nat.reduceEqDiff, Nat.ble, BEq.rfl, Bool.and_true, Bool.and_self, cond_true, beq_self_eq_true]; rfl)) ?_)
          clear hh w; intro w hh
          refine d_step (fun h => absurd h (by decide)) ?_
          refine d_done (by kernel_rfl) ?_
          try clear hM
          have hl2 := hl.add (t := 3) (hl.add (t := 5) (hl.add (t := 7) (hl.add (t := 10) (hl.add (t := 45) (hl.add (t := 46) (hl.add (t := 47) (hl.nil) rfl) rfl) rfl) rfl) rfl) rfl) rfl; clear hl; have hl := hl2; clear hl2
          refine then_normal ?_
          refine c_seq ?_
          refine c_region ?_
          refine wl (wl_val hl rfl trivial (r_move hl rfl) ?_)
          clear hl a; intro a hl
          first | refine wl (w_loadA hl hh rfl trivial agg36 rfl (by repeat (first | exact find_head | apply find_tail)) (by first | (simp only [List.getElem?_cons_zero, List.getElem?_cons_succ, Value.cells, List.take_zero, List.take_succ_cons, List.take_nil, List.drop_zero, List.drop_succ_cons, List.drop_nil, List.length_cons, List.length_nil, List.cons_append, List.nil_append, List.append_nil, Nat.zero_add, Nat.add_zero, Nat.reduceAdd, Nat.reduceBEq, Nat.reduceEqDiff, Nat.ble, BEq.rfl, Bool.and_true, Bool.and_self, cond_true, beq_self_eq_true]; rfl)) (by first | rfl | (simp; done)) ?_) | refine wl (w_loadRA hl hh rfl trivial agg36 rfl hm (by simp) hqv rfl ?_)
          clear hl a; intro a hl
          refine wl (w_call hl hh rfl trivial rfl cal17 rfl (gdo_spec gb b hI.inv (by omega) s.1.rs s.1.rv s.1.Er hI.row (by have := hI.len; omega) ⟨kd2, x2, A2, B2, E2, D2⟩ hok) (by repeat (first | exact keeps_nil | apply keeps_cons (by repeat (first | exact find_head | apply find_tail)) (by first  | rfl) | exact keeps_self | apply keeps_mv)) trivial ?_)
          clear hl hh a w; intro vc Fc a w hR hl hh
          obtain ⟨rfl, rv2, E3, hR2, rfl⟩ := hR
          try simp only [List.cons_append, List.nil_append] at hh
          replace hh := has_comm2 hh; simp only [List.cons_append, List.nil_append, List.append_nil] at hh; have hts := doF_st s.1.f ⟨kd2, x2, A2, B2, E2, D2⟩; generalize hr : (doF s.1.f ⟨kd2, x2, A2, B2, E2, D2⟩).ans = r at hl hts; obtain ⟨t, pp, u, u1⟩ := r; simp only [Ans.l] at hl; simp only at hts
          refine wl (w_alloc hl hh rfl trivial zero44 rfl ?_)
          clear hl hh a w; intro k11 a w hl hh
          refine wl (w_storeA hl hh trivial agg44 rfl rfl (by repeat (first | exact find_head | apply find_tail)) (by first | rfl | (simp; done)) (by first | (simp; done) | (simp; omega)) (by first | rfl | (simp; done)) (by first | (simp only [setL, List.getElem?_cons_zero, List.getElem?_cons_succ, Value.cells, List.take_zero, List.take_succ_cons, List.take_nil, List.drop_zero, List.drop_succ_cons, List.drop_nil, List.length_cons, List.length_nil, List.cons_append, List.nil_append, List.append_nil, Nat.zero_add, Nat.add_zero, Nat.reduceAdd, Nat.reduceBEq, Nat.reduceEqDiff, Nat.ble, BEq.rfl, Bool.and_true, Bool.and_self, cond_true, beq_self_eq_true]; rfl)) ?_)
          clear hh w; intro w hh
          refine w_nil ?_
          have hl2 := hl.add (t := 3) (hl.add (t := 5) (hl.add (t := 7) (hl.add (t := 10) (hl.add (t := 11) (hl.add (t := 45) (hl.add (t := 46) (hl.add (t := 47) (hl.nil) rfl) rfl) rfl) rfl) rfl) rfl) rfl) rfl; clear hl; have hl := hl2; clear hl2
          refine then_normal ?_
          refine c_seq ?_
          refine c_seq ?_
          refine c_region ?_
          refine wl (wl_val hl rfl trivial (r_field hl rfl fld36_0) ?_)
          clear hl a; intro a hl
          refine wl (w_load hl hh rfl trivial one32 rfl (by repeat (first | exact find_head | apply find_tail)) (by first | rfl) ?_)
          clear hl a; intro a hl
          refine wl (wl_val hl rfl trivial (r_neq hl rfl rfl) ?_)
          clear hl a; intro a hl
          refine wl (wl_val hl rfl trivial (r_move hl rfl) ?_)
          clear hl a; intro a hl
          refine sl_split (t := 63) hl rfl ?_ ?_
          · intro hg1; clear hl; intro hl
            try simp only [decide_eq_true_eq, decide_eq_false_iff_not, Bool.not_eq_true', Bool.not_eq_false', Bool.not_eq_true, Bool.not_eq_false, Bool.and_eq_true, Bool.or_eq_true, Bool.and_eq_false_iff, Bool.or_eq_false_iff, Bool.not_not, ne_eq, Int.not_lt, Int.not_le, Decidable.not_not, beq_iff_eq, bne_iff_ne] at hg1
            refine wl (wl_skip hl rfl ⟨_, _, rfl, rfl, rfl⟩ ?_)
            clear hl a; intro a hl
            refine wl (wl_skip hl rfl ⟨_, _, rfl, rfl, rfl⟩ ?_)
            clear hl a; intro a hl
            refine wl (wl_skip hl rfl ⟨_, _, rfl, rfl, rfl⟩ ?_)
            clear hl a; intro a hl
            refine wl (wl_val hl rfl trivial (r_pickT hl rfl rfl) ?_)
            clear hl a; intro a hl
            refine w_nil ?_
            have hl2 := hl.add (t := 3) (hl.add (t := 5) (hl.add (t := 7) (hl.add (t := 10) (hl.add (t := 11) (hl.add (t := 45) (hl.add (t := 46) (hl.add (t := 47) (hl.add (t := 67) (hl.nil) rfl) rfl) rfl) rfl) rfl) rfl) rfl) rfl) rfl; clear hl; have hl := hl2; clear hl2
            refine then_normal ?_
            refine c_condT hl rfl ?_
            have hgn := doF_gens hI.inv ⟨kd2, x2, A2, B2, E2, D2⟩ (by rw [hr]; simp only; omega)
            obtain ⟨l2, hl2⟩ : ∃ l2, l2 = s.2 := ⟨_, rfl⟩
            have hN : J7 (doF s.1.f ⟨kd2, x2, A2, B2, E2, D2⟩).f l2 := by rw [hl2]; exact hJ.same hgn
            refine wp_exit ?_
            refine then_exit ?_
            refine blk_exit ?_
            refine then_normal ?_
            refine c_region ?_
            first | refine wl (wl_val hl rfl trivial (r_add hl rfl rfl (by simp only [Fits]; omega)) ?_) | refine wl (wl_val hl rfl trivial (r_addW hl rfl rfl) ?_)
            clear hl a; intro a hl
            refine wl (wl_val hl rfl trivial (r_move hl rfl) ?_)
            clear hl a; intro a hl
            refine w_nil ?_
            have hl2 := hl.add (t := 3) (hl.add (t := 5) (hl.add (t := 7) (hl.add (t := 45) (hl.add (t := 46) (hl.add (t := 47) (hl.nil) rfl) rfl) rfl) rfl) rfl) rfl; clear hl; have hl := hl2; clear hl2
            refine then_normal ?_
            refine ⟨(⟨s.1.i + 1, (doF s.1.f ⟨kd2, x2, A2, B2, E2, D2⟩).f, fl2, keepF s.1.rs ⟨kd2, x2, A2, B2, E2, D2⟩ (doF s.1.f ⟨kd2, x2, A2, B2, E2, D2⟩).ans, rv2, E3⟩, l2), (by dsimp only; omega), ⟨hI.next hi hok hI2 hR2, hN⟩, hl.addE (t := 47) (hl.addE (t := 3) (hl.addE (t := 5) (hl.addE (t := 7) (hl.addE (t := 45) (hl.addE (t := 46) (hl.nil) rfl (by first | rfl | rfl)) rfl (by first | rfl | rfl)) rfl (by first | rfl | rfl)) rfl (by first | rfl | rfl)) rfl (by first | rfl | rfl)) rfl (by first | rfl | rfl), (by simp only [List.cons_append, List.nil_append, List.append_nil]; exact hh.keep (by repeat (first | exact keeps_nil | apply keeps_cons (by repeat (first | exact find_head | apply find_tail)) (by first  | (rw [hl2]; done) | (rw [hl2]) | exact tIn_all hOk (by omega) | exact tV_same hgn | rfl) | exact keeps_self | apply keeps_mv)))⟩
          · intro hg1; clear hl; intro hl
            try simp only [decide_eq_true_eq, decide_eq_false_iff_not, Bool.not_eq_true', Bool.not_eq_false', Bool.not_eq_true, Bool.not_eq_false, Bool.and_eq_true, Bool.or_eq_true, Bool.and_eq_false_iff, Bool.or_eq_false_iff, Bool.not_not, ne_eq, Int.not_lt, Int.not_le, Decidable.not_not, beq_iff_eq, bne_iff_ne] at hg1
            refine wl (wl_val hl rfl ⟨_, _, rfl, rfl, rfl⟩ (r_field hl rfl fld44_0) ?_)
            clear hl a; intro a hl
            refine wl (w_load hl hh rfl ⟨_, _, rfl, rfl, rfl⟩ one42 rfl (by repeat (first | exact find_head | apply find_tail)) (by first | rfl) ?_)
            clear hl a; intro a hl
            refine wl (wl_val hl rfl ⟨_, _, rfl, rfl, rfl⟩ (r_neq hl rfl rfl) ?_)
            clear hl a; intro a hl
            refine wl (wl_val hl rfl trivial (r_pickF hl rfl rfl) ?_)
            clear hl a; intro a hl
            refine w_nil ?_
            have hl2 := hl.add (t := 3) (hl.add (t := 5) (hl.add (t := 7) (hl.add (t := 10) (hl.add (t := 11) (hl.add (t := 45) (hl.add (t := 46) (hl.add (t := 47) (hl.add (t := 67) (hl.nil) rfl) rfl) rfl) rfl) rfl) rfl) rfl) rfl) rfl; clear hl; have hl := hl2; clear hl2
            refine then_normal ?_
            refine c_cond hl rfl ?_ ?_
            · intro hc3
              try simp only [decide_eq_true_eq, decide_eq_false_iff_not, Bool.not_eq_true', Bool.not_eq_false', Bool.not_eq_true, Bool.not_eq_false, Bool.and_eq_true, Bool.or_eq_true, Bool.and_eq_false_iff, Bool.or_eq_false_iff, Bool.not_not, ne_eq, Int.not_lt, Int.not_le, Decidable.not_not, beq_iff_eq, bne_iff_ne] at hc3
              have hgn := doF_gens hI.inv ⟨kd2, x2, A2, B2, E2, D2⟩ (by rw [hr]; simp only; omega)
              obtain ⟨l2, hl2⟩ : ∃ l2, l2 = s.2 := ⟨_, rfl⟩
              have hN : J7 (doF s.1.f ⟨kd2, x2, A2, B2, E2, D2⟩).f l2 := by rw [hl2]; exact hJ.same hgn
              refine wp_exit ?_
              refine then_exit ?_
              refine blk_exit ?_
              refine then_normal ?_
              refine c_region ?_
              first | refine wl (wl_val hl rfl trivial (r_add hl rfl rfl (by simp only [Fits]; omega)) ?_) | refine wl (wl_val hl rfl trivial (r_addW hl rfl rfl) ?_)
              clear hl a; intro a hl
              refine wl (wl_val hl rfl trivial (r_move hl rfl) ?_)
              clear hl a; intro a hl
              refine w_nil ?_
              have hl2 := hl.add (t := 3) (hl.add (t := 5) (hl.add (t := 7) (hl.add (t := 45) (hl.add (t := 46) (hl.add (t := 47) (hl.nil) rfl) rfl) rfl) rfl) rfl) rfl; clear hl; have hl := hl2; clear hl2
              refine then_normal ?_
              refine ⟨(⟨s.1.i + 1, (doF s.1.f ⟨kd2, x2, A2, B2, E2, D2⟩).f, fl2, keepF s.1.rs ⟨kd2, x2, A2, B2, E2, D2⟩ (doF s.1.f ⟨kd2, x2, A2, B2, E2, D2⟩).ans, rv2, E3⟩, l2), (by dsimp only; omega), ⟨hI.next hi hok hI2 hR2, hN⟩, hl.addE (t := 47) (hl.addE (t := 3) (hl.addE (t := 5) (hl.addE (t := 7) (hl.addE (t := 45) (hl.addE (t := 46) (hl.nil) rfl (by first | rfl | rfl)) rfl (by first | rfl | rfl)) rfl (by first | rfl | rfl)) rfl (by first | rfl | rfl)) rfl (by first | rfl | rfl)) rfl (by first | rfl | rfl), (by simp only [List.cons_append, List.nil_append, List.append_nil]; exact hh.keep (by repeat (first | exact keeps_nil | apply keeps_cons (by repeat (first | exact find_head | apply find_tail)) (by first  | (rw [hl2]; done) | (rw [hl2]) | exact tIn_all hOk (by omega) | exact tV_same hgn | rfl) | exact keeps_self | apply keeps_mv)))⟩
            · intro hc3
              try simp only [decide_eq_true_eq, decide_eq_false_iff_not, Bool.not_eq_true', Bool.not_eq_false', Bool.not_eq_true, Bool.not_eq_false, Bool.and_eq_true, Bool.or_eq_true, Bool.and_eq_false_iff, Bool.or_eq_false_iff, Bool.not_not, ne_eq, Int.not_lt, Int.not_le, Decidable.not_not, beq_iff_eq, bne_iff_ne] at hc3
              obtain ⟨hA1, hA2, hA3⟩ := doF_alloc s.1.f ⟨kd2, x2, A2, B2, E2, D2⟩ (by simp only; omega) (by rw [hr]; simp only; omega)
              obtain ⟨hA4, hA5, xx, flx, hIx, hOk, href⟩ := hI.inv.allocOk A2 hA3
              obtain ⟨r0, hr0⟩ : ∃ r0 : Nat, r0 = ((gen s.1.f xx).toNat + 1) * 65536 + xx := ⟨_, rfl⟩
              rw [← hr0] at href
              rw [hr, href] at hA2
              injection hA2 with _ _ e2 _
              subst e2
              rw [← hA1] at hOk hIx
              obtain ⟨sx, hsx⟩ : ∃ sx, sx = (A2 + 1) / 2 * 2 := ⟨_, rfl⟩
              rw [← hsx] at hOk
              have hk1 := hOk.s1
              have hk2 := hOk.s2
              have hk3 := hOk.x1
              have hk4 := hOk.xs
              have hk5 := hOk.g0
              obtain ⟨hmod, hdiv⟩ := ref_parts (by omega) hr0
              have hnew := hJ.new hOk hr0
              obtain ⟨l2, hl2⟩ : ∃ l2, l2 = mput s.2 (r0 : Int) (.bool true) := ⟨_, rfl⟩
              have hN : J7 (doF s.1.f ⟨kd2, x2, A2, B2, E2, D2⟩).f l2 := by rw [hl2]; exact hJ.alloc hOk hr0
              refine wp_skip ?_
              refine then_normal ?_
              refine c_seq ?_
              refine c_region ?_
              refine wl (wl_val hl rfl trivial (r_field hl rfl fld44_2) ?_)
              clear hl a; intro a hl
              refine wl (w_load hl hh rfl trivial one27 rfl (by repeat (first | exact find_head | apply find_tail)) (by first | rfl) ?_)
              clear hl a; intro a hl
              refine wl (wl_val hl rfl trivial (r_assign hl rfl) ?_)
              clear hl a; intro a hl
              refine w_nil ?_
              have hl2 := hl.add (t := 3) (hl.add (t := 5) (hl.add (t := 7) (hl.add (t := 10) (hl.add (t := 12) (hl.add (t := 45) (hl.add (t := 46) (hl.add (t := 47) (hl.nil) rfl) rfl) rfl) rfl) rfl) rfl) rfl) rfl; clear hl; have hl := hl2; clear hl2
              refine then_normal ?_
              refine c_seq ?_
              refine c_seq ?_
              refine c_region ?_
              refine wl (wl_val hl rfl trivial (r_move hl rfl) ?_)
              clear hl a; intro a hl
              refine wl (wl_val hl rfl trivial (r_move hl rfl) ?_)
              clear hl a; intro a hl
              refine wl (w_lookup (keyInt Try.underlying63) Try.underlying53 zero4 hl hh rfl trivial rfl rfl (by repeat (first | exact find_head | apply find_tail)) ?_)
              clear hl a; intro a hl
              rw [hnew] at hl
              refine wl (wl_val hl rfl trivial (r_move hl rfl) ?_)
              clear hl a; intro a hl
              refine sl_split (t := 73) hl rfl ?_ ?_
              · intro hg2; clear hl; intro hl
                try simp only [decide_eq_true_eq, decide_eq_false_iff_not, Bool.not_eq_true', Bool.not_eq_false', Bool.not_eq_true, Bool.not_eq_false, Bool.and_eq_true, Bool.or_eq_true, Bool.and_eq_false_iff, Bool.or_eq_false_iff, Bool.not_not, ne_eq, Int.not_lt, Int.not_le, Decidable.not_not, beq_iff_eq, bne_iff_ne] at hg2
                exfalso; first | omega | (simp at *; done) | (simp at *; omega)
              · intro hg2; clear hl; intro hl
                try simp only [decide_eq_true_eq, decide_eq_false_iff_not, Bool.not_eq_true', Bool.not_eq_false', Bool.not_eq_true, Bool.not_eq_false, Bool.and_eq_true, Bool.or_eq_true, Bool.and_eq_false_iff, Bool.or_eq_false_iff, Bool.not_not, ne_eq, Int.not_lt, Int.not_le, Decidable.not_not, beq_iff_eq, bne_iff_ne] at hg2
                refine wl (wl_val hl rfl ⟨_, _, rfl, rfl, rfl⟩ (r_move hl rfl) ?_)
                clear hl a; intro a hl
                refine wl (wl_val hl rfl ⟨_, _, rfl, rfl, rfl⟩ (r_eql hl rfl rfl) ?_)
                clear hl a; intro a hl
                refine wl (wl_val hl rfl trivial (r_pickF hl rfl rfl) ?_)
                clear hl a; intro a hl
                refine w_nil ?_
                have hl2 := hl.add (t := 3) (hl.add (t := 5) (hl.add (t := 7) (hl.add (t := 10) (hl.add (t := 12) (hl.add (t := 45) (hl.add (t := 46) (hl.add (t := 47) (hl.add (t := 76) (hl.nil) rfl) rfl) rfl) rfl) rfl) rfl) rfl) rfl) rfl; clear hl; have hl := hl2; clear hl2
                refine then_normal ?_
                refine c_cond hl rfl ?_ ?_
                · intro hc4
                  try simp only [decide_eq_true_eq, decide_eq_false_iff_not, Bool.not_eq_true', Bool.not_eq_false', Bool.not_eq_true, Bool.not_eq_false, Bool.and_eq_true, Bool.or_eq_true, Bool.and_eq_false_iff, Bool.or_eq_false_iff, Bool.not_not, ne_eq, Int.not_lt, Int.not_le, Decidable.not_not, beq_iff_eq, bne_iff_ne] at hc4
                  exfalso; first | omega | (simp at *; done) | (simp at *; omega)
                · intro hc4
                  try simp only [decide_eq_true_eq, decide_eq_false_iff_not, Bool.not_eq_true', Bool.not_eq_false', Bool.not_eq_true, Bool.not_eq_false, Bool.and_eq_true, Bool.or_eq_true, Bool.and_eq_false_iff, Bool.or_eq_false_iff, Bool.not_not, ne_eq, Int.not_lt, Int.not_le, Decidable.not_not, beq_iff_eq, bne_iff_ne] at hc4
                  refine wp_skip ?_
                  refine then_normal ?_
                  refine c_seq ?_
                  refine c_region ?_
                  refine wl (wl_val hl rfl trivial (r_move hl rfl) ?_)
                  clear hl a; intro a hl
                  refine wl (wl_val hl rfl trivial (r_move hl rfl) ?_)
                  clear hl a; intro a hl
                  refine wl (w_mapUpdate (keyInt Try.underlying63) Try.underlying53 hl hh trivial rfl rfl rfl (by repeat (first | exact find_head | apply find_tail)) ?_)
                  clear hh w; intro w hh
                  refine w_nil ?_
                  have hl2 := hl.add (t := 3) (hl.add (t := 5) (hl.add (t := 7) (hl.add (t := 10) (hl.add (t := 12) (hl.add (t := 45) (hl.add (t := 46) (hl.add (t := 47) (hl.nil) rfl) rfl) rfl) rfl) rfl) rfl) rfl) rfl; clear hl; have hl := hl2; clear hl2
                  refine then_normal ?_
                  refine c_seq ?_
                  refine c_region ?_
                  refine wl (wl_val hl rfl trivial (r_move hl rfl) ?_)
                  clear hl a; intro a hl
                  refine wl (w_call hl hh rfl trivial rfl cal27 rfl (refAddr_spec r0) (by repeat (first | exact keeps_nil | apply keeps_cons (by repeat (first | exact find_head | apply find_tail)) (by first  | rfl) | exact keeps_self | apply keeps_mv)) trivial ?_)
                  clear hl hh a w; intro vc Fc a w hR hl hh
                  obtain ⟨rfl, rfl⟩ := hR
                  try simp only [List.cons_append, List.nil_append] at hh
                  rw [hmod] at hl
                  first | refine wl (wl_val hl rfl trivial (r_conv hl rfl Try.underlying34 Try.underlying3 (by simp only [Fits]; omega)) ?_) | refine wl (wl_val hl rfl trivial (r_convW hl rfl Try.underlying34 Try.underlying3) ?_)
                  clear hl a; intro a hl
                  refine wl (wl_val hl rfl trivial (r_assign hl rfl) ?_)
                  clear hl a; intro a hl
                  refine w_nil ?_
                  have hl2 := hl.add (t := 3) (hl.add (t := 5) (hl.add (t := 7) (hl.add (t := 10) (hl.add (t := 12) (hl.add (t := 13) (hl.add (t := 45) (hl.add (t := 46) (hl.add (t := 47) (hl.nil) rfl) rfl) rfl) rfl) rfl) rfl) rfl) rfl) rfl; clear hl; have hl := hl2; clear hl2
                  refine then_normal ?_
                  refine c_seq ?_
                  refine c_region ?_
                  refine wl (wl_val hl rfl trivial (r_move hl rfl) ?_)
                  clear hl a; intro a hl
                  refine wl (wl_val hl rfl trivial (r_assign hl rfl) ?_)
                  clear hl a; intro a hl
                  refine w_nil ?_
                  have hl2 := hl.add (t := 3) (hl.add (t := 5) (hl.add (t := 7) (hl.add (t := 10) (hl.add (t := 12) (hl.add (t := 13) (hl.add (t := 14) (hl.add (t := 45) (hl.add (t := 46) (hl.add (t := 47) (hl.nil) rfl) rfl) rfl) rfl) rfl) rfl) rfl) rfl) rfl) rfl; clear hl; have hl := hl2; clear hl2
                  refine then_normal ?_
                  refine wp_block ?_
                  obtain ⟨KS2, hKS2, hk⟩ := (hl.add (t := 3) (hl.add (t := 5) (hl.add (t := 7) (hl.add (t := 10) (hl.add (t := 12) (hl.add (t := 13) (hl.add (t := 45) (hl.add (t := 46) (hl.add (t := 47) (hl.nil) rfl) rfl) rfl) rfl) rfl) rfl) rfl) rfl) rfl).name
                  obtain ⟨HS2, hHS2, hh2⟩ := hh.name (keeps_cons (b := k5) (o' := C (arrL 4096 (tIn s.1.f (doF s.1.f ⟨kd2, x2, A2, B2, E2, D2⟩).f xx xx)) 58) (by repeat (first | exact find_head | apply find_tail)) (by first | exact tIn_zero _ _ _ | rfl) (keeps_nil))
                  refine c_loop (α := Nat) (fun i => xx + sx - i) (fun i a w => (xx ≤ i ∧ i ≤ xx + sx) ∧ Sl 140 ([(14, .int .i64 i)] ++ KS2) a ∧ Has _ w0 ([(k5, C (arrL 4096 (tIn s.1.f (doF s.1.f ⟨kd2, x2, A2, B2, E2, D2⟩).f xx i)) 58)] ++ HS2) w) xx ⟨⟨by omega, by omega⟩, hl.addE (t := 14) (hk) rfl (by first | rfl), hh2⟩ ?_
                  clear hk hh2 hl hh a w
                  intro i a w hI
                  obtain ⟨⟨hi1, hi2⟩, hl, hh⟩ := hI
                  subst hKS2; subst hHS2
                  simp only [List.cons_append, List.nil_append, List.append_nil] at hl hh
                  refine c_seq ?_
                  refine c_seq ?_
                  refine c_region ?_
                  refine wl (wl_val hl rfl trivial (r_move hl rfl) ?_)
                  clear hl a; intro a hl
                  refine wl (wl_val hl rfl trivial (r_move hl rfl) ?_)
                  clear hl a; intro a hl
                  refine wl (wl_val hl rfl trivial (r_field hl rfl fld36_2) ?_)
                  clear hl a; intro a hl
                  refine wl (w_load hl hh rfl trivial one27 rfl (by repeat (first | exact find_head | apply find_tail)) (by first | rfl) ?_)
                  clear hl a; intro a hl
                  refine wl (w_call hl hh rfl trivial rfl cal28 rfl (nodeSize_spec A2 hA5) (by repeat (first | exact keeps_nil | apply keeps_cons (by repeat (first | exact find_head | apply find_tail)) (by first  | rfl) | exact keeps_self | apply keeps_mv)) trivial ?_)
                  clear hl hh a w; intro vc Fc a w hR hl hh
                  obtain ⟨rfl, rfl⟩ := hR
                  try simp only [List.cons_append, List.nil_append] at hh
                  rw [← hsx] at hl
                  first | refine wl (wl_val hl rfl trivial (r_add hl rfl rfl (by simp only [Fits]; omega)) ?_) | refine wl (wl_val hl rfl trivial (r_addW hl rfl rfl) ?_)
                  clear hl a; intro a hl
                  refine wl (wl_val hl rfl trivial (r_lss hl rfl rfl) ?_)
                  clear hl a; intro a hl
                  refine w_nil ?_
                  have hl2 := hl.add (t := 3) (hl.add (t := 5) (hl.add (t := 7) (hl.add (t := 10) (hl.add (t := 12) (hl.add (t := 13) (hl.add (t := 14) (hl.add (t := 45) (hl.add (t := 46) (hl.add (t := 47) (hl.add (t := 89) (hl.nil) rfl) rfl) rfl) rfl) rfl) rfl) rfl) rfl) rfl) rfl) rfl; clear hl; have hl := hl2; clear hl2
                  refine then_normal ?_
                  refine c_cond hl rfl ?_ ?_
                  · intro hc5
                    try simp only [decide_eq_true_eq, decide_eq_false_iff_not, Bool.not_eq_true', Bool.not_eq_false', Bool.not_eq_true, Bool.not_eq_false, Bool.and_eq_true, Bool.or_eq_true, Bool.and_eq_false_iff, Bool.or_eq_false_iff, Bool.not_not, ne_eq, Int.not_lt, Int.not_le, Decidable.not_not, beq_iff_eq, bne_iff_ne] at hc5
                    refine wp_skip ?_
                    refine then_normal ?_
                    refine c_seq ?_
                    refine wp_block ?_
                    refine c_seq ?_
                    refine c_region ?_
                    refine wl (wl_val hl rfl trivial (r_move hl rfl) ?_)
                    clear hl a; intro a hl
                    refine wl (wl_val hl rfl trivial (r_nilCheck hl rfl) ?_)
                    clear hl a; intro a hl
                    refine wl (wl_val hl rfl trivial (r_field hl rfl fld41_0) ?_)
                    clear hl a; intro a hl
                    refine wl (w_load hl hh rfl trivial one38 rfl (by repeat (first | exact find_head | apply find_tail)) (by first | rfl) ?_)
                    clear hl a; intro a hl
                    refine wl (wl_val hl rfl trivial (r_move hl rfl) ?_)
                    clear hl a; intro a hl
                    first | refine wl (wl_val hl rfl trivial (r_conv hl rfl Try.underlying3 Try.underlying34 (by simp only [Fits]; omega)) ?_) | refine wl (wl_val hl rfl trivial (r_convW hl rfl Try.underlying3 Try.underlying34) ?_)
                    clear hl a; intro a hl
                    refine wl (w_call hl hh rfl trivial rfl cal22 rfl (gen_yes b (doF s.1.f ⟨kd2, x2, A2, B2, E2, D2⟩).f i _ rfl (by omega)) (by repeat (first | exact keeps_nil | apply keeps_cons (by repeat (first | exact find_head | apply find_tail)) (by first  | rfl) | exact keeps_self | apply keeps_mv)) trivial ?_)
                    clear hl hh a w; intro vc Fc a w hR hl hh
                    obtain ⟨rfl, rfl⟩ := hR
                    try simp only [List.cons_append, List.nil_append] at hh
                    obtain ⟨hat1, hat2⟩ := tIn_at hOk hi1 (by omega)
                    refine wl (wl_val hl rfl trivial (r_move hl rfl) ?_)
                    clear hl a; intro a hl
                    refine wl (wl_val hl rfl trivial (r_extract hl rfl (by simp only [List.getElem?_toArray, List.getElem?_cons_zero, List.getElem?_cons_succ]; rfl)) ?_)
                    clear hl a; intro a hl
                    refine wl (wl_val hl rfl trivial (r_extract hl rfl (by simp only [List.getElem?_toArray, List.getElem?_cons_zero, List.getElem?_cons_succ]; rfl)) ?_)
                    clear hl a; intro a hl
                    refine wl (wl_val hl rfl trivial (r_assign hl rfl) ?_)
                    clear hl a; intro a hl
                    refine wl (wl_val hl rfl trivial (r_assign hl rfl) ?_)
                    clear hl a; intro a hl
                    refine w_nil ?_
                    have hl2 := hl.add (t := 3) (hl.add (t := 5) (hl.add (t := 7) (hl.add (t := 10) (hl.add (t := 12) (hl.add (t := 13) (hl.add (t := 14) (hl.add (t := 15) (hl.add (t := 16) (hl.add (t := 45) (hl.add (t := 46) (hl.add (t := 47) (hl.nil) rfl) rfl) rfl) rfl) rfl) rfl) rfl) rfl) rfl) rfl) rfl) rfl; clear hl; have hl := hl2; clear hl2
                    refine then_normal ?_
                    refine c_seq ?_
                    refine c_seq ?_
                    refine c_region ?_
                    refine wl (wl_val hl rfl trivial (r_move hl rfl) ?_)
                    clear hl a; intro a hl
                    refine wl (wl_val hl rfl trivial (r_neq hl rfl rfl) ?_)
                    clear hl a; intro a hl
                    refine wl (wl_val hl rfl trivial (r_move hl rfl) ?_)
                    clear hl a; intro a hl
                    refine sl_split (t := 104) hl rfl ?_ ?_
                    · intro hg3; clear hl; intro hl
                      try simp only [decide_eq_true_eq, decide_eq_false_iff_not, Bool.not_eq_true', Bool.not_eq_false', Bool.not_eq_true, Bool.not_eq_false, Bool.and_eq_true, Bool.or_eq_true, Bool.and_eq_false_iff, Bool.or_eq_false_iff, Bool.not_not, ne_eq, Int.not_lt, Int.not_le, Decidable.not_not, beq_iff_eq, bne_iff_ne] at hg3
                      exfalso; first | omega | (simp at *; done) | (simp at *; omega)
                    · intro hg3; clear hl; intro hl
                      try simp only [decide_eq_true_eq, decide_eq_false_iff_not, Bool.not_eq_true', Bool.not_eq_false', Bool.not_eq_true, Bool.not_eq_false, Bool.and_eq_true, Bool.or_eq_true, Bool.and_eq_false_iff, Bool.or_eq_false_iff, Bool.not_not, ne_eq, Int.not_lt, Int.not_le, Decidable.not_not, beq_iff_eq, bne_iff_ne] at hg3
                      refine wl (wl_val hl rfl ⟨_, _, rfl, rfl, rfl⟩ (r_move hl rfl) ?_)
                      clear hl a; intro a hl
                      refine wl (wl_val hl rfl ⟨_, _, rfl, rfl, rfl⟩ (r_move hl rfl) ?_)
                      clear hl a; intro a hl
                      refine wl (wl_val hl rfl ⟨_, _, rfl, rfl, rfl⟩ (r_indexA hl rfl rfl arr58 (by omega) (by omega) (by first | (simp only [Int.reduceToNat]; rfl) | exact toNat_add1 _ | exact toNat_add2 _ _ | exact toNat_emod _ _ | exact Int.toNat_natCast _ | rfl)) ?_)
                      clear hl a; intro a hl
                      refine wl (w_load hl hh rfl ⟨_, _, rfl, rfl, rfl⟩ one27 rfl (by repeat (first | exact find_head | apply find_tail)) (by exact arr_load (by omega)) ?_)
                      clear hl a; intro a hl
                      try rw [hat1] at hl
                      refine wl (wl_val hl rfl ⟨_, _, rfl, rfl, rfl⟩ (r_leq hl rfl rfl) ?_)
                      clear hl a; intro a hl
                      refine wl (wl_val hl rfl trivial (r_pickF hl rfl rfl) ?_)
                      clear hl a; intro a hl
                      refine wl (wl_val hl rfl trivial (r_move hl rfl) ?_)
                      clear hl a; intro a hl
                      refine sl_split (t := 111) hl rfl ?_ ?_
                      · intro hg4; clear hl; intro hl
                        try simp only [decide_eq_true_eq, decide_eq_false_iff_not, Bool.not_eq_true', Bool.not_eq_false', Bool.not_eq_true, Bool.not_eq_false, Bool.and_eq_true, Bool.or_eq_true, Bool.and_eq_false_iff, Bool.or_eq_false_iff, Bool.not_not, ne_eq, Int.not_lt, Int.not_le, Decidable.not_not, beq_iff_eq, bne_iff_ne] at hg4
                        exfalso; first | omega | (simp at *; done) | (simp at *; omega)
                      · intro hg4; clear hl; intro hl
                        try simp only [decide_eq_true_eq, decide_eq_false_iff_not, Bool.not_eq_true', Bool.not_eq_false', Bool.not_eq_true, Bool.not_eq_false, Bool.and_eq_true, Bool.or_eq_true, Bool.and_eq_false_iff, Bool.or_eq_false_iff, Bool.not_not, ne_eq, Int.not_lt, Int.not_le, Decidable.not_not, beq_iff_eq, bne_iff_ne] at hg4
                        refine wl (wl_val hl rfl ⟨_, _, rfl, rfl, rfl⟩ (r_move hl rfl) ?_)
                        clear hl a; intro a hl
                        refine wl (wl_val hl rfl ⟨_, _, rfl, rfl, rfl⟩ (r_move hl rfl) ?_)
                        clear hl a; intro a hl
                        refine wl (w_call hl hh rfl ⟨_, _, rfl, rfl, rfl⟩ rfl cal31 rfl (refGen_spec r0) (by repeat (first | exact keeps_nil | apply keeps_cons (by repeat (first | exact find_head | apply find_tail)) (by first  | rfl) | exact keeps_self | apply keeps_mv)) trivial ?_)
                        clear hl hh a w; intro vc Fc a w hR hl hh
                        obtain ⟨rfl, rfl⟩ := hR
                        try simp only [List.cons_append, List.nil_append] at hh
                        rw [hdiv] at hl
                        refine wl (wl_val hl rfl ⟨_, _, rfl, rfl, rfl⟩ (r_neq hl rfl rfl) ?_)
                        clear hl a; intro a hl
                        refine wl (wl_val hl rfl trivial (r_pickF hl rfl rfl) ?_)
                        clear hl a; intro a hl
                        refine w_nil ?_
                        have hl2 := hl.add (t := 3) (hl.add (t := 5) (hl.add (t := 7) (hl.add (t := 10) (hl.add (t := 12) (hl.add (t := 13) (hl.add (t := 14) (hl.add (t := 15) (hl.add (t := 45) (hl.add (t := 46) (hl.add (t := 47) (hl.add (t := 116) (hl.nil) rfl) rfl) rfl) rfl) rfl) rfl) rfl) rfl) rfl) rfl) rfl) rfl; clear hl; have hl := hl2; clear hl2
                        refine then_normal ?_
                        refine c_cond hl rfl ?_ ?_
                        · intro hc6
                          try simp only [decide_eq_true_eq, decide_eq_false_iff_not, Bool.not_eq_true', Bool.not_eq_false', Bool.not_eq_true, Bool.not_eq_false, Bool.and_eq_true, Bool.or_eq_true, Bool.and_eq_false_iff, Bool.or_eq_false_iff, Bool.not_not, ne_eq, Int.not_lt, Int.not_le, Decidable.not_not, beq_iff_eq, bne_iff_ne] at hc6
                          exfalso; first | omega | (simp at *; done) | (simp at *; omega)
                        · intro hc6
                          try simp only [decide_eq_true_eq, decide_eq_false_iff_not, Bool.not_eq_true', Bool.not_eq_false', Bool.not_eq_true, Bool.not_eq_false, Bool.and_eq_true, Bool.or_eq_true, Bool.and_eq_false_iff, Bool.or_eq_false_iff, Bool.not_not, ne_eq, Int.not_lt, Int.not_le, Decidable.not_not, beq_iff_eq, bne_iff_ne] at hc6
                          refine wp_skip ?_
                          refine then_normal ?_
                          refine c_region ?_
                          refine wl (wl_val hl rfl trivial (r_move hl rfl) ?_)
                          clear hl a; intro a hl
                          refine wl (wl_val hl rfl trivial (r_move hl rfl) ?_)
                          clear hl a; intro a hl
                          refine wl (wl_val hl rfl trivial (r_indexA hl rfl rfl arr58 (by omega) (by omega) (by first | (simp only [Int.reduceToNat]; rfl) | exact toNat_add1 _ | exact toNat_add2 _ _ | exact toNat_emod _ _ | exact Int.toNat_natCast _ | rfl)) ?_)
                          clear hl a; intro a hl
                          refine wl (w_store hl hh trivial one27 rfl rfl (by repeat (first | exact find_head | apply find_tail)) (by rw [arrL_length]; omega) (by first | rfl | (apply Row.one; assumption)) (by exact arr_store (by omega)) ?_)
                          clear hh w; intro w hh
                          refine w_nil ?_
                          have hl2 := hl.add (t := 3) (hl.add (t := 5) (hl.add (t := 7) (hl.add (t := 10) (hl.add (t := 12) (hl.add (t := 13) (hl.add (t := 14) (hl.add (t := 45) (hl.add (t := 46) (hl.add (t := 47) (hl.nil) rfl) rfl) rfl) rfl) rfl) rfl) rfl) rfl) rfl) rfl; clear hl; have hl := hl2; clear hl2
                          refine blk_normal ?_
                          refine then_normal ?_
                          refine c_region ?_
                          refine wl (wl_val hl rfl trivial (r_move hl rfl) ?_)
                          clear hl a; intro a hl
                          first | refine wl (wl_val hl rfl trivial (r_add hl rfl rfl (by simp only [Fits]; omega)) ?_) | refine wl (wl_val hl rfl trivial (r_addW hl rfl rfl) ?_)
                          clear hl a; intro a hl
                          refine wl (wl_val hl rfl trivial (r_assign hl rfl) ?_)
                          clear hl a; intro a hl
                          refine w_nil ?_
                          have hl2 := hl.add (t := 3) (hl.add (t := 5) (hl.add (t := 7) (hl.add (t := 10) (hl.add (t := 12) (hl.add (t := 13) (hl.add (t := 14) (hl.add (t := 45) (hl.add (t := 46) (hl.add (t := 47) (hl.nil) rfl) rfl) rfl) rfl) rfl) rfl) rfl) rfl) rfl) rfl; clear hl; have hl := hl2; clear hl2
                          refine then_normal ?_
                          refine ⟨i + 1, (by omega), ⟨by omega, by omega⟩, hl.addE (t := 14) (hl.addE (t := 3) (hl.addE (t := 5) (hl.addE (t := 7) (hl.addE (t := 10) (hl.addE (t := 12) (hl.addE (t := 13) (hl.addE (t := 45) (hl.addE (t := 46) (hl.addE (t := 47) (hl.nil) rfl (by first | rfl | rfl)) rfl (by first | rfl | rfl)) rfl (by first | rfl | rfl)) rfl (by first | rfl | rfl)) rfl (by first | rfl | rfl)) rfl (by first | rfl | rfl)) rfl (by first | rfl | rfl)) rfl (by first | rfl | rfl)) rfl (by first | rfl | rfl)) rfl (by first | rfl | rfl), hh.keep (by repeat (first | exact keeps_nil | apply keeps_cons (by repeat (first | exact find_head | apply find_tail)) (by first  | exact tIn_succ _ _ _ _ hi1 | rfl) | exact keeps_self | apply keeps_mv))⟩
                  · intro hc5
                    try simp only [decide_eq_true_eq, decide_eq_false_iff_not, Bool.not_eq_true', Bool.not_eq_false', Bool.not_eq_true, Bool.not_eq_false, Bool.and_eq_true, Bool.or_eq_true, Bool.and_eq_false_iff, Bool.or_eq_false_iff, Bool.not_not, ne_eq, Int.not_lt, Int.not_le, Decidable.not_not, beq_iff_eq, bne_iff_ne] at hc5
                    refine wp_exit ?_
                    refine then_exit ?_
                    refine then_exit ?_
                    refine blk_exit ?_
                    refine blk_normal ?_
                    refine then_normal ?_
                    refine c_region ?_
                    first | refine wl (wl_val hl rfl trivial (r_add hl rfl rfl (by simp only [Fits]; omega)) ?_) | refine wl (wl_val hl rfl trivial (r_addW hl rfl rfl) ?_)
                    clear hl a; intro a hl
                    refine wl (wl_val hl rfl trivial (r_move hl rfl) ?_)
                    clear hl a; intro a hl
                    refine w_nil ?_
                    have hl2 := hl.add (t := 3) (hl.add (t := 5) (hl.add (t := 7) (hl.add (t := 45) (hl.add (t := 46) (hl.add (t := 47) (hl.nil) rfl) rfl) rfl) rfl) rfl) rfl; clear hl; have hl := hl2; clear hl2
                    refine then_normal ?_
                    refine ⟨(⟨s.1.i + 1, (doF s.1.f ⟨kd2, x2, A2, B2, E2, D2⟩).f, fl2, keepF s.1.rs ⟨kd2, x2, A2, B2, E2, D2⟩ (doF s.1.f ⟨kd2, x2, A2, B2, E2, D2⟩).ans, rv2, E3⟩, l2), (by dsimp only; omega), ⟨hI.next hi hok hI2 hR2, hN⟩, hl.addE (t := 47) (hl.addE (t := 3) (hl.addE (t := 5) (hl.addE (t := 7) (hl.addE (t := 45) (hl.addE (t := 46) (hl.nil) rfl (by first | rfl | rfl)) rfl (by first | rfl | rfl)) rfl (by first | rfl | rfl)) rfl (by first | rfl | rfl)) rfl (by first | rfl | rfl)) rfl (by first | rfl | rfl), (by simp only [List.cons_append, List.nil_append, List.append_nil]; exact hh.keep (by repeat (first | exact keeps_nil | apply keeps_cons (by repeat (first | exact find_head | apply find_tail)) (by first  | (rw [hl2]; done) | (rw [hl2]) | exact tIn_all hOk (by omega) | exact tV_same hgn | rfl) | exact keeps_self | apply keeps_mv)))⟩
        ·
          try clear hM
          refine id (w_alloc hl hh rfl trivial zero36 rfl ?_)
          clear hl hh a w; intro k10 a w hl hh
          have hM : Mem [(gb, C [.pointer (some ⟨b, 0, none⟩), s.1.rv] 41), (k9, C [.int .u8 kd, .int .u32 x, .int .u64 A, .int .u64 B, .int .u64 E, .int .u64 D] 36)] w := (by repeat (first | exact Mem.nil | refine Mem.cons hh.mem (by repeat (first | exact find_head | apply find_tail)) ?_ | refine Mem.consR hh (by assumption) (by simp) ?_))
          refine d_step (fun _ => hM) ?_
          refine d_one (i := 5) (by kernel_rfl) rfl ?_
          try clear hM
          refine id (w_call hl hh rfl trivial rfl cal16 rfl (plain_spec s.1.rs s.1.rv s.1.Er hI.row (by have := hI.len; omega) ⟨kd, x, A, B, E, D⟩) (by repeat (first | exact keeps_nil | apply keeps_cons (by repeat (first | exact find_head | apply find_tail)) (by first  | rfl) | exact keeps_self | apply keeps_mv)) trivial ?_)
          clear hl hh a w; intro vc Fc a w hR hl hh
          obtain ⟨rfl, rfl⟩ := hR
          try simp only [List.cons_append, List.nil_append] at hh
          replace hh := hh.comm; simp only [List.cons_append, List.nil_append, List.append_nil] at hh; have hok : (plainF s.1.rs ⟨kd, x, A, B, E, D⟩).ok := plainF_ok hqo hI.ok; generalize hp2 : plainF s.1.rs ⟨kd, x, A, B, E, D⟩ = o2 at hl hok; obtain ⟨kd2, x2, A2, B2, E2, D2⟩ := o2; simp only [MOp.vals] at hl; obtain ⟨fl2, hI2⟩ := hI.inv.do hok
          have hM : Mem [(gb, C [.pointer (some ⟨b, 0, none⟩), s.1.rv] 41), (k9, C [.int .u8 kd, .int .u32 x, .int .u64 A, .int .u64 B, .int .u64 E, .int .u64 D] 36)] w := (by repeat (first | exact Mem.nil | refine Mem.cons hh.mem (by repeat (first | exact find_head | apply find_tail)) ?_ | refine Mem.consR hh (by assumption) (by simp) ?_))
          refine d_step (fun _ => hM) ?_
          refine d_one (i := 7) (by kernel_rfl) rfl ?_
          try clear hM
          refine id (w_storeA hl hh trivial agg36 rfl rfl (by repeat (first | exact find_head | apply find_tail)) (by first | rfl | (simp; done)) (by first | (simp; done) | (simp; omega)) (by first | rfl | (simp; done)) (by first | (simp only [setL, List.getElem?_cons_zero, List.getElem?_cons_succ, Value.cells, List.take_zero, List.take_succ_cons, List.take_nil, List.drop_zero, List.drop_succ_cons, List.drop_nil, List.length_cons, List.length_nil, List.cons_append, List.nil_append, List.append_nil, Nat.zero_add, Nat.add_zero, Nat.reduceAdd, Nat.reduceBEq, Nat.reduceEqDiff, Nat.ble, BEq.rfl, Bool.and_true, Bool.and_self, cond_true, beq_self_eq_true]; rfl)) ?_)
          clear hh w; intro w hh
          refine d_step (fun h => absurd h (by decide)) ?_
          refine d_done (by kernel_rfl) ?_
          try clear hM
          have hl2 := hl.add (t := 3) (hl.add (t := 5) (hl.add (t := 7) (hl.add (t := 10) (hl.add (t := 45) (hl.add (t := 46) (hl.add (t := 47) (hl.nil) rfl) rfl) rfl) rfl) rfl) rfl) rfl; clear hl; have hl := hl2; clear hl2
          refine then_normal ?_
          refine c_seq ?_
          refine c_region ?_
          refine wl (wl_val hl rfl trivial (r_move hl rfl) ?_)
          clear hl a; intro a hl
          first | refine wl (w_loadA hl hh rfl trivial agg36 rfl (by repeat (first | exact find_head | apply find_tail)) (by first | (simp only [List.getElem?_cons_zero, List.getElem?_cons_succ, Value.cells, List.take_zero, List.take_succ_cons, List.take_nil, List.drop_zero, List.drop_succ_cons, List.drop_nil, List.length_cons, List.length_nil, List.cons_append, List.nil_append, List.append_nil, Nat.zero_add, Nat.add_zero, Nat.reduceAdd, Nat.reduceBEq, Nat.reduceEqDiff, Nat.ble, BEq.rfl, Bool.and_true, Bool.and_self, cond_true, beq_self_eq_true]; rfl)) (by first | rfl | (simp; done)) ?_) | refine wl (w_loadRA hl hh rfl trivial agg36 rfl hm (by simp) hqv rfl ?_)
          clear hl a; intro a hl
          refine wl (w_call hl hh rfl trivial rfl cal17 rfl (gdo_spec gb b hI.inv (by omega) s.1.rs s.1.rv s.1.Er hI.row (by have := hI.len; omega) ⟨kd2, x2, A2, B2, E2, D2⟩ hok) (by repeat (first | exact keeps_nil | apply keeps_cons (by repeat (first | exact find_head | apply find_tail)) (by first  | rfl) | exact keeps_self | apply keeps_mv)) trivial ?_)
          clear hl hh a w; intro vc Fc a w hR hl hh
          obtain ⟨rfl, rv2, E3, hR2, rfl⟩ := hR
          try simp only [List.cons_append, List.nil_append] at hh
          replace hh := has_comm2 hh; simp only [List.cons_append, List.nil_append, List.append_nil] at hh; have hts := doF_st s.1.f ⟨kd2, x2, A2, B2, E2, D2⟩; generalize hr : (doF s.1.f ⟨kd2, x2, A2, B2, E2, D2⟩).ans = r at hl hts; obtain ⟨t, pp, u, u1⟩ := r; simp only [Ans.l] at hl; simp only at hts
          refine wl (w_alloc hl hh rfl trivial zero44 rfl ?_)
          clear hl hh a w; intro k11 a w hl hh
          refine wl (w_storeA hl hh trivial agg44 rfl rfl (by repeat (first | exact find_head | apply find_tail)) (by first | rfl | (simp; done)) (by first | (simp; done) | (simp; omega)) (by first | rfl | (simp; done)) (by first | (simp only [setL, List.getElem?_cons_zero, List.getElem?_cons_succ, Value.cells, List.take_zero, List.take_succ_cons, List.take_nil, List.drop_zero, List.drop_succ_cons, List.drop_nil, List.length_cons, List.length_nil, List.cons_append, List.nil_append, List.append_nil, Nat.zero_add, Nat.add_zero, Nat.reduceAdd, Nat.reduceBEq, Nat.reduceEqDiff, Nat.ble, BEq.rfl, Bool.and_true, Bool.and_self, cond_true, beq_self_eq_true]; rfl)) ?_)
          clear hh w; intro w hh
          refine w_nil ?_
          have hl2 := hl.add (t := 3) (hl.add (t := 5) (hl.add (t := 7) (hl.add (t := 10) (hl.add (t := 11) (hl.add (t := 45) (hl.add (t := 46) (hl.add (t := 47) (hl.nil) rfl) rfl) rfl) rfl) rfl) rfl) rfl) rfl; clear hl; have hl := hl2; clear hl2
          refine then_normal ?_
          refine c_seq ?_
          refine c_seq ?_
          refine c_region ?_
          refine wl (wl_val hl rfl trivial (r_field hl rfl fld36_0) ?_)
          clear hl a; intro a hl
          refine wl (w_load hl hh rfl trivial one32 rfl (by repeat (first | exact find_head | apply find_tail)) (by first | rfl) ?_)
          clear hl a; intro a hl
          refine wl (wl_val hl rfl trivial (r_neq hl rfl rfl) ?_)
          clear hl a; intro a hl
          refine wl (wl_val hl rfl trivial (r_move hl rfl) ?_)
          clear hl a; intro a hl
          refine sl_split (t := 63) hl rfl ?_ ?_
          · intro hg5; clear hl; intro hl
            try simp only [decide_eq_true_eq, decide_eq_false_iff_not, Bool.not_eq_true', Bool.not_eq_false', Bool.not_eq_true, Bool.not_eq_false, Bool.and_eq_true, Bool.or_eq_true, Bool.and_eq_false_iff, Bool.or_eq_false_iff, Bool.not_not, ne_eq, Int.not_lt, Int.not_le, Decidable.not_not, beq_iff_eq, bne_iff_ne] at hg5
            refine wl (wl_skip hl rfl ⟨_, _, rfl, rfl, rfl⟩ ?_)
            clear hl a; intro a hl
            refine wl (wl_skip hl rfl ⟨_, _, rfl, rfl, rfl⟩ ?_)
            clear hl a; intro a hl
            refine wl (wl_skip hl rfl ⟨_, _, rfl, rfl, rfl⟩ ?_)
            clear hl a; intro a hl
            refine wl (wl_val hl rfl trivial (r_pickT hl rfl rfl) ?_)
            clear hl a; intro a hl
            refine w_nil ?_
            have hl2 := hl.add (t := 3) (hl.add (t := 5) (hl.add (t := 7) (hl.add (t := 10) (hl.add (t := 11) (hl.add (t := 45) (hl.add (t := 46) (hl.add (t := 47) (hl.add (t := 67) (hl.nil) rfl) rfl) rfl) rfl) rfl) rfl) rfl) rfl) rfl; clear hl; have hl := hl2; clear hl2
            refine then_normal ?_
            refine c_condT hl rfl ?_
            have hgn := doF_gens hI.inv ⟨kd2, x2, A2, B2, E2, D2⟩ (by rw [hr]; simp only; omega)
            obtain ⟨l2, hl2⟩ : ∃ l2, l2 = s.2 := ⟨_, rfl⟩
            have hN : J7 (doF s.1.f ⟨kd2, x2, A2, B2, E2, D2⟩).f l2 := by rw [hl2]; exact hJ.same hgn
            refine wp_exit ?_
            refine then_exit ?_
            refine blk_exit ?_
            refine then_normal ?_
            refine c_region ?_
            first | refine wl (wl_val hl rfl trivial (r_add hl rfl rfl (by simp only [Fits]; omega)) ?_) | refine wl (wl_val hl rfl trivial (r_addW hl rfl rfl) ?_)
            clear hl a; intro a hl
            refine wl (wl_val hl rfl trivial (r_move hl rfl) ?_)
            clear hl a; intro a hl
            refine w_nil ?_
            have hl2 := hl.add (t := 3) (hl.add (t := 5) (hl.add (t := 7) (hl.add (t := 45) (hl.add (t := 46) (hl.add (t := 47) (hl.nil) rfl) rfl) rfl) rfl) rfl) rfl; clear hl; have hl := hl2; clear hl2
            refine then_normal ?_
            refine ⟨(⟨s.1.i + 1, (doF s.1.f ⟨kd2, x2, A2, B2, E2, D2⟩).f, fl2, keepF s.1.rs ⟨kd2, x2, A2, B2, E2, D2⟩ (doF s.1.f ⟨kd2, x2, A2, B2, E2, D2⟩).ans, rv2, E3⟩, l2), (by dsimp only; omega), ⟨hI.next hi hok hI2 hR2, hN⟩, hl.addE (t := 47) (hl.addE (t := 3) (hl.addE (t := 5) (hl.addE (t := 7) (hl.addE (t := 45) (hl.addE (t := 46) (hl.nil) rfl (by first | rfl | rfl)) rfl (by first | rfl | rfl)) rfl (by first | rfl | rfl)) rfl (by first | rfl | rfl)) rfl (by first | rfl | rfl)) rfl (by first | rfl | rfl), (by simp only [List.cons_append, List.nil_append, List.append_nil]; exact hh.keep (by repeat (first | exact keeps_nil | apply keeps_cons (by repeat (first | exact find_head | apply find_tail)) (by first  | (rw [hl2]; done) | (rw [hl2]) | exact tIn_all hOk (by omega) | exact tV_same hgn | rfl) | exact keeps_self | apply keeps_mv)))⟩
          · intro hg5; clear hl; intro hl
            try simp only [decide_eq_true_eq, decide_eq_false_iff_not, Bool.not_eq_true', Bool.not_eq_false', Bool.not_eq_true, Bool.not_eq_false, Bool.and_eq_true, Bool.or_eq_true, Bool.and_eq_false_iff, Bool.or_eq_false_iff, Bool.not_not, ne_eq, Int.not_lt, Int.not_le, Decidable.not_not, beq_iff_eq, bne_iff_ne] at hg5
            refine wl (wl_val hl rfl ⟨_, _, rfl, rfl, rfl⟩ (r_field hl rfl fld44_0) ?_)
            clear hl a; intro a hl
            refine wl (w_load hl hh rfl ⟨_, _, rfl, rfl, rfl⟩ one42 rfl (by repeat (first | exact find_head | apply find_tail)) (by first | rfl) ?_)
            clear hl a; intro a hl
            refine wl (wl_val hl rfl ⟨_, _, rfl, rfl, rfl⟩ (r_neq hl rfl rfl) ?_)
            clear hl a; intro a hl
            refine wl (wl_val hl rfl trivial (r_pickF hl rfl rfl) ?_)
            clear hl a; intro a hl
            refine w_nil ?_
            have hl2 := hl.add (t := 3) (hl.add (t := 5) (hl.add (t := 7) (hl.add (t := 10) (hl.add (t := 11) (hl.add (t := 45) (hl.add (t := 46) (hl.add (t := 47) (hl.add (t := 67) (hl.nil) rfl) rfl) rfl) rfl) rfl) rfl) rfl) rfl) rfl; clear hl; have hl := hl2; clear hl2
            refine then_normal ?_
            refine c_cond hl rfl ?_ ?_
            · intro hc3
              try simp only [decide_eq_true_eq, decide_eq_false_iff_not, Bool.not_eq_true', Bool.not_eq_false', Bool.not_eq_true, Bool.not_eq_false, Bool.and_eq_true, Bool.or_eq_true, Bool.and_eq_false_iff, Bool.or_eq_false_iff, Bool.not_not, ne_eq, Int.not_lt, Int.not_le, Decidable.not_not, beq_iff_eq, bne_iff_ne] at hc3
              have hgn := doF_gens hI.inv ⟨kd2, x2, A2, B2, E2, D2⟩ (by rw [hr]; simp only; omega)
              obtain ⟨l2, hl2⟩ : ∃ l2, l2 = s.2 := ⟨_, rfl⟩
              have hN : J7 (doF s.1.f ⟨kd2, x2, A2, B2, E2, D2⟩).f l2 := by rw [hl2]; exact hJ.same hgn
              refine wp_exit ?_
              refine then_exit ?_
              refine blk_exit ?_
              refine then_normal ?_
              refine c_region ?_
              first | refine wl (wl_val hl rfl trivial (r_add hl rfl rfl (by simp only [Fits]; omega)) ?_) | refine wl (wl_val hl rfl trivial (r_addW hl rfl rfl) ?_)
              clear hl a; intro a hl
              refine wl (wl_val hl rfl trivial (r_move hl rfl) ?_)
              clear hl a; intro a hl
              refine w_nil ?_
              have hl2 := hl.add (t := 3) (hl.add (t := 5) (hl.add (t := 7) (hl.add (t := 45) (hl.add (t := 46) (hl.add (t := 47) (hl.nil) rfl) rfl) rfl) rfl) rfl) rfl; clear hl; have hl := hl2; clear hl2
              refine then_normal ?_
              refine ⟨(⟨s.1.i + 1, (doF s.1.f ⟨kd2, x2, A2, B2, E2, D2⟩).f, fl2, keepF s.1.rs ⟨kd2, x2, A2, B2, E2, D2⟩ (doF s.1.f ⟨kd2, x2, A2, B2, E2, D2⟩).ans, rv2, E3⟩, l2), (by dsimp only; omega), ⟨hI.next hi hok hI2 hR2, hN⟩, hl.addE (t := 47) (hl.addE (t := 3) (hl.addE (t := 5) (hl.addE (t := 7) (hl.addE (t := 45) (hl.addE (t := 46) (hl.nil) rfl (by first | rfl | rfl)) rfl (by first | rfl | rfl)) rfl (by first | rfl | rfl)) rfl (by first | rfl | rfl)) rfl (by first | rfl | rfl)) rfl (by first | rfl | rfl), (by simp only [List.cons_append, List.nil_append, List.append_nil]; exact hh.keep (by repeat (first | exact keeps_nil | apply keeps_cons (by repeat (first | exact find_head | apply find_tail)) (by first  | (rw [hl2]; done) | (rw [hl2]) | exact tIn_all hOk (by omega) | exact tV_same hgn | rfl) | exact keeps_self | apply keeps_mv)))⟩
            · intro hc3
              try simp only [decide_eq_true_eq, decide_eq_false_iff_not, Bool.not_eq_true', Bool.not_eq_false', Bool.not_eq_true, Bool.not_eq_false, Bool.and_eq_true, Bool.or_eq_true, Bool.and_eq_false_iff, Bool.or_eq_false_iff, Bool.not_not, ne_eq, Int.not_lt, Int.not_le, Decidable.not_not, beq_iff_eq, bne_iff_ne] at hc3
              obtain ⟨hA1, hA2, hA3⟩ := doF_alloc s.1.f ⟨kd2, x2, A2, B2, E2, D2⟩ (by simp only; omega) (by rw [hr]; simp only; omega)
              obtain ⟨hA4, hA5, xx, flx, hIx, hOk, href⟩ := hI.inv.allocOk A2 hA3
              obtain ⟨r0, hr0⟩ : ∃ r0 : Nat, r0 = ((gen s.1.f xx).toNat + 1) * 65536 + xx := ⟨_, rfl⟩
              rw [← hr0] at href
              rw [hr, href] at hA2
              injection hA2 with _ _ e2 _
              subst e2
              rw [← hA1] at hOk hIx
              obtain ⟨sx, hsx⟩ : ∃ sx, sx = (A2 + 1) / 2 * 2 := ⟨_, rfl⟩
              rw [← hsx] at hOk
              have hk1 := hOk.s1
              have hk2 := hOk.s2
              have hk3 := hOk.x1
              have hk4 := hOk.xs
              have hk5 := hOk.g0
              obtain ⟨hmod, hdiv⟩ := ref_parts (by omega) hr0
              have hnew := hJ.new hOk hr0
              obtain ⟨l2, hl2⟩ : ∃ l2, l2 = mput s.2 (r0 : Int) (.bool true) := ⟨_, rfl⟩
              have hN : J7 (doF s.1.f ⟨kd2, x2, A2, B2, E2, D2⟩).f l2 := by rw [hl2]; exact hJ.alloc hOk hr0
              refine wp_skip ?_
              refine then_normal ?_
              refine c_seq ?_
              refine c_region ?_
              refine wl (wl_val hl rfl trivial (r_field hl rfl fld44_2) ?_)
              clear hl a; intro a hl
              refine wl (w_load hl hh rfl trivial one27 rfl (by repeat (first | exact find_head | apply find_tail)) (by first | rfl) ?_)
              clear hl a; intro a hl
              refine wl (wl_val hl rfl trivial (r_assign hl rfl) ?_)
              clear hl a; intro a hl
              refine w_nil ?_
              have hl2 := hl.add (t := 3) (hl.add (t := 5) (hl.add (t := 7) (hl.add (t := 10) (hl.add (t := 12) (hl.add (t := 45) (hl.add (t := 46) (hl.add (t := 47) (hl.nil) rfl) rfl) rfl) rfl) rfl) rfl) rfl) rfl; clear hl; have hl := hl2; clear hl2
              refine then_normal ?_
              refine c_seq ?_
              refine c_seq ?_
              refine c_region ?_
              refine wl (wl_val hl rfl trivial (r_move hl rfl) ?_)
              clear hl a; intro a hl
              refine wl (wl_val hl rfl trivial (r_move hl rfl) ?_)
              clear hl a; intro a hl
              refine wl (w_lookup (keyInt Try.underlying63) Try.underlying53 zero4 hl hh rfl trivial rfl rfl (by repeat (first | exact find_head | apply find_tail)) ?_)
              clear hl a; intro a hl
              rw [hnew] at hl
              refine wl (wl_val hl rfl trivial (r_move hl rfl) ?_)
              clear hl a; intro a hl
              refine sl_split (t := 73) hl rfl ?_ ?_
              · intro hg6; clear hl; intro hl
                try simp only [decide_eq_true_eq, decide_eq_false_iff_not, Bool.not_eq_true', Bool.not_eq_false', Bool.not_eq_true, Bool.not_eq_false, Bool.and_eq_true, Bool.or_eq_true, Bool.and_eq_false_iff, Bool.or_eq_false_iff, Bool.not_not, ne_eq, Int.not_lt, Int.not_le, Decidable.not_not, beq_iff_eq, bne_iff_ne] at hg6
                exfalso; first | omega | (simp at *; done) | (simp at *; omega)
              · intro hg6; clear hl; intro hl
                try simp only [decide_eq_true_eq, decide_eq_false_iff_not, Bool.not_eq_true', Bool.not_eq_false', Bool.not_eq_true, Bool.not_eq_false, Bool.and_eq_true, Bool.or_eq_true, Bool.and_eq_false_iff, Bool.or_eq_false_iff, Bool.not_not, ne_eq, Int.not_lt, Int.not_le, Decidable.not_not, beq_iff_eq, bne_iff_ne] at hg6
                refine wl (wl_val hl rfl ⟨_, _, rfl, rfl, rfl⟩ (r_move hl rfl) ?_)
                clear hl a; intro a hl
                refine wl (wl_val hl rfl ⟨_, _, rfl, rfl, rfl⟩ (r_eql hl rfl rfl) ?_)
                clear hl a; intro a hl
                refine wl (wl_val hl rfl trivial (r_pickF hl rfl rfl) ?_)
                clear hl a; intro a hl
                refine w_nil ?_
                have hl2 := hl.add (t := 3) (hl.add (t := 5) (hl.add (t := 7) (hl.add (t := 10) (hl.add (t := 12) (hl.add (t := 45) (hl.add (t := 46) (hl.add (t := 47) (hl.add (t := 76) (hl.nil) rfl) rfl) rfl) rfl) rfl) rfl) rfl) rfl) rfl; clear hl; have hl := hl2; clear hl2
                refine then_normal ?_
                refine c_cond hl rfl ?_ ?_
                · intro hc4
                  try simp only [decide_eq_true_eq, decide_eq_false_iff_not, Bool.not_eq_true', Bool.not_eq_false', Bool.not_eq_true, Bool.not_eq_false, Bool.and_eq_true, Bool.or_eq_true, Bool.and_eq_false_iff, Bool.or_eq_false_iff, Bool.not_not, ne_eq, Int.not_lt, Int.not_le, Decidable.not_not, beq_iff_eq, bne_iff_ne] at hc4
                  exfalso; first | omega | (simp at *; done) | (simp at *; omega)
                · intro hc4
                  try simp only [decide_eq_true_eq, decide_eq_false_iff_not, Bool.not_eq_true', Bool.not_eq_false', Bool.not_eq_true, Bool.not_eq_false, Bool.and_eq_true, Bool.or_eq_true, Bool.and_eq_false_iff, Bool.or_eq_false_iff, Bool.not_not, ne_eq, Int.not_lt, Int.not_le, Decidable.not_not, beq_iff_eq, bne_iff_ne] at hc4
                  refine wp_skip ?_
                  refine then_normal ?_
                  refine c_seq ?_
                  refine c_region ?_
                  refine wl (wl_val hl rfl trivial (r_move hl rfl) ?_)
                  clear hl a; intro a hl
                  refine wl (wl_val hl rfl trivial (r_move hl rfl) ?_)
                  clear hl a; intro a hl
                  refine wl (w_mapUpdate (keyInt Try.underlying63) Try.underlying53 hl hh trivial rfl rfl rfl (by repeat (first | exact find_head | apply find_tail)) ?_)
                  clear hh w; intro w hh
                  refine w_nil ?_
                  have hl2 := hl.add (t := 3) (hl.add (t := 5) (hl.add (t := 7) (hl.add (t := 10) (hl.add (t := 12) (hl.add (t := 45) (hl.add (t := 46) (hl.add (t := 47) (hl.nil) rfl) rfl) rfl) rfl) rfl) rfl) rfl) rfl; clear hl; have hl := hl2; clear hl2
                  refine then_normal ?_
                  refine c_seq ?_
                  refine c_region ?_
                  refine wl (wl_val hl rfl trivial (r_move hl rfl) ?_)
                  clear hl a; intro a hl
                  refine wl (w_call hl hh rfl trivial rfl cal27 rfl (refAddr_spec r0) (by repeat (first | exact keeps_nil | apply keeps_cons (by repeat (first | exact find_head | apply find_tail)) (by first  | rfl) | exact keeps_self | apply keeps_mv)) trivial ?_)
                  clear hl hh a w; intro vc Fc a w hR hl hh
                  obtain ⟨rfl, rfl⟩ := hR
                  try simp only [List.cons_append, List.nil_append] at hh
                  rw [hmod] at hl
                  first | refine wl (wl_val hl rfl trivial (r_conv hl rfl Try.underlying34 Try.underlying3 (by simp only [Fits]; omega)) ?_) | refine wl (wl_val hl rfl trivial (r_convW hl rfl Try.underlying34 Try.underlying3) ?_)
                  clear hl a; intro a hl
                  refine wl (wl_val hl rfl trivial (r_assign hl rfl) ?_)
                  clear hl a; intro a hl
                  refine w_nil ?_
                  have hl2 := hl.add (t := 3) (hl.add (t := 5) (hl.add (t := 7) (hl.add (t := 10) (hl.add (t := 12) (hl.add (t := 13) (hl.add (t := 45) (hl.add (t := 46) (hl.add (t := 47) (hl.nil) rfl) rfl) rfl) rfl) rfl) rfl) rfl) rfl) rfl; clear hl; have hl := hl2; clear hl2
                  refine then_normal ?_
                  refine c_seq ?_
                  refine c_region ?_
                  refine wl (wl_val hl rfl trivial (r_move hl rfl) ?_)
                  clear hl a; intro a hl
                  refine wl (wl_val hl rfl trivial (r_assign hl rfl) ?_)
                  clear hl a; intro a hl
                  refine w_nil ?_
                  have hl2 := hl.add (t := 3) (hl.add (t := 5) (hl.add (t := 7) (hl.add (t := 10) (hl.add (t := 12) (hl.add (t := 13) (hl.add (t := 14) (hl.add (t := 45) (hl.add (t := 46) (hl.add (t := 47) (hl.nil) rfl) rfl) rfl) rfl) rfl) rfl) rfl) rfl) rfl) rfl; clear hl; have hl := hl2; clear hl2
                  refine then_normal ?_
                  refine wp_block ?_
                  obtain ⟨KS2, hKS2, hk⟩ := (hl.add (t := 3) (hl.add (t := 5) (hl.add (t := 7) (hl.add (t := 10) (hl.add (t := 12) (hl.add (t := 13) (hl.add (t := 45) (hl.add (t := 46) (hl.add (t := 47) (hl.nil) rfl) rfl) rfl) rfl) rfl) rfl) rfl) rfl) rfl).name
                  obtain ⟨HS2, hHS2, hh2⟩ := hh.name (keeps_cons (b := k5) (o' := C (arrL 4096 (tIn s.1.f (doF s.1.f ⟨kd2, x2, A2, B2, E2, D2⟩).f xx xx)) 58) (by repeat (first | exact find_head | apply find_tail)) (by first | exact tIn_zero _ _ _ | rfl) (keeps_nil))
                  refine c_loop (α := Nat) (fun i => xx + sx - i) (fun i a w => (xx ≤ i ∧ i ≤ xx + sx) ∧ Sl 140 ([(14, .int .i64 i)] ++ KS2) a ∧ Has _ w0 ([(k5, C (arrL 4096 (tIn s.1.f (doF s.1.f ⟨kd2, x2, A2, B2, E2, D2⟩).f xx i)) 58)] ++ HS2) w) xx ⟨⟨by omega, by omega⟩, hl.addE (t := 14) (hk) rfl (by first | rfl), hh2⟩ ?_
                  clear hk hh2 hl hh a w
                  intro i a w hI
                  obtain ⟨⟨hi1, hi2⟩, hl, hh⟩ := hI
                  subst hKS2; subst hHS2
                  simp only [List.cons_append, List.nil_append, List.append_nil] at hl hh
                  refine c_seq ?_
                  refine c_seq ?_
                  refine c_region ?_
                  refine wl (wl_val hl rfl trivial (r_move hl rfl) ?_)
                  clear hl a; intro a hl
                  refine wl (wl_val hl rfl trivial (r_move hl rfl) ?_)
                  clear hl a; intro a hl
                  refine wl (wl_val hl rfl trivial (r_field hl rfl fld36_2) ?_)
                  clear hl a; intro a hl
                  refine wl (w_load hl hh rfl trivial one27 rfl (by repeat (first | exact find_head | apply find_tail)) (by first | rfl) ?_)
                  clear hl a; intro a hl
                  refine wl (w_call hl hh rfl trivial rfl cal28 rfl (nodeSize_spec A2 hA5) (by repeat (first | exact keeps_nil | apply keeps_cons (by repeat (first | exact find_head | apply find_tail)) (by first  | rfl) | exact keeps_self | apply keeps_mv)) trivial ?_)
                  clear hl hh a w; intro vc Fc a w hR hl hh
                  obtain ⟨rfl, rfl⟩ := hR
                  try simp only [List.cons_append, List.nil_append] at hh
                  rw [← hsx] at hl
                  first | refine wl (wl_val hl rfl trivial (r_add hl rfl rfl (by simp only [Fits]; omega)) ?_) | refine wl (wl_val hl rfl trivial (r_addW hl rfl rfl) ?_)
                  clear hl a; intro a hl
                  refine wl (wl_val hl rfl trivial (r_lss hl rfl rfl) ?_)
                  clear hl a; intro a hl
                  refine w_nil ?_
                  have hl2 := hl.add (t := 3) (hl.add (t := 5) (hl.add (t := 7) (hl.add (t := 10) (hl.add (t := 12) (hl.add (t := 13) (hl.add (t := 14) (hl.add (t := 45) (hl.add (t := 46) (hl.add (t := 47) (hl.add (t := 89) (hl.nil) rfl) rfl) rfl) rfl) rfl) rfl) rfl) rfl) rfl) rfl) rfl; clear hl; have hl := hl2; clear hl2
                  refine then_normal ?_
                  refine c_cond hl rfl ?_ ?_
                  · intro hc5
                    try simp only [decide_eq_true_eq, decide_eq_false_iff_not, Bool.not_eq_true', Bool.not_eq_false', Bool.not_eq_true, Bool.not_eq_false, Bool.and_eq_true, Bool.or_eq_true, Bool.and_eq_false_iff, Bool.or_eq_false_iff, Bool.not_not, ne_eq, Int.not_lt, Int.not_le, Decidable.not_not, beq_iff_eq, bne_iff_ne] at hc5
                    refine wp_skip ?_
                    refine then_normal ?_
                    refine c_seq ?_
                    refine wp_block ?_
                    refine c_seq ?_
                    refine c_region ?_
                    refine wl (wl_val hl rfl trivial (r_move hl rfl) ?_)
                    clear hl a; intro a hl
                    refine wl (wl_val hl rfl trivial (r_nilCheck hl rfl) ?_)
                    clear hl a; intro a hl
                    refine wl (wl_val hl rfl trivial (r_field hl rfl fld41_0) ?_)
                    clear hl a; intro a hl
                    refine wl (w_load hl hh rfl trivial one38 rfl (by repeat (first | exact find_head | apply find_tail)) (by first | rfl) ?_)
                    clear hl a; intro a hl
                    refine wl (wl_val hl rfl trivial (r_move hl rfl) ?_)
                    clear hl a; intro a hl
                    first | refine wl (wl_val hl rfl trivial (r_conv hl rfl Try.underlying3 Try.underlying34 (by simp only [Fits]; omega)) ?_) | refine wl (wl_val hl rfl trivial (r_convW hl rfl Try.underlying3 Try.underlying34) ?_)
                    clear hl a; intro a hl
                    refine wl (w_call hl hh rfl trivial rfl cal22 rfl (gen_yes b (doF s.1.f ⟨kd2, x2, A2, B2, E2, D2⟩).f i _ rfl (by omega)) (by repeat (first | exact keeps_nil | apply keeps_cons (by repeat (first | exact find_head | apply find_tail)) (by first  | rfl) | exact keeps_self | apply keeps_mv)) trivial ?_)
                    clear hl hh a w; intro vc Fc a w hR hl hh
                    obtain ⟨rfl, rfl⟩ := hR
                    try simp only [List.cons_append, List.nil_append] at hh
                    obtain ⟨hat1, hat2⟩ := tIn_at hOk hi1 (by omega)
                    refine wl (wl_val hl rfl trivial (r_move hl rfl) ?_)
                    clear hl a; intro a hl
                    refine wl (wl_val hl rfl trivial (r_extract hl rfl (by simp only [List.getElem?_toArray, List.getElem?_cons_zero, List.getElem?_cons_succ]; rfl)) ?_)
                    clear hl a; intro a hl
                    refine wl (wl_val hl rfl trivial (r_extract hl rfl (by simp only [List.getElem?_toArray, List.getElem?_cons_zero, List.getElem?_cons_succ]; rfl)) ?_)
                    clear hl a; intro a hl
                    refine wl (wl_val hl rfl trivial (r_assign hl rfl) ?_)
                    clear hl a; intro a hl
                    refine wl (wl_val hl rfl trivial (r_assign hl rfl) ?_)
                    clear hl a; intro a hl
                    refine w_nil ?_
                    have hl2 := hl.add (t := 3) (hl.add (t := 5) (hl.add (t := 7) (hl.add (t := 10) (hl.add (t := 12) (hl.add (t := 13) (hl.add (t := 14) (hl.add (t := 15) (hl.add (t := 16) (hl.add (t := 45) (hl.add (t := 46) (hl.add (t := 47) (hl.nil) rfl) rfl) rfl) rfl) rfl) rfl) rfl) rfl) rfl) rfl) rfl) rfl; clear hl; have hl := hl2; clear hl2
                    refine then_normal ?_
                    refine c_seq ?_
                    refine c_seq ?_
                    refine c_region ?_
                    refine wl (wl_val hl rfl trivial (r_move hl rfl) ?_)
                    clear hl a; intro a hl
                    refine wl (wl_val hl rfl trivial (r_neq hl rfl rfl) ?_)
                    clear hl a; intro a hl
                    refine wl (wl_val hl rfl trivial (r_move hl rfl) ?_)
                    clear hl a; intro a hl
                    refine sl_split (t := 104) hl rfl ?_ ?_
                    · intro hg7; clear hl; intro hl
                      try simp only [decide_eq_true_eq, decide_eq_false_iff_not, Bool.not_eq_true', Bool.not_eq_false', Bool.not_eq_true, Bool.not_eq_false, Bool.and_eq_true, Bool.or_eq_true, Bool.and_eq_false_iff, Bool.or_eq_false_iff, Bool.not_not, ne_eq, Int.not_lt, Int.not_le, Decidable.not_not, beq_iff_eq, bne_iff_ne] at hg7
                      exfalso; first | omega | (simp at *; done) | (simp at *; omega)
                    · intro hg7; clear hl; intro hl
                      try simp only [decide_eq_true_eq, decide_eq_false_iff_not, Bool.not_eq_true', Bool.not_eq_false', Bool.not_eq_true, Bool.not_eq_false, Bool.and_eq_true, Bool.or_eq_true, Bool.and_eq_false_iff, Bool.or_eq_false_iff, Bool.not_not, ne_eq, Int.not_lt, Int.not_le, Decidable.not_not, beq_iff_eq, bne_iff_ne] at hg7
                      refine wl (wl_val hl rfl ⟨_, _, rfl, rfl, rfl⟩ (r_move hl rfl) ?_)
                      clear hl a; intro a hl
                      refine wl (wl_val hl rfl ⟨_, _, rfl, rfl, rfl⟩ (r_move hl rfl) ?_)
                      clear hl a; intro a hl
                      refine wl (wl_val hl rfl ⟨_, _, rfl, rfl, rfl⟩ (r_indexA hl rfl rfl arr58 (by omega) (by omega) (by first | (simp only [Int.reduceToNat]; rfl) | exact toNat_add1 _ | exact toNat_add2 _ _ | exact toNat_emod _ _ | exact Int.toNat_natCast _ | rfl)) ?_)
                      clear hl a; intro a hl
                      refine wl (w_load hl hh rfl ⟨_, _, rfl, rfl, rfl⟩ one27 rfl (by repeat (first | exact find_head | apply find_tail)) (by exact arr_load (by omega)) ?_)
                      clear hl a; intro a hl
                      try rw [hat1] at hl
                      refine wl (wl_val hl rfl ⟨_, _, rfl, rfl, rfl⟩ (r_leq hl rfl rfl) ?_)
                      clear hl a; intro a hl
                      refine wl (wl_val hl rfl trivial (r_pickF hl rfl rfl) ?_)
                      clear hl a; intro a hl
                      refine wl (wl_val hl rfl trivial (r_move hl rfl) ?_)
                      clear hl a; intro a hl
                      refine sl_split (t := 111) hl rfl ?_ ?_
                      · intro hg8; clear hl; intro hl
                        try simp only [decide_eq_true_eq, decide_eq_false_iff_not, Bool.not_eq_true', Bool.not_eq_false', Bool.not_eq_true, Bool.not_eq_false, Bool.and_eq_true, Bool.or_eq_true, Bool.and_eq_false_iff, Bool.or_eq_false_iff, Bool.not_not, ne_eq, Int.not_lt, Int.not_le, Decidable.not_not, beq_iff_eq, bne_iff_ne] at hg8
                        exfalso; first | omega | (simp at *; done) | (simp at *; omega)
                      · intro hg8; clear hl; intro hl
                        try simp only [decide_eq_true_eq, decide_eq_false_iff_not, Bool.not_eq_true', Bool.not_eq_false', Bool.not_eq_true, Bool.not_eq_false, Bool.and_eq_true, Bool.or_eq_true, Bool.and_eq_false_iff, Bool.or_eq_false_iff, Bool.not_not, ne_eq, Int.not_lt, Int.not_le, Decidable.not_not, beq_iff_eq, bne_iff_ne] at hg8
                        refine wl (wl_val hl rfl ⟨_, _, rfl, rfl, rfl⟩ (r_move hl rfl) ?_)
                        clear hl a; intro a hl
                        refine wl (wl_val hl rfl ⟨_, _, rfl, rfl, rfl⟩ (r_move hl rfl) ?_)
                        clear hl a; intro a hl
                        refine wl (w_call hl hh rfl ⟨_, _, rfl, rfl, rfl⟩ rfl cal31 rfl (refGen_spec r0) (by repeat (first | exact keeps_nil | apply keeps_cons (by repeat (first | exact find_head | apply find_tail)) (by first  | rfl) | exact keeps_self | apply keeps_mv)) trivial ?_)
                        clear hl hh a w; intro vc Fc a w hR hl hh
                        obtain ⟨rfl, rfl⟩ := hR
                        try simp only [List.cons_append, List.nil_append] at hh
                        rw [hdiv] at hl
                        refine wl (wl_val hl rfl ⟨_, _, rfl, rfl, rfl⟩ (r_neq hl rfl rfl) ?_)
                        clear hl a; intro a hl
                        refine wl (wl_val hl rfl trivial (r_pickF hl rfl rfl) ?_)
                        clear hl a; intro a hl
                        refine w_nil ?_
                        have hl2 := hl.add (t := 3) (hl.add (t := 5) (hl.add (t := 7) (hl.add (t := 10) (hl.add (t := 12) (hl.add (t := 13) (hl.add (t := 14) (hl.add (t := 15) (hl.add (t := 45) (hl.add (t := 46) (hl.add (t := 47) (hl.add (t := 116) (hl.nil) rfl) rfl) rfl) rfl) rfl) rfl) rfl) rfl) rfl) rfl) rfl) rfl; clear hl; have hl := hl2; clear hl2
                        refine then_normal ?_
                        refine c_cond hl rfl ?_ ?_
                        · intro hc6
                          try simp only [decide_eq_true_eq, decide_eq_false_iff_not, Bool.not_eq_true', Bool.not_eq_false', Bool.not_eq_true, Bool.not_eq_false, Bool.and_eq_true, Bool.or_eq_true, Bool.and_eq_false_iff, Bool.or_eq_false_iff, Bool.not_not, ne_eq, Int.not_lt, Int.not_le, Decidable.not_not, beq_iff_eq, bne_iff_ne] at hc6
                          exfalso; first | omega | (simp at *; done) | (simp at *; omega)
                        · intro hc6
                          try simp only [decide_eq_true_eq, decide_eq_false_iff_not, Bool.not_eq_true', Bool.not_eq_false', Bool.not_eq_true, Bool.not_eq_false, Bool.and_eq_true, Bool.or_eq_true, Bool.and_eq_false_iff, Bool.or_eq_false_iff, Bool.not_not, ne_eq, Int.not_lt, Int.not_le, Decidable.not_not, beq_iff_eq, bne_iff_ne] at hc6
                          refine wp_skip ?_
                          refine then_normal ?_
                          refine c_region ?_
                          refine wl (wl_val hl rfl trivial (r_move hl rfl) ?_)
                          clear hl a; intro a hl
                          refine wl (wl_val hl rfl trivial (r_move hl rfl) ?_)
                          clear hl a; intro a hl
                          refine wl (wl_val hl rfl trivial (r_indexA hl rfl rfl arr58 (by omega) (by omega) (by first | (simp only [Int.reduceToNat]; rfl) | exact toNat_add1 _ | exact toNat_add2 _ _ | exact toNat_emod _ _ | exact Int.toNat_natCast _ | rfl)) ?_)
                          clear hl a; intro a hl
                          refine wl (w_store hl hh trivial one27 rfl rfl (by repeat (first | exact find_head | apply find_tail)) (by rw [arrL_length]; omega) (by first | rfl | (apply Row.one; assumption)) (by exact arr_store (by omega)) ?_)
                          clear hh w; intro w hh
                          refine w_nil ?_
                          have hl2 := hl.add (t := 3) (hl.add (t := 5) (hl.add (t := 7) (hl.add (t := 10) (hl.add (t := 12) (hl.add (t := 13) (hl.add (t := 14) (hl.add (t := 45) (hl.add (t := 46) (hl.add (t := 47) (hl.nil) rfl) rfl) rfl) rfl) rfl) rfl) rfl) rfl) rfl) rfl; clear hl; have hl := hl2; clear hl2
                          refine blk_normal ?_
                          refine then_normal ?_
                          refine c_region ?_
                          refine wl (wl_val hl rfl trivial (r_move hl rfl) ?_)
                          clear hl a; intro a hl
                          first | refine wl (wl_val hl rfl trivial (r_add hl rfl rfl (by simp only [Fits]; omega)) ?_) | refine wl (wl_val hl rfl trivial (r_addW hl rfl rfl) ?_)
                          clear hl a; intro a hl
                          refine wl (wl_val hl rfl trivial (r_assign hl rfl) ?_)
                          clear hl a; intro a hl
                          refine w_nil ?_
                          have hl2 := hl.add (t := 3) (hl.add (t := 5) (hl.add (t := 7) (hl.add (t := 10) (hl.add (t := 12) (hl.add (t := 13) (hl.add (t := 14) (hl.add (t := 45) (hl.add (t := 46) (hl.add (t := 47) (hl.nil) rfl) rfl) rfl) rfl) rfl) rfl) rfl) rfl) rfl) rfl; clear hl; have hl := hl2; clear hl2
                          refine then_normal ?_
                          refine ⟨i + 1, (by omega), ⟨by omega, by omega⟩, hl.addE (t := 14) (hl.addE (t := 3) (hl.addE (t := 5) (hl.addE (t := 7) (hl.addE (t := 10) (hl.addE (t := 12) (hl.addE (t := 13) (hl.addE (t := 45) (hl.addE (t := 46) (hl.addE (t := 47) (hl.nil) rfl (by first | rfl | rfl)) rfl (by first | rfl | rfl)) rfl (by first | rfl | rfl)) rfl (by first | rfl | rfl)) rfl (by first | rfl | rfl)) rfl (by first | rfl | rfl)) rfl (by first | rfl | rfl)) rfl (by first | rfl | rfl)) rfl (by first | rfl | rfl)) rfl (by first | rfl | rfl), hh.keep (by repeat (first | exact keeps_nil | apply keeps_cons (by repeat (first | exact find_head | apply find_tail)) (by first  | exact tIn_succ _ _ _ _ hi1 | rfl) | exact keeps_self | apply keeps_mv))⟩
                  · intro hc5
                    try simp only [decide_eq_true_eq, decide_eq_false_iff_not, Bool.not_eq_true', Bool.not_eq_false', Bool.not_eq_true, Bool.not_eq_false, Bool.and_eq_true, Bool.or_eq_true, Bool.and_eq_false_iff, Bool.or_eq_false_iff, Bool.not_not, ne_eq, Int.not_lt, Int.not_le, Decidable.not_not, beq_iff_eq, bne_iff_ne] at hc5
                    refine wp_exit ?_
                    refine then_exit ?_
                    refine then_exit ?_
                    refine blk_exit ?_
                    refine blk_normal ?_
                    refine then_normal ?_
                    refine c_region ?_
                    first | refine wl (wl_val hl rfl trivial (r_add hl rfl rfl (by simp only [Fits]; omega)) ?_) | refine wl (wl_val hl rfl trivial (r_addW hl rfl rfl) ?_)
                    clear hl a; intro a hl
                    refine wl (wl_val hl rfl trivial (r_move hl rfl) ?_)
                    clear hl a; intro a hl
                    refine w_nil ?_
                    have hl2 := hl.add (t := 3) (hl.add (t := 5) (hl.add (t := 7) (hl.add (t := 45) (hl.add (t := 46) (hl.add (t := 47) (hl.nil) rfl) rfl) rfl) rfl) rfl) rfl; clear hl; have hl := hl2; clear hl2
                    refine then_normal ?_
                    refine ⟨(⟨s.1.i + 1, (doF s.1.f ⟨kd2, x2, A2, B2, E2, D2⟩).f, fl2, keepF s.1.rs ⟨kd2, x2, A2, B2, E2, D2⟩ (doF s.1.f ⟨kd2, x2, A2, B2, E2, D2⟩).ans, rv2, E3⟩, l2), (by dsimp only; omega), ⟨hI.next hi hok hI2 hR2, hN⟩, hl.addE (t := 47) (hl.addE (t := 3) (hl.addE (t := 5) (hl.addE (t := 7) (hl.addE (t := 45) (hl.addE (t := 46) (hl.nil) rfl (by first | rfl | rfl)) rfl (by first | rfl | rfl)) rfl (by first | rfl | rfl)) rfl (by first | rfl | rfl)) rfl (by first | rfl | rfl)) rfl (by first | rfl | rfl), (by simp only [List.cons_append, List.nil_append, List.append_nil]; exact hh.keep (by repeat (first | exact keeps_nil | apply keeps_cons (by repeat (first | exact find_head | apply find_tail)) (by first  | (rw [hl2]; done) | (rw [hl2]) | exact tIn_all hOk (by omega) | exact tV_same hgn | rfl) | exact keeps_self | apply keeps_mv)))⟩
      · intro hc2
        try simp only [decide_eq_true_eq, decide_eq_false_iff_not, Bool.not_eq_true', Bool.not_eq_false', Bool.not_eq_true, Bool.not_eq_false, Bool.and_eq_true, Bool.or_eq_true, Bool.and_eq_false_iff, Bool.or_eq_false_iff, Bool.not_not, ne_eq, Int.not_lt, Int.not_le, Decidable.not_not, beq_iff_eq, bne_iff_ne] at hc2
        refine wp_exit ?_
        refine then_exit ?_
        refine then_exit ?_
        refine blk_exit ?_
        refine then_normal ?_
        refine c_seq ?_
        refine c_seq ?_
        refine c_region ?_
        refine wl (wl_val hl rfl trivial (r_assign hl rfl) ?_)
        clear hl a; intro a hl
        refine w_nil ?_
        have hl2 := hl.add (t := 3) (hl.add (t := 5) (hl.add (t := 17) (hl.nil) rfl) rfl) rfl; clear hl; have hl := hl2; clear hl2
        refine then_normal ?_
        refine wp_block ?_
        obtain ⟨KS3, hKS3, hk⟩ := (hl.add (t := 3) (hl.add (t := 5) (hl.nil) rfl) rfl).name
        obtain ⟨HS3, hHS3, hh2⟩ := hh.name (keeps_nil)
        refine c_loop (α := Nat) (fun i => 4096 - i) (fun i a w => (2 ≤ i ∧ i ≤ 4096) ∧ Sl 140 ([(17, .int .i64 i)] ++ KS3) a ∧ Has _ w0 ([] ++ HS3) w) 2 ⟨⟨by omega, by omega⟩, hl.addE (t := 17) (hk) rfl (by first | rfl), hh2⟩ ?_
        clear hk hh2 hl hh a w
        intro i a w hI
        obtain ⟨⟨hi1, hi2⟩, hl, hh⟩ := hI
        subst hKS3; subst hHS3
        simp only [List.cons_append, List.nil_append, List.append_nil] at hl hh
        refine c_seq ?_
        refine c_seq ?_
        refine c_region ?_
        refine wl (wl_val hl rfl trivial (r_move hl rfl) ?_)
        clear hl a; intro a hl
        refine wl (wl_val hl rfl trivial (r_lss hl rfl rfl) ?_)
        clear hl a; intro a hl
        refine w_nil ?_
        have hl2 := hl.add (t := 3) (hl.add (t := 5) (hl.add (t := 17) (hl.add (t := 122) (hl.nil) rfl) rfl) rfl) rfl; clear hl; have hl := hl2; clear hl2
        refine then_normal ?_
        refine c_cond hl rfl ?_ ?_
        · intro hc7
          try simp only [decide_eq_true_eq, decide_eq_false_iff_not, Bool.not_eq_true', Bool.not_eq_false', Bool.not_eq_true, Bool.not_eq_false, Bool.and_eq_true, Bool.or_eq_true, Bool.and_eq_false_iff, Bool.or_eq_false_iff, Bool.not_not, ne_eq, Int.not_lt, Int.not_le, Decidable.not_not, beq_iff_eq, bne_iff_ne] at hc7
          refine wp_skip ?_
          refine then_normal ?_
          refine c_seq ?_
          refine wp_block ?_
          refine c_seq ?_
          refine c_region ?_
          refine wl (wl_val hl rfl trivial (r_move hl rfl) ?_)
          clear hl a; intro a hl
          refine wl (wl_val hl rfl trivial (r_nilCheck hl rfl) ?_)
          clear hl a; intro a hl
          refine wl (wl_val hl rfl trivial (r_field hl rfl fld41_0) ?_)
          clear hl a; intro a hl
          refine wl (w_load hl hh rfl trivial one38 rfl (by repeat (first | exact find_head | apply find_tail)) (by first | rfl) ?_)
          clear hl a; intro a hl
          refine wl (wl_val hl rfl trivial (r_move hl rfl) ?_)
          clear hl a; intro a hl
          first | refine wl (wl_val hl rfl trivial (r_conv hl rfl Try.underlying3 Try.underlying34 (by simp only [Fits]; omega)) ?_) | refine wl (wl_val hl rfl trivial (r_convW hl rfl Try.underlying3 Try.underlying34) ?_)
          clear hl a; intro a hl
          refine wl (w_call hl hh rfl trivial rfl cal22 rfl (gen_yes b s.1.f i _ rfl (by omega)) (by repeat (first | exact keeps_nil | apply keeps_cons (by repeat (first | exact find_head | apply find_tail)) (by first  | rfl) | exact keeps_self | apply keeps_mv)) trivial ?_)
          clear hl hh a w; intro vc Fc a w hR hl hh
          obtain ⟨rfl, rfl⟩ := hR
          try simp only [List.cons_append, List.nil_append] at hh
          refine wl (wl_val hl rfl trivial (r_move hl rfl) ?_)
          clear hl a; intro a hl
          refine wl (wl_val hl rfl trivial (r_extract hl rfl (by simp only [List.getElem?_toArray, List.getElem?_cons_zero, List.getElem?_cons_succ]; rfl)) ?_)
          clear hl a; intro a hl
          refine wl (wl_val hl rfl trivial (r_extract hl rfl (by simp only [List.getElem?_toArray, List.getElem?_cons_zero, List.getElem?_cons_succ]; rfl)) ?_)
          clear hl a; intro a hl
          refine wl (wl_val hl rfl trivial (r_assign hl rfl) ?_)
          clear hl a; intro a hl
          refine wl (wl_val hl rfl trivial (r_assign hl rfl) ?_)
          clear hl a; intro a hl
          refine w_nil ?_
          have hl2 := hl.add (t := 3) (hl.add (t := 5) (hl.add (t := 17) (hl.add (t := 18) (hl.nil) rfl) rfl) rfl) rfl; clear hl; have hl := hl2; clear hl2
          refine then_normal ?_
          refine c_seq ?_
          refine c_region ?_
          refine wl (wl_val hl rfl trivial (r_move hl rfl) ?_)
          clear hl a; intro a hl
          refine wl (wl_val hl rfl trivial (r_move hl rfl) ?_)
          clear hl a; intro a hl
          refine wl (wl_val hl rfl trivial (r_indexA hl rfl rfl arr58 (by omega) (by omega) (by first | (simp only [Int.reduceToNat]; rfl) | exact toNat_add1 _ | exact toNat_add2 _ _ | exact toNat_emod _ _ | exact Int.toNat_natCast _ | rfl)) ?_)
          clear hl a; intro a hl
          refine wl (w_load hl hh rfl trivial one27 rfl (by repeat (first | exact find_head | apply find_tail)) (by exact arr_load (by omega)) ?_)
          clear hl a; intro a hl
          try rw [hat1] at hl
          refine wl (wl_val hl rfl trivial (r_neq hl rfl rfl) ?_)
          clear hl a; intro a hl
          refine w_nil ?_
          have hl2 := hl.add (t := 3) (hl.add (t := 5) (hl.add (t := 17) (hl.add (t := 139) (hl.nil) rfl) rfl) rfl) rfl; clear hl; have hl := hl2; clear hl2
          refine then_normal ?_
          refine c_cond hl rfl ?_ ?_
          · intro hc8
            try simp only [decide_eq_true_eq, decide_eq_false_iff_not, Bool.not_eq_true', Bool.not_eq_false', Bool.not_eq_true, Bool.not_eq_false, Bool.and_eq_true, Bool.or_eq_true, Bool.and_eq_false_iff, Bool.or_eq_false_iff, Bool.not_not, ne_eq, Int.not_lt, Int.not_le, Decidable.not_not, beq_iff_eq, bne_iff_ne] at hc8
            exfalso; simp only [tV, tG] at hc8; rw [if_neg (by omega)] at hc8; exact hc8 rfl
          · intro hc8
            try simp only [decide_eq_true_eq, decide_eq_false_iff_not, Bool.not_eq_true', Bool.not_eq_false', Bool.not_eq_true, Bool.not_eq_false, Bool.and_eq_true, Bool.or_eq_true, Bool.and_eq_false_iff, Bool.or_eq_false_iff, Bool.not_not, ne_eq, Int.not_lt, Int.not_le, Decidable.not_not, beq_iff_eq, bne_iff_ne] at hc8
            refine wp_skip ?_
            refine blk_normal ?_
            refine then_normal ?_
            refine c_region ?_
            refine wl (wl_val hl rfl trivial (r_move hl rfl) ?_)
            clear hl a; intro a hl
            first | refine wl (wl_val hl rfl trivial (r_add hl rfl rfl (by simp only [Fits]; omega)) ?_) | refine wl (wl_val hl rfl trivial (r_addW hl rfl rfl) ?_)
            clear hl a; intro a hl
            refine wl (wl_val hl rfl trivial (r_assign hl rfl) ?_)
            clear hl a; intro a hl
            refine w_nil ?_
            have hl2 := hl.add (t := 3) (hl.add (t := 5) (hl.add (t := 17) (hl.nil) rfl) rfl) rfl; clear hl; have hl := hl2; clear hl2
            refine then_normal ?_
            refine ⟨i + 1, (by omega), ⟨by omega, by omega⟩, hl.addE (t := 17) (hl.addE (t := 3) (hl.addE (t := 5) (hl.nil) rfl (by first | rfl | rfl)) rfl (by first | rfl | rfl)) rfl (by first | rfl | rfl), hh.keep (by repeat (first | exact keeps_nil | apply keeps_cons (by repeat (first | exact find_head | apply find_tail)) (by first  | rfl) | exact keeps_self | apply keeps_mv))⟩
        · intro hc7
          try simp only [decide_eq_true_eq, decide_eq_false_iff_not, Bool.not_eq_true', Bool.not_eq_false', Bool.not_eq_true, Bool.not_eq_false, Bool.and_eq_true, Bool.or_eq_true, Bool.and_eq_false_iff, Bool.or_eq_false_iff, Bool.not_not, ne_eq, Int.not_lt, Int.not_le, Decidable.not_not, beq_iff_eq, bne_iff_ne] at hc7
          refine wp_exit ?_
          refine then_exit ?_
          refine then_exit ?_
          refine blk_exit ?_
          refine then_normal ?_
          refine c_seq ?_
          refine c_region ?_
          refine wl (wl_val hl rfl trivial (r_assign hl rfl) ?_)
          clear hl a; intro a hl
          refine w_nil ?_
          have hl2 := hl.add (t := 2) (hl.nil) rfl; clear hl; have hl := hl2; clear hl2
          refine then_normal ?_
          refine wp_ret ?_
          refine f_ret1 (F' := []) hl hh rfl rfl (by repeat (first | exact keeps_nil | apply keeps_cons (by repeat (first | exact find_head | apply find_tail)) (by first  | rfl) | exact keeps_self | apply keeps_mv)) ?_
          exact ⟨rfl, rfl⟩
end Go.Proofs.Qxb6500913a

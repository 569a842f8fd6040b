import Derived.Test.Qxb6500915aGreatDoorD4
namespace Go.Proofs.Qxb6500915aGreatDoor
open Go.Eng
set_option linter.unusedVariables false
set_option linter.unusedSimpArgs false
theorem zero4 : zeroOk Tryz.prog 4 (.bool false) := by unfold zeroOk; kernel_rfl
/-! ## safety -/
def BM (l : List (Int × Value)) (S : List Int) : Prop := ∀ v, (mget l v).getD (.bool false) = .bool (decide (v ∈ S))
theorem BM.nil : BM [] [] := fun v => by simp [mget]
theorem BM.put {l : List (Int × Value)} {S : List Int} (h : BM l S) (v : Int) : BM (mput l v (.bool true)) (S ++ [v]) := fun u => by
  rw [mget_mput]
  by_cases e : u = v
  · rw [if_pos e]; simp [e]
  · rw [if_neg e, h u]; simp [e]
def vS (ts : List Tm) : List Int := (ts.filter fun t => decide (t.k = 0)).map Tm.v
def posS (ls : List Lt) : List Int := ls.flatMap fun l => if l.k = 0 then vS l.a else []
theorem vS_1 {ts : List Tm} {i : Nat} {t : Tm} (h : ts[i]? = some t) (hk : t.k = 0) : vS (ts.take (i + 1)) = vS (ts.take i) ++ [t.v] := by
  unfold vS; rw [List.take_add_one, h]; simp [List.filter_append, hk]
theorem vS_0 {ts : List Tm} {i : Nat} {t : Tm} (h : ts[i]? = some t) (hk : ¬ t.k = 0) : vS (ts.take (i + 1)) = vS (ts.take i) := by
  unfold vS; rw [List.take_add_one, h]; simp [List.filter_append, hk]
theorem posS_snoc {ls : List Lt} {i : Nat} {l : Lt} (h : ls[i]? = some l) : posS (ls.take (i + 1)) = posS (ls.take i) ++ (if l.k = 0 then vS l.a else []) := by
  unfold posS; rw [List.take_add_one, h, List.flatMap_append]; simp
def ub (S : List Int) : List Tm → Option Nat
  | [] => none
  | t :: ts => if t.k = 0 ∧ t.v ∉ S then some 0 else (ub S ts).map (· + 1)
theorem ub_some {S : List Int} : ∀ {ts : List Tm} {i : Nat} {x : Tm}, (∀ j t, j < i → ts[j]? = some t → ¬ (t.k = 0 ∧ t.v ∉ S)) → ts[i]? = some x → (x.k = 0 ∧ x.v ∉ S) → ub S ts = some i
  | [], i, x, _, h, _ => by simp at h
  | t :: ts, 0, x, _, h, hx => by
    simp at h; subst h
    unfold ub; rw [if_pos hx]
  | t :: ts, i + 1, x, ha, h, hx => by
    have h0 := ha 0 t (by omega) rfl
    unfold ub; rw [if_neg h0, ub_some (ts := ts) (i := i) (x := x) (fun j u hj hu => ha (j + 1) u (by omega) (by simpa using hu)) (by simpa using h) hx]; rfl
theorem ub_none {S : List Int} : ∀ {ts : List Tm}, (∀ j t, j < ts.length → ts[j]? = some t → ¬ (t.k = 0 ∧ t.v ∉ S)) → ub S ts = none
  | [], _ => rfl
  | t :: ts, ha => by
    have h0 := ha 0 t (by simp) rfl
    unfold ub; rw [if_neg h0, ub_none (ts := ts) (fun j u hj hu => ha (j + 1) u (by simp; omega) (by simpa using hu))]; rfl
theorem all_snoc {α : Type} {p : α → Prop} {ts : List α} {i : Nat} {y : α} (h : ∀ j t, j < i → ts[j]? = some t → p t) (hy : ts[i]? = some y) (hf : p y) : ∀ j t, j < i + 1 → ts[j]? = some t → p t := by
  intro j z hj hz
  by_cases e : j = i
  · rw [e, hy] at hz; injection hz with hz; subst hz; exact hf
  · exact h j z (by omega) hz
def ubI (o : Option Nat) : Int := match o with
  | none => -1
  | some i => (i : Int)
def sfB (S : List Int) : Nat → List Lt → Option (Int × Int)
  | _, [] => none
  | li, l :: ls => if l.k = 0 then sfB S (li + 1) ls else match ub S l.a with
    | some i => some ((li : Int), (i : Int))
    | none => sfB S (li + 1) ls
def safeP (r : Ru) : Option (Int × Int) := match ub (posS r.b) r.a with
  | some i => some (-1, (i : Int))
  | none => sfB (posS r.b) 0 r.b
theorem sfB_skip {S : List Int} {ls : List Lt} {i : Nat} {l : Lt} (h : ls[i]? = some l) (hk : l.k = 0 ∨ ub S l.a = none) : sfB S i (ls.drop i) = sfB S (i + 1) (ls.drop (i + 1)) := by
  obtain ⟨hi, rfl⟩ := List.getElem?_eq_some_iff.1 h
  rw [List.drop_eq_getElem_cons hi]
  show (if _ then _ else _) = _
  rcases hk with hk | hk
  · rw [if_pos hk]
  · split
    · rfl
    · rw [hk]
theorem sfB_hit {S : List Int} {ls : List Lt} {i j : Nat} {l : Lt} (h : ls[i]? = some l) (hk : ¬ l.k = 0) (hu : ub S l.a = some j) : sfB S i (ls.drop i) = some ((i : Int), (j : Int)) := by
  obtain ⟨hi, rfl⟩ := List.getElem?_eq_some_iff.1 h
  rw [List.drop_eq_getElem_cons hi]
  show (if _ then _ else _) = _
  rw [if_neg hk, hu]
theorem sfB_end {S : List Int} {ls : List Lt} {i : Nat} (h : ls.length ≤ i) : sfB S i (ls.drop i) = none := by
  rw [List.drop_of_length_le h]; rfl


set_option maxHeartbeats 4000000 in
theorem unb_spec (ts : List Tm) (p1 : Option Addr) (c1 : Nat) (E1 : List (Nat × Obj)) (h1 : Ags (.slice p1 ts.length c1) ts E1) (mb : Nat) (bm : List (Int × Value)) (S : List Int) (hb : BM bm S) : SpK Tryz.prog 54 #[.slice p1 ts.length c1, .map (some mb)] (fun w => Mem E1 w ∧ w.heap[mb]? = some (MO (kInt .i64) bm)) [] (fun v F' => v = .int .i64 (ubI (ub S ts)) ∧ F' = []) := by
  refine f_enter (args := [.slice p1 ts.length c1, .map (some mb)]) Tryz.func54 rfl Tryz.ntmps54 rfl ?_
  intro w0 w a hpre hl hh
  have hl1 := h1.len
  simp only [slotsFrom, Nat.reduceAdd] at hl
  refine c_seq ?_
  refine c_region ?_
  refine wl (wl_val hl rfl trivial (r_assign hl rfl) ?_)
  clear hl a; intro a hl
  refine w_nil ?_
  have hl2 := hl.add (t := 0) (hl.add (t := 1) (hl.nil) rfl) rfl; clear hl; have hl := hl2; clear hl2
  refine then_normal ?_
  refine c_seq ?_
  refine c_seq ?_
  refine c_region ?_
  refine wl (wl_val hl rfl trivial (r_move hl rfl) ?_)
  clear hl a; intro a hl
  refine wl (wl_val hl rfl trivial (r_lenS hl rfl slc42) ?_)
  clear hl a; intro a hl
  refine wl (wl_val hl rfl trivial (r_move hl rfl) ?_)
  clear hl a; intro a hl
  refine w_nil ?_
  have hl2 := hl.add (t := 1) (hl.add (t := 7) (hl.add (t := 8) (hl.add (t := 9) (hl.nil) rfl) rfl) rfl) rfl; clear hl; have hl := hl2; clear hl2
  refine then_normal ?_
  refine wp_block ?_
  obtain ⟨KS0, hKS0, hk⟩ := (hl.add (t := 1) (hl.add (t := 7) (hl.add (t := 8) (hl.nil) rfl) rfl) rfl).name
  obtain ⟨HS0, hHS0, hh2⟩ := hh.name (keeps_nil)
  refine c_loop (α := Nat) (fun i => ts.length - i) (fun i a w => (i ≤ ts.length ∧ ∀ j t, j < i → ts[j]? = some t → ¬ (t.k = 0 ∧ t.v ∉ S)) ∧ Sl 26 ([(9, .int .i64 (i : Int))] ++ KS0) a ∧ Has _ w0 ([] ++ HS0) w) 0 ⟨⟨Nat.zero_le _, fun j t h => absurd h (Nat.not_lt_zero _)⟩, hl.addE (t := 9) (hk) rfl (by first | rfl), hh2⟩ ?_
  clear hk hh2 hl hh a w
  intro i a w hI
  obtain ⟨⟨hi, hf⟩, hl, hh⟩ := hI
  subst hKS0; subst hHS0
  simp only [List.cons_append, List.nil_append, List.append_nil] at hl hh
  refine c_seq ?_
  refine c_region ?_
  refine wl (wl_val hl rfl trivial (r_lss hl rfl rfl) ?_)
  clear hl a; intro a hl
  refine w_nil ?_
  have hl2 := hl.add (t := 1) (hl.add (t := 7) (hl.add (t := 8) (hl.add (t := 9) (hl.add (t := 10) (hl.nil) rfl) rfl) rfl) rfl) rfl; clear hl; have hl := hl2; clear hl2
  refine then_normal ?_
  refine c_seq ?_
  refine c_cond hl rfl ?_ ?_
  · intro hc0
    try simp only [decide_eq_true_eq, decide_eq_false_iff_not, Bool.not_eq_true', Bool.not_eq_false', Bool.not_eq_true, Bool.not_eq_false, Bool.and_eq_true, Bool.or_eq_true, Bool.and_eq_false_iff, Bool.or_eq_false_iff, Bool.not_not, ne_eq, Int.not_lt, Int.not_le, Decidable.not_not, beq_iff_eq, bne_iff_ne] at hc0
    obtain ⟨x, hx⟩ : ∃ x, ts[i]? = some x := ⟨_, List.getElem?_eq_getElem (by omega)⟩
    obtain ⟨b1, j1, hq1, rfl, hm1⟩ := row_mem h1.row (by omega) hpre.1
    subst hq1
    have hd1 := fl_at tmc_len hx j1
    simp only [tmc] at hd1
    have hmx := hb x.v
    refine wp_skip ?_
    refine then_normal ?_
    refine c_seq ?_
    refine wp_block ?_
    refine c_seq ?_
    refine c_region ?_
    refine wl (wl_val hl rfl trivial (r_move hl rfl) ?_)
    clear hl a; intro a hl
    refine wl (wl_val hl rfl trivial (r_indexS hl rfl rfl slc42 (by omega) (by omega) (by first | (simp only [Int.reduceToNat]; rfl) | exact toNat_add1 _ | exact toNat_add2 _ _ | exact toNat_emod _ _ | exact Int.toNat_natCast _ | rfl)) ?_)
    clear hl a; intro a hl
    first | refine wl (w_loadA hl hh rfl trivial agg54 rfl (by repeat (first | exact find_head | apply find_tail)) (by first | (simp only [List.getElem?_cons_zero, List.getElem?_cons_succ, Value.cells, List.take_zero, List.take_succ_cons, List.take_nil, List.drop_zero, List.drop_succ_cons, List.drop_nil, List.length_cons, List.length_nil, List.cons_append, List.nil_append, List.append_nil, Nat.zero_add, Nat.add_zero, Nat.reduceAdd, Nat.reduceBEq, Nat.reduceEqDiff, Nat.ble, BEq.rfl, Bool.and_true, Bool.and_self, cond_true, beq_self_eq_true]; rfl)) (by first | rfl | (simp; done)) ?_) | refine wl (w_loadRA hl hh rfl trivial agg54 rfl hm1 (by simp) hd1 rfl ?_)
    clear hl a; intro a hl
    refine wl (w_alloc hl hh rfl trivial zero54 rfl ?_)
    clear hl hh a w; intro k6 a w hl hh
    refine wl (wl_val hl rfl trivial (r_assign hl rfl) ?_)
    clear hl a; intro a hl
    refine wl (w_storeA hl hh trivial agg54 rfl rfl (by repeat (first | exact find_head | apply find_tail)) (by first | rfl | (simp; done)) (by first | (simp; done) | (simp; omega)) (by first | rfl | (simp; done)) (by first | (simp only [setL, List.getElem?_cons_zero, List.getElem?_cons_succ, Value.cells, List.take_zero, List.take_succ_cons, List.take_nil, List.drop_zero, List.drop_succ_cons, List.drop_nil, List.length_cons, List.length_nil, List.cons_append, List.nil_append, List.append_nil, Nat.zero_add, Nat.add_zero, Nat.reduceAdd, Nat.reduceBEq, Nat.reduceEqDiff, Nat.ble, BEq.rfl, Bool.and_true, Bool.and_self, cond_true, beq_self_eq_true]; rfl)) ?_)
    clear hh w; intro w hh
    refine w_nil ?_
    have hl2 := hl.add (t := 1) (hl.add (t := 5) (hl.add (t := 6) (hl.add (t := 7) (hl.add (t := 8) (hl.add (t := 9) (hl.nil) rfl) rfl) rfl) rfl) rfl) rfl; clear hl; have hl := hl2; clear hl2
    refine then_normal ?_
    refine c_seq ?_
    refine c_region ?_
    refine wl (wl_val hl rfl trivial (r_field hl rfl fld54_0) ?_)
    clear hl a; intro a hl
    refine wl (w_load hl hh rfl trivial one52 rfl (by repeat (first | exact find_head | apply find_tail)) (by first | rfl) ?_)
    clear hl a; intro a hl
    refine wl (wl_val hl rfl trivial (r_eql hl rfl rfl) ?_)
    clear hl a; intro a hl
    refine wl (wl_val hl rfl trivial (r_move hl rfl) ?_)
    clear hl a; intro a hl
    refine sl_split (t := 17) hl rfl ?_ ?_
    · intro hg1; clear hl; intro hl
      try simp only [decide_eq_true_eq, decide_eq_false_iff_not, Bool.not_eq_true', Bool.not_eq_false', Bool.not_eq_true, Bool.not_eq_false, Bool.and_eq_true, Bool.or_eq_true, Bool.and_eq_false_iff, Bool.or_eq_false_iff, Bool.not_not, ne_eq, Int.not_lt, Int.not_le, Decidable.not_not, beq_iff_eq, bne_iff_ne] at hg1
      refine wl (wl_val hl rfl ⟨_, _, rfl, rfl, rfl⟩ (r_move hl rfl) ?_)
      clear hl a; intro a hl
      refine wl (wl_val hl rfl ⟨_, _, rfl, rfl, rfl⟩ (r_field hl rfl fld54_1) ?_)
      clear hl a; intro a hl
      refine wl (w_load hl hh rfl ⟨_, _, rfl, rfl, rfl⟩ one3 rfl (by repeat (first | exact find_head | apply find_tail)) (by first | rfl) ?_)
      clear hl a; intro a hl
      refine wl (wl_val hl rfl ⟨_, _, rfl, rfl, rfl⟩ (r_lookup (keyInt Tryz.underlying3) Tryz.underlying115 zero4 hl rfl rfl (heap_keep hh hpre.2)) ?_)
      clear hl a; intro a hl
      rw [hmx] at hl
      refine wl (wl_val hl rfl ⟨_, _, rfl, rfl, rfl⟩ (r_not hl rfl) ?_)
      clear hl a; intro a hl
      refine wl (wl_val hl rfl trivial (r_pickT hl rfl rfl) ?_)
      clear hl a; intro a hl
      refine w_nil ?_
      have hl2 := hl.add (t := 1) (hl.add (t := 5) (hl.add (t := 7) (hl.add (t := 8) (hl.add (t := 9) (hl.add (t := 23) (hl.nil) rfl) rfl) rfl) rfl) rfl) rfl; clear hl; have hl := hl2; clear hl2
      refine then_normal ?_
      refine c_cond hl rfl ?_ ?_
      · intro hc1
        try simp only [decide_eq_true_eq, decide_eq_false_iff_not, Bool.not_eq_true', Bool.not_eq_false', Bool.not_eq_true, Bool.not_eq_false, Bool.and_eq_true, Bool.or_eq_true, Bool.and_eq_false_iff, Bool.or_eq_false_iff, Bool.not_not, ne_eq, Int.not_lt, Int.not_le, Decidable.not_not, beq_iff_eq, bne_iff_ne] at hc1
        refine c_seq ?_
        refine c_region ?_
        refine wl (wl_val hl rfl trivial (r_move hl rfl) ?_)
        clear hl a; intro a hl
        refine wl (wl_val hl rfl trivial (r_assign hl rfl) ?_)
        clear hl a; intro a hl
        refine w_nil ?_
        have hl2 := hl.add (t := 4) (hl.nil) rfl; clear hl; have hl := hl2; clear hl2
        refine then_normal ?_
        refine wp_ret ?_
        refine blk_ret ?_
        refine then_ret ?_
        refine then_ret ?_
        refine blk_ret ?_
        refine then_ret ?_
        refine f_ret1 (F' := []) hl hh rfl rfl (by repeat (first | exact keeps_nil | apply keeps_cons (by repeat (first | exact find_head | apply find_tail)) (by first  | rfl) | exact keeps_self | apply keeps_mv)) ?_
        exact ⟨by rw [ub_some hf hx ⟨by omega, by simpa using hc1⟩]; rfl, rfl⟩
      · intro hc1
        try simp only [decide_eq_true_eq, decide_eq_false_iff_not, Bool.not_eq_true', Bool.not_eq_false', Bool.not_eq_true, Bool.not_eq_false, Bool.and_eq_true, Bool.or_eq_true, Bool.and_eq_false_iff, Bool.or_eq_false_iff, Bool.not_not, ne_eq, Int.not_lt, Int.not_le, Decidable.not_not, beq_iff_eq, bne_iff_ne] at hc1
        refine wp_skip ?_
        refine blk_normal ?_
        refine then_normal ?_
        refine c_region ?_
        first | refine wl (wl_val hl rfl trivial (r_add hl rfl rfl (by simp only [Fits]; omega)) ?_) | refine wl (wl_val hl rfl trivial (r_addW hl rfl rfl) ?_)
        clear hl a; intro a hl
        refine wl (wl_val hl rfl trivial (r_move hl rfl) ?_)
        clear hl a; intro a hl
        refine w_nil ?_
        have hl2 := hl.add (t := 1) (hl.add (t := 7) (hl.add (t := 8) (hl.add (t := 9) (hl.nil) rfl) rfl) rfl) rfl; clear hl; have hl := hl2; clear hl2
        refine then_normal ?_
        refine ⟨i + 1, (by omega), ⟨by omega, all_snoc hf hx (by first | exact fun h9 => absurd h9.1 (by assumption) | exact fun h9 => h9.2 (by assumption))⟩, hl.addE (t := 9) (hl.addE (t := 1) (hl.addE (t := 7) (hl.addE (t := 8) (hl.nil) rfl (by first | rfl | rfl)) rfl (by first | rfl | rfl)) rfl (by first | rfl | rfl)) rfl (by first | rfl | rfl), hh.keep (by repeat (first | exact keeps_nil | apply keeps_cons (by repeat (first | exact find_head | apply find_tail)) (by first  | rfl) | exact keeps_self | apply keeps_mv))⟩
    · intro hg1; clear hl; intro hl
      try simp only [decide_eq_true_eq, decide_eq_false_iff_not, Bool.not_eq_true', Bool.not_eq_false', Bool.not_eq_true, Bool.not_eq_false, Bool.and_eq_true, Bool.or_eq_true, Bool.and_eq_false_iff, Bool.or_eq_false_iff, Bool.not_not, ne_eq, Int.not_lt, Int.not_le, Decidable.not_not, beq_iff_eq, bne_iff_ne] at hg1
      refine wl (wl_skip hl rfl ⟨_, _, rfl, rfl, rfl⟩ ?_)
      clear hl a; intro a hl
      refine wl (wl_skip hl rfl ⟨_, _, rfl, rfl, rfl⟩ ?_)
      clear hl a; intro a hl
      refine wl (wl_skip hl rfl ⟨_, _, rfl, rfl, rfl⟩ ?_)
      clear hl a; intro a hl
      refine wl (wl_skip hl rfl ⟨_, _, rfl, rfl, rfl⟩ ?_)
      clear hl a; intro a hl
      refine wl (wl_skip hl rfl ⟨_, _, rfl, rfl, rfl⟩ ?_)
      clear hl a; intro a hl
      refine wl (wl_val hl rfl trivial (r_pickF hl rfl rfl) ?_)
      clear hl a; intro a hl
      refine w_nil ?_
      have hl2 := hl.add (t := 1) (hl.add (t := 5) (hl.add (t := 7) (hl.add (t := 8) (hl.add (t := 9) (hl.add (t := 23) (hl.nil) rfl) rfl) rfl) rfl) rfl) rfl; clear hl; have hl := hl2; clear hl2
      refine then_normal ?_
      refine c_condF hl rfl ?_
      refine wp_skip ?_
      refine blk_normal ?_
      refine then_normal ?_
      refine c_region ?_
      first | refine wl (wl_val hl rfl trivial (r_add hl rfl rfl (by simp only [Fits]; omega)) ?_) | refine wl (wl_val hl rfl trivial (r_addW hl rfl rfl) ?_)
      clear hl a; intro a hl
      refine wl (wl_val hl rfl trivial (r_move hl rfl) ?_)
      clear hl a; intro a hl
      refine w_nil ?_
      have hl2 := hl.add (t := 1) (hl.add (t := 7) (hl.add (t := 8) (hl.add (t := 9) (hl.nil) rfl) rfl) rfl) rfl; clear hl; have hl := hl2; clear hl2
      refine then_normal ?_
      refine ⟨i + 1, (by omega), ⟨by omega, all_snoc hf hx (by first | exact fun h9 => absurd h9.1 (by assumption) | exact fun h9 => h9.2 (by assumption))⟩, hl.addE (t := 9) (hl.addE (t := 1) (hl.addE (t := 7) (hl.addE (t := 8) (hl.nil) rfl (by first | rfl | rfl)) rfl (by first | rfl | rfl)) rfl (by first | rfl | rfl)) rfl (by first | rfl | rfl), hh.keep (by repeat (first | exact keeps_nil | apply keeps_cons (by repeat (first | exact find_head | apply find_tail)) (by first  | rfl) | exact keeps_self | apply keeps_mv))⟩
  · intro hc0
    try simp only [decide_eq_true_eq, decide_eq_false_iff_not, Bool.not_eq_true', Bool.not_eq_false', Bool.not_eq_true, Bool.not_eq_false, Bool.and_eq_true, Bool.or_eq_true, Bool.and_eq_false_iff, Bool.or_eq_false_iff, Bool.not_not, ne_eq, Int.not_lt, Int.not_le, Decidable.not_not, beq_iff_eq, bne_iff_ne] at hc0
    refine wp_exit ?_
    refine then_exit ?_
    refine then_exit ?_
    refine blk_exit ?_
    refine then_normal ?_
    refine c_seq ?_
    refine c_region ?_
    refine wl (wl_val hl rfl trivial (r_assign hl rfl) ?_)
    clear hl a; intro a hl
    refine w_nil ?_
    have hl2 := hl.add (t := 4) (hl.nil) rfl; clear hl; have hl := hl2; clear hl2
    refine then_normal ?_
    refine wp_ret ?_
    refine f_ret1 (F' := []) hl hh rfl rfl (by repeat (first | exact keeps_nil | apply keeps_cons (by repeat (first | exact find_head | apply find_tail)) (by first  | rfl) | exact keeps_self | apply keeps_mv)) ?_
    have hie : i = ts.length := by omega
    rw [hie] at hf
    exact ⟨by rw [ub_none hf]; rfl, rfl⟩
end Go.Proofs.Qxb6500915aGreatDoor

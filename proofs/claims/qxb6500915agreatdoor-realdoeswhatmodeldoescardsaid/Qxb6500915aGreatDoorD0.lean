import Derived.Test.Qxb6500915aGreatDoorC3
namespace Go.Proofs.Qxb6500915aGreatDoor
open Go.Eng
set_option linter.unusedVariables false
set_option linter.unusedSimpArgs false
theorem bld54 : buildOk Tryz.prog 54 [(0, 1), (1, 1), (2, 1), (3, 1)] = true := by kernel_rfl
theorem shp54 : shapeT Tryz.prog 8 54 = some [.int .u8, .int .i64, .int .i64, .string] := by kernel_rfl
theorem eqf54 : eqOk Tryz.prog 8 54 = true := by kernel_rfl
theorem byt_beq (a b : ByteArray) : (a == b) = decide (a = b) := by
  by_cases e : a = b
  · rw [decide_eq_true e]; exact (Go.MapKept.bytes_beq a b).2 e
  · rw [decide_eq_false e]
    cases hq : a == b with
    | false => rfl
    | true => exact absurd ((Go.MapKept.bytes_beq a b).1 hq) e
def kStr (s : ByteArray) : Value := .string s
theorem keyStr {P : Program} {kt : TypeId} (h : P.underlying kt = some .string) : KeyOk P kt kStr := by
  refine KeyOk.now ⟨_, h, fun a b => ?_, fun _ e => ?_, fun _ _ e => ?_, fun _ e => ?_⟩ (fun a => ?_)
  · simp only [kStr, Instr.sameNow]
    exact congrArg some (byt_beq a b)
  · cases e
  · cases e
  · cases e
  · simp [kStr, Instr.sameBits, byt_beq]
section mx
variable {P : Program} {n : Nat} {L : List (Nat × Value)} {a : Act} {w : World} {x y : Operand} {T : TypeId} {pos : String} {aft : Array Edge} {g : Option (Nat × Bool)} {dst : Option Nat}
theorem r_max {ts : Array TypeId} {k : IntKind} {i j : Int} (hl : Sl n L a) (hx : val L x = some (.int k i)) (hy : val L y = some (.int k j)) :
    Gives P a ⟨dst, .call { callee := .builtin .max, args := #[x, y], argTypes := ts }, T, pos, aft, g⟩ w (.int k (if i < j then j else i)) w := by
  by_cases c : i < j
  · simp [Gives, execOp, resolve, invoke, builtin, hl.ev hx, hl.ev hy, Builtin.max_, Builtin.max2, c]
  · simp [Gives, execOp, resolve, invoke, builtin, hl.ev hx, hl.ev hy, Builtin.max_, Builtin.max2, c]
end mx
theorem litsK {k v i : Int} {s : ByteArray} (hk : 0 ≤ k ∧ k ≤ 255) (hv : I64 v) (hi : I64 i) (hs : s.data.toList.length ≤ maxLen) : LitsFit [.int .u8, .int .i64, .int .i64, .string] [.int .u8 k, .int .i64 v, .int .i64 i, .string s.data.toList] := by
  refine ⟨?_⟩
  simp only [LitsOk, litOk, Fits, and_true, true_and]
  exact ⟨by omega, by omega, by omega, hs⟩
theorem eqK {k v i k' v' i' : Int} {s s' : ByteArray} (hk : 0 ≤ k ∧ k ≤ 255) (hv : I64 v) (hi : I64 i) (hk' : 0 ≤ k' ∧ k' ≤ 255) (hv' : I64 v') (hi' : I64 i') (hs : s.data.toList.length ≤ maxLen) (hs' : s'.data.toList.length ≤ maxLen) :
    eqLits [.int .u8 k, .int .i64 v, .int .i64 i, .string s.data.toList] [.int .u8 k', .int .i64 v', .int .i64 i', .string s'.data.toList] = true ↔ k = k' ∧ v = v' ∧ i = i' ∧ s = s' := by
  rw [eqLits_iff (litsK hk hv hi hs).ok (litsK hk' hv' hi' hs').ok]
  constructor
  · intro h
    simp only [List.cons.injEq, Lit.int.injEq, Lit.string.injEq, true_and, and_true] at h
    exact ⟨h.1, h.2.1, h.2.2.1, by
      have h9 := h.2.2.2
      obtain ⟨⟨d⟩⟩ := s; obtain ⟨⟨d'⟩⟩ := s'
      simp only at h9; rw [h9]⟩
  · rintro ⟨rfl, rfl, rfl, rfl⟩; rfl
/-! ## the shape of a program -/
abbrev e0 : ByteArray := ⟨#[]⟩
def fineT (t : Tm) : Prop := (t.k = 0 ∧ 0 ≤ t.v ∧ t.i = 0 ∧ t.s = e0) ∨ (t.k = 1 ∧ t.v = 0 ∧ t.s = e0) ∨ (t.k = 2 ∧ t.v = 0 ∧ t.i = 0)
instance (t : Tm) : Decidable (fineT t) := by unfold fineT; infer_instance
def bad : List Tm → Option Nat
  | [] => none
  | t :: ts => if fineT t then (bad ts).map (· + 1) else some 0
theorem bad_some : ∀ {ts : List Tm} {i : Nat} {x : Tm}, (∀ j t, j < i → ts[j]? = some t → fineT t) → ts[i]? = some x → ¬ fineT x → bad ts = some i
  | [], i, x, _, h, _ => by simp at h
  | t :: ts, 0, x, _, h, hx => by
    simp at h; subst h
    unfold bad; rw [if_neg hx]
  | t :: ts, i + 1, x, ha, h, hx => by
    have h0 := ha 0 t (by omega) rfl
    unfold bad; rw [if_pos h0, bad_some (ts := ts) (i := i) (x := x) (fun j u hj hu => ha (j + 1) u (by omega) (by simpa using hu)) (by simpa using h) hx]; rfl
theorem bad_none : ∀ {ts : List Tm}, (∀ j t, j < ts.length → ts[j]? = some t → fineT t) → bad ts = none
  | [], _ => rfl
  | t :: ts, ha => by
    have h0 := ha 0 t (by simp) rfl
    unfold bad; rw [if_pos h0, bad_none (ts := ts) (fun j u hj hu => ha (j + 1) u (by simp; omega) (by simpa using hu))]; rfl
theorem fine_snoc {ts : List Tm} {i : Nat} {y : Tm} (h : ∀ j t, j < i → ts[j]? = some t → fineT t) (hy : ts[i]? = some y) (hf : fineT y) : ∀ j t, j < i + 1 → ts[j]? = some t → fineT t := by
  intro j z hj hz
  by_cases e : j = i
  · rw [e, hy] at hz; injection hz with hz; subst hz; exact hf
  · exact h j z (by omega) hz
def ckC (ts : List Tm) : Int := match bad ts with
  | none => 0
  | some _ => 2
def ckI (ts : List Tm) : Int := match bad ts with
  | none => -1
  | some i => (i : Int)
theorem ck_bad {ts : List Tm} {i : Nat} (h : bad ts = some i) : ckC ts = 2 ∧ ckI ts = (i : Int) := by unfold ckC ckI; rw [h]; exact ⟨rfl, rfl⟩
theorem ck_ok {ts : List Tm} (h : bad ts = none) : ckC ts = 0 ∧ ckI ts = -1 := by unfold ckC ckI; rw [h]; exact ⟨rfl, rfl⟩
theorem e0_len : e0.data.toList.length ≤ maxLen := by decide
theorem fine0 {x : Tm} (hx : x.ok) (hk : x.k = 0) : eqLits [.int .u8 x.k, .int .i64 x.v, .int .i64 x.i, .string x.s.data.toList] [.int .u8 0, .int .i64 (if x.v < 0 then 0 else x.v), .int .i64 0, .string []] = true ↔ fineT x := by
  have hv := hx.v
  refine (eqK (s' := e0) hx.k hx.v hx.i (by omega) (by split <;> omega) (by omega) hx.s e0_len).trans ?_
  unfold fineT
  constructor
  · rintro ⟨_, h2, h3, h4⟩; exact .inl ⟨hk, by split at h2 <;> omega, h3, h4⟩
  · rintro (⟨_, h2, h3, h4⟩ | ⟨h1, _⟩ | ⟨h1, _⟩)
    · exact ⟨hk, by rw [if_neg (by omega)], h3, h4⟩
    · omega
    · omega
theorem fine1 {x : Tm} (hx : x.ok) (hk : x.k = 1) : eqLits [.int .u8 x.k, .int .i64 x.v, .int .i64 x.i, .string x.s.data.toList] [.int .u8 1, .int .i64 0, .int .i64 x.i, .string []] = true ↔ fineT x := by
  refine (eqK (s' := e0) hx.k hx.v hx.i (by omega) (by omega) hx.i hx.s e0_len).trans ?_
  unfold fineT
  constructor
  · rintro ⟨_, h2, h3, h4⟩; exact .inr (.inl ⟨hk, h2, h4⟩)
  · rintro (⟨h1, _⟩ | ⟨_, h2, h4⟩ | ⟨h1, _⟩)
    · omega
    · exact ⟨hk, h2, rfl, h4⟩
    · omega
theorem fine2 {x : Tm} (hx : x.ok) (hk : x.k = 2) : eqLits [.int .u8 x.k, .int .i64 x.v, .int .i64 x.i, .string x.s.data.toList] [.int .u8 2, .int .i64 0, .int .i64 0, .string x.s.data.toList] = true ↔ fineT x := by
  refine (eqK hx.k hx.v hx.i (by omega) (by omega) (by omega) hx.s hx.s).trans ?_
  unfold fineT
  constructor
  · rintro ⟨_, h2, h3, h4⟩; exact .inr (.inr ⟨hk, h2, h3⟩)
  · rintro (⟨h1, _⟩ | ⟨h1, _⟩ | ⟨_, h2, h3⟩)
    · omega
    · omega
    · exact ⟨hk, h2, h3, rfl⟩
theorem fineN {x : Tm} (h0 : ¬ x.k = 0) (h1 : ¬ x.k = 1) (h2 : ¬ x.k = 2) : ¬ fineT x := by
  rintro (⟨h, _⟩ | ⟨h, _⟩ | ⟨h, _⟩) <;> contradiction


set_option maxHeartbeats 4000000 in
theorem ckT_spec (ts : List Tm) (p1 : Option Addr) (c1 : Nat) (E1 : List (Nat × Obj)) (h1 : Ags (.slice p1 ts.length c1) ts E1) : SpK Tryz.prog 84 #[.slice p1 ts.length c1] (Mem E1) [] (fun v F' => v = .tuple #[.int .u8 (ckC ts), .int .i64 (ckI ts)] ∧ F' = []) := by
  refine f_enter (args := [.slice p1 ts.length c1]) Tryz.func84 rfl Tryz.ntmps84 rfl ?_
  intro w0 w a hpre hl hh
  have hl1 := h1.len
  simp only [slotsFrom, Nat.reduceAdd] at hl
  refine c_seq ?_
  refine c_region ?_
  refine wl (wl_val hl rfl trivial (r_assign hl rfl) ?_)
  clear hl a; intro a hl
  refine wl (wl_val hl rfl trivial (r_assign hl rfl) ?_)
  clear hl a; intro a hl
  refine w_nil ?_
  have hl2 := hl.add (t := 0) (hl.nil) rfl; clear hl; have hl := hl2; clear hl2
  refine then_normal ?_
  refine c_seq ?_
  refine c_seq ?_
  refine c_region ?_
  refine wl (wl_val hl rfl trivial (r_move hl rfl) ?_)
  clear hl a; intro a hl
  refine wl (wl_val hl rfl trivial (r_lenS hl rfl slc42) ?_)
  clear hl a; intro a hl
  refine wl (wl_val hl rfl trivial (r_move hl rfl) ?_)
  clear hl a; intro a hl
  refine w_nil ?_
  have hl2 := hl.add (t := 7) (hl.add (t := 8) (hl.add (t := 9) (hl.nil) rfl) rfl) rfl; clear hl; have hl := hl2; clear hl2
  refine then_normal ?_
  refine wp_block ?_
  obtain ⟨KS0, hKS0, hk⟩ := (hl.add (t := 7) (hl.add (t := 8) (hl.nil) rfl) rfl).name
  obtain ⟨HS0, hHS0, hh2⟩ := hh.name (keeps_nil)
  refine c_loop (α := Nat) (fun i => ts.length - i) (fun i a w => (i ≤ ts.length ∧ ∀ j t, j < i → ts[j]? = some t → fineT t) ∧ Sl 38 ([(9, .int .i64 (i : Int))] ++ KS0) a ∧ Has _ w0 ([] ++ HS0) w) 0 ⟨⟨Nat.zero_le _, fun j t h => absurd h (Nat.not_lt_zero _)⟩, hl.addE (t := 9) (hk) rfl (by first | rfl), hh2⟩ ?_
  clear hk hh2 hl hh a w
  intro i a w hI
  obtain ⟨⟨hi, hf⟩, hl, hh⟩ := hI
  subst hKS0; subst hHS0
  simp only [List.cons_append, List.nil_append, List.append_nil] at hl hh
  refine c_seq ?_
  refine c_region ?_
  refine wl (wl_val hl rfl trivial (r_lss hl rfl rfl) ?_)
  clear hl a; intro a hl
  refine w_nil ?_
  have hl2 := hl.add (t := 7) (hl.add (t := 8) (hl.add (t := 9) (hl.add (t := 10) (hl.nil) rfl) rfl) rfl) rfl; clear hl; have hl := hl2; clear hl2
  refine then_normal ?_
  refine c_seq ?_
  refine c_cond hl rfl ?_ ?_
  · intro hc0
    try simp only [decide_eq_true_eq, decide_eq_false_iff_not, Bool.not_eq_true', Bool.not_eq_false', Bool.not_eq_true, Bool.not_eq_false, Bool.and_eq_true, Bool.or_eq_true, Bool.and_eq_false_iff, Bool.or_eq_false_iff, Bool.not_not, ne_eq, Int.not_lt, Int.not_le, Decidable.not_not, beq_iff_eq, bne_iff_ne] at hc0
    obtain ⟨x, hx⟩ : ∃ x, ts[i]? = some x := ⟨_, List.getElem?_eq_getElem (by omega)⟩
    obtain ⟨b1, j1, hq1, rfl, hm1⟩ := row_mem h1.row (by omega) hpre
    subst hq1
    have hd1 := fl_at tmc_len hx j1
    simp only [tmc] at hd1
    have hxo := h1.ok x (List.mem_of_getElem? hx)
    have hxk := hxo.k; have hxv := hxo.v; have hxi := hxo.i
    refine wp_skip ?_
    refine then_normal ?_
    refine c_seq ?_
    refine wp_block ?_
    refine c_seq ?_
    refine c_region ?_
    refine wl (wl_val hl rfl trivial (r_move hl rfl) ?_)
    clear hl a; intro a hl
    refine wl (wl_val hl rfl trivial (r_indexS hl rfl rfl slc42 (by omega) (by omega) (by first | (simp only [Int.reduceToNat]; rfl) | exact toNat_add1 _ | exact toNat_add2 _ _ | exact toNat_emod _ _ | exact Int.toNat_natCast _ | rfl)) ?_)
    clear hl a; intro a hl
    first | refine wl (w_loadA hl hh rfl trivial agg54 rfl (by repeat (first | exact find_head | apply find_tail)) (by first | (simp only [List.getElem?_cons_zero, List.getElem?_cons_succ, Value.cells, List.take_zero, List.take_succ_cons, List.take_nil, List.drop_zero, List.drop_succ_cons, List.drop_nil, List.length_cons, List.length_nil, List.cons_append, List.nil_append, List.append_nil, Nat.zero_add, Nat.add_zero, Nat.reduceAdd, Nat.reduceBEq, Nat.reduceEqDiff, Nat.ble, BEq.rfl, Bool.and_true, Bool.and_self, cond_true, beq_self_eq_true]; rfl)) (by first | rfl | (simp; done)) ?_) | refine wl (w_loadRA hl hh rfl trivial agg54 rfl hm1 (by simp) hd1 rfl ?_)
    clear hl a; intro a hl
    refine wl (w_alloc hl hh rfl trivial zero54 rfl ?_)
    clear hl hh a w; intro k5 a w hl hh
    refine wl (wl_val hl rfl trivial (r_assign hl rfl) ?_)
    clear hl a; intro a hl
    refine wl (w_storeA hl hh trivial agg54 rfl rfl (by repeat (first | exact find_head | apply find_tail)) (by first | rfl | (simp; done)) (by first | (simp; done) | (simp; omega)) (by first | rfl | (simp; done)) (by first | (simp only [setL, List.getElem?_cons_zero, List.getElem?_cons_succ, Value.cells, List.take_zero, List.take_succ_cons, List.take_nil, List.drop_zero, List.drop_succ_cons, List.drop_nil, List.length_cons, List.length_nil, List.cons_append, List.nil_append, List.append_nil, Nat.zero_add, Nat.add_zero, Nat.reduceAdd, Nat.reduceBEq, Nat.reduceEqDiff, Nat.ble, BEq.rfl, Bool.and_true, Bool.and_self, cond_true, beq_self_eq_true]; rfl)) ?_)
    clear hh w; intro w hh
    refine w_nil ?_
    have hl2 := hl.add (t := 4) (hl.add (t := 5) (hl.add (t := 7) (hl.add (t := 8) (hl.add (t := 9) (hl.nil) rfl) rfl) rfl) rfl) rfl; clear hl; have hl := hl2; clear hl2
    refine then_normal ?_
    refine c_seq ?_
    refine c_region ?_
    refine wl (w_alloc hl hh rfl trivial zero54 rfl ?_)
    clear hl hh a w; intro k6 a w hl hh
    refine w_nil ?_
    have hl2 := hl.add (t := 4) (hl.add (t := 5) (hl.add (t := 6) (hl.add (t := 7) (hl.add (t := 8) (hl.add (t := 9) (hl.nil) rfl) rfl) rfl) rfl) rfl) rfl; clear hl; have hl := hl2; clear hl2
    refine then_normal ?_
    refine c_seq ?_
    refine c_seq ?_
    refine c_region ?_
    refine wl (wl_val hl rfl trivial (r_field hl rfl fld54_0) ?_)
    clear hl a; intro a hl
    refine wl (w_load hl hh rfl trivial one52 rfl (by repeat (first | exact find_head | apply find_tail)) (by first | rfl) ?_)
    clear hl a; intro a hl
    refine w_nil ?_
    have hl2 := hl.add (t := 4) (hl.add (t := 5) (hl.add (t := 6) (hl.add (t := 7) (hl.add (t := 8) (hl.add (t := 9) (hl.add (t := 15) (hl.nil) rfl) rfl) rfl) rfl) rfl) rfl) rfl; clear hl; have hl := hl2; clear hl2
    refine then_normal ?_
    refine wp_block ?_
    refine c_seq ?_
    refine c_region ?_
    refine wl (wl_val hl rfl trivial (r_eql hl rfl rfl) ?_)
    clear hl a; intro a hl
    refine wl (wl_val hl rfl trivial (r_assign hl rfl) ?_)
    clear hl a; intro a hl
    refine w_nil ?_
    have hl2 := hl.add (t := 4) (hl.add (t := 5) (hl.add (t := 6) (hl.add (t := 7) (hl.add (t := 8) (hl.add (t := 9) (hl.add (t := 15) (hl.add (t := 17) (hl.nil) rfl) rfl) rfl) rfl) rfl) rfl) rfl) rfl; clear hl; have hl := hl2; clear hl2
    refine then_normal ?_
    refine c_cond hl rfl ?_ ?_
    · intro hc1
      try simp only [decide_eq_true_eq, decide_eq_false_iff_not, Bool.not_eq_true', Bool.not_eq_false', Bool.not_eq_true, Bool.not_eq_false, Bool.and_eq_true, Bool.or_eq_true, Bool.and_eq_false_iff, Bool.or_eq_false_iff, Bool.not_not, ne_eq, Int.not_lt, Int.not_le, Decidable.not_not, beq_iff_eq, bne_iff_ne] at hc1
      refine c_region ?_
      refine wl (wl_val hl rfl trivial (r_field hl rfl fld54_1) ?_)
      clear hl a; intro a hl
      refine wl (w_load hl hh rfl trivial one3 rfl (by repeat (first | exact find_head | apply find_tail)) (by first | rfl) ?_)
      clear hl a; intro a hl
      refine wl (wl_val hl rfl trivial (r_max hl rfl rfl) ?_)
      clear hl a; intro a hl
      refine wl (wl_val hl rfl trivial (r_build hl rfl zero54 bld54 (by simp only [fillL, setL, List.getElem?_cons_zero, List.getElem?_cons_succ, Value.cells, List.take_zero, List.take_succ_cons, List.take_nil, List.drop_zero, List.drop_succ_cons, List.drop_nil, List.length_cons, List.length_nil, List.cons_append, List.nil_append, List.append_nil, Nat.zero_add, Nat.add_zero, Nat.reduceAdd, Nat.reduceBEq, Nat.reduceEqDiff, Nat.ble, BEq.rfl, Bool.and_true, Bool.and_self, cond_true, beq_self_eq_true]; rfl)) ?_)
      clear hl a; intro a hl
      refine wl (w_storeA hl hh trivial agg54 rfl rfl (by repeat (first | exact find_head | apply find_tail)) (by first | rfl | (simp; done)) (by first | (simp; done) | (simp; omega)) (by first | rfl | (simp; done)) (by first | (simp only [setL, List.getElem?_cons_zero, List.getElem?_cons_succ, Value.cells, List.take_zero, List.take_succ_cons, List.take_nil, List.drop_zero, List.drop_succ_cons, List.drop_nil, List.length_cons, List.length_nil, List.cons_append, List.nil_append, List.append_nil, Nat.zero_add, Nat.add_zero, Nat.reduceAdd, Nat.reduceBEq, Nat.reduceEqDiff, Nat.ble, BEq.rfl, Bool.and_true, Bool.and_self, cond_true, beq_self_eq_true]; rfl)) ?_)
      clear hh w; intro w hh
      refine w_nil ?_
      have hl2 := hl.add (t := 4) (hl.add (t := 5) (hl.add (t := 6) (hl.add (t := 7) (hl.add (t := 8) (hl.add (t := 9) (hl.nil) rfl) rfl) rfl) rfl) rfl) rfl; clear hl; have hl := hl2; clear hl2
      refine blk_normal ?_
      refine then_normal ?_
      refine c_seq ?_
      refine c_region ?_
      first | refine wl (w_loadA hl hh rfl trivial agg54 rfl (by repeat (first | exact find_head | apply find_tail)) (by first | (simp only [List.getElem?_cons_zero, List.getElem?_cons_succ, Value.cells, List.take_zero, List.take_succ_cons, List.take_nil, List.drop_zero, List.drop_succ_cons, List.drop_nil, List.length_cons, List.length_nil, List.cons_append, List.nil_append, List.append_nil, Nat.zero_add, Nat.add_zero, Nat.reduceAdd, Nat.reduceBEq, Nat.reduceEqDiff, Nat.ble, BEq.rfl, Bool.and_true, Bool.and_self, cond_true, beq_self_eq_true]; rfl)) (by first | rfl | (simp; done)) ?_) | refine wl (w_loadRA hl hh rfl trivial agg54 rfl hm1 (by simp) hd1 rfl ?_)
      clear hl a; intro a hl
      first | refine wl (w_loadA hl hh rfl trivial agg54 rfl (by repeat (first | exact find_head | apply find_tail)) (by first | (simp only [List.getElem?_cons_zero, List.getElem?_cons_succ, Value.cells, List.take_zero, List.take_succ_cons, List.take_nil, List.drop_zero, List.drop_succ_cons, List.drop_nil, List.length_cons, List.length_nil, List.cons_append, List.nil_append, List.append_nil, Nat.zero_add, Nat.add_zero, Nat.reduceAdd, Nat.reduceBEq, Nat.reduceEqDiff, Nat.ble, BEq.rfl, Bool.and_true, Bool.and_self, cond_true, beq_self_eq_true]; rfl)) (by first | rfl | (simp; done)) ?_) | refine wl (w_loadRA hl hh rfl trivial agg54 rfl hm1 (by simp) hd1 rfl ?_)
      clear hl a; intro a hl
      refine wl (wl_val hl rfl trivial (r_neqA hl rfl rfl eqf54 shp54 (by simp only [unlitL, unlit]; rfl) (by simp only [unlitL, unlit]; rfl) (by first | exact litsK (by omega) (by omega) (by omega) hxo.s | exact litsK (s := e0) (by omega) (by first | omega | (split <;> omega)) (by omega) e0_len | exact ⟨trivial⟩ | (refine ⟨?_⟩; simp [LitsOk, litOk, Fits]; done) | (refine ⟨?_⟩; simp [LitsOk, litOk, Fits]; omega)) (by first | exact litsK (by omega) (by omega) (by omega) hxo.s | exact litsK (s := e0) (by omega) (by first | omega | (split <;> omega)) (by omega) e0_len | exact ⟨trivial⟩ | (refine ⟨?_⟩; simp [LitsOk, litOk, Fits]; done) | (refine ⟨?_⟩; simp [LitsOk, litOk, Fits]; omega))) ?_)
      clear hl a; intro a hl
      refine w_nil ?_
      have hl2 := hl.add (t := 4) (hl.add (t := 7) (hl.add (t := 8) (hl.add (t := 9) (hl.add (t := 35) (hl.nil) rfl) rfl) rfl) rfl) rfl; clear hl; have hl := hl2; clear hl2
      refine then_normal ?_
      refine c_cond hl rfl ?_ ?_
      · intro hc4
        try simp only [decide_eq_true_eq, decide_eq_false_iff_not, Bool.not_eq_true', Bool.not_eq_false', Bool.not_eq_true, Bool.not_eq_false, Bool.and_eq_true, Bool.or_eq_true, Bool.and_eq_false_iff, Bool.or_eq_false_iff, Bool.not_not, ne_eq, Int.not_lt, Int.not_le, Decidable.not_not, beq_iff_eq, bne_iff_ne] at hc4
        have hfx : ¬ fineT x := by first | exact fun h9 => by simp [(fine0 hxo (by omega)).2 h9] at hc4 | exact fun h9 => by simp [(fine1 hxo (by omega)).2 h9] at hc4 | exact fun h9 => by simp [(fine2 hxo (by omega)).2 h9] at hc4
        refine c_seq ?_
        refine c_region ?_
        refine wl (wl_val hl rfl trivial (r_move hl rfl) ?_)
        clear hl a; intro a hl
        refine wl (wl_val hl rfl trivial (r_assign hl rfl) ?_)
        clear hl a; intro a hl
        refine wl (wl_val hl rfl trivial (r_assign hl rfl) ?_)
        clear hl a; intro a hl
        refine w_nil ?_
        have hl2 := hl.add (t := 2) (hl.add (t := 3) (hl.nil) rfl) rfl; clear hl; have hl := hl2; clear hl2
        refine then_normal ?_
        refine wp_ret ?_
        refine blk_ret ?_
        refine then_ret ?_
        refine then_ret ?_
        refine blk_ret ?_
        refine then_ret ?_
        refine f_ret2 (F' := []) hl hh rfl rfl rfl (by repeat (first | exact keeps_nil | apply keeps_cons (by repeat (first | exact find_head | apply find_tail)) (by first  | rfl) | exact keeps_self | apply keeps_mv)) ?_
        have h9 := ck_bad (bad_some hf hx hfx); exact ⟨by rw [h9.1, h9.2], rfl⟩
      · intro hc4
        try simp only [decide_eq_true_eq, decide_eq_false_iff_not, Bool.not_eq_true', Bool.not_eq_false', Bool.not_eq_true, Bool.not_eq_false, Bool.and_eq_true, Bool.or_eq_true, Bool.and_eq_false_iff, Bool.or_eq_false_iff, Bool.not_not, ne_eq, Int.not_lt, Int.not_le, Decidable.not_not, beq_iff_eq, bne_iff_ne] at hc4
        have hfx : fineT x := by first | exact (fine0 hxo (by omega)).1 hc4 | exact (fine1 hxo (by omega)).1 hc4 | exact (fine2 hxo (by omega)).1 hc4
        refine wp_skip ?_
        refine blk_normal ?_
        refine then_normal ?_
        refine c_region ?_
        first | refine wl (wl_val hl rfl trivial (r_add hl rfl rfl (by simp only [Fits]; omega)) ?_) | refine wl (wl_val hl rfl trivial (r_addW hl rfl rfl) ?_)
        clear hl a; intro a hl
        refine wl (wl_val hl rfl trivial (r_move hl rfl) ?_)
        clear hl a; intro a hl
        refine w_nil ?_
        have hl2 := hl.add (t := 7) (hl.add (t := 8) (hl.add (t := 9) (hl.nil) rfl) rfl) rfl; clear hl; have hl := hl2; clear hl2
        refine then_normal ?_
        refine ⟨i + 1, (by omega), ⟨by omega, fine_snoc hf hx hfx⟩, hl.addE (t := 9) (hl.addE (t := 7) (hl.addE (t := 8) (hl.nil) rfl (by first | rfl | rfl)) rfl (by first | rfl | rfl)) rfl (by first | rfl | rfl), hh.keep (by repeat (first | exact keeps_nil | apply keeps_cons (by repeat (first | exact find_head | apply find_tail)) (by first  | rfl) | exact keeps_self | apply keeps_mv))⟩
    · intro hc1
      try simp only [decide_eq_true_eq, decide_eq_false_iff_not, Bool.not_eq_true', Bool.not_eq_false', Bool.not_eq_true, Bool.not_eq_false, Bool.and_eq_true, Bool.or_eq_true, Bool.and_eq_false_iff, Bool.or_eq_false_iff, Bool.not_not, ne_eq, Int.not_lt, Int.not_le, Decidable.not_not, beq_iff_eq, bne_iff_ne] at hc1
      refine c_seq ?_
      refine c_region ?_
      refine wl (wl_val hl rfl trivial (r_eql hl rfl rfl) ?_)
      clear hl a; intro a hl
      refine wl (wl_val hl rfl trivial (r_assign hl rfl) ?_)
      clear hl a; intro a hl
      refine w_nil ?_
      have hl2 := hl.add (t := 4) (hl.add (t := 5) (hl.add (t := 6) (hl.add (t := 7) (hl.add (t := 8) (hl.add (t := 9) (hl.add (t := 15) (hl.add (t := 23) (hl.nil) rfl) rfl) rfl) rfl) rfl) rfl) rfl) rfl; clear hl; have hl := hl2; clear hl2
      refine then_normal ?_
      refine c_cond hl rfl ?_ ?_
      · intro hc2
        try simp only [decide_eq_true_eq, decide_eq_false_iff_not, Bool.not_eq_true', Bool.not_eq_false', Bool.not_eq_true, Bool.not_eq_false, Bool.and_eq_true, Bool.or_eq_true, Bool.and_eq_false_iff, Bool.or_eq_false_iff, Bool.not_not, ne_eq, Int.not_lt, Int.not_le, Decidable.not_not, beq_iff_eq, bne_iff_ne] at hc2
        refine c_region ?_
        refine wl (wl_val hl rfl trivial (r_field hl rfl fld54_2) ?_)
        clear hl a; intro a hl
        refine wl (w_load hl hh rfl trivial one2 rfl (by repeat (first | exact find_head | apply find_tail)) (by first | rfl) ?_)
        clear hl a; intro a hl
        refine wl (wl_val hl rfl trivial (r_build hl rfl zero54 bld54 (by simp only [fillL, setL, List.getElem?_cons_zero, List.getElem?_cons_succ, Value.cells, List.take_zero, List.take_succ_cons, List.take_nil, List.drop_zero, List.drop_succ_cons, List.drop_nil, List.length_cons, List.length_nil, List.cons_append, List.nil_append, List.append_nil, Nat.zero_add, Nat.add_zero, Nat.reduceAdd, Nat.reduceBEq, Nat.reduceEqDiff, Nat.ble, BEq.rfl, Bool.and_true, Bool.and_self, cond_true, beq_self_eq_true]; rfl)) ?_)
        clear hl a; intro a hl
        refine wl (w_storeA hl hh trivial agg54 rfl rfl (by repeat (first | exact find_head | apply find_tail)) (by first | rfl | (simp; done)) (by first | (simp; done) | (simp; omega)) (by first | rfl | (simp; done)) (by first | (simp only [setL, List.getElem?_cons_zero, List.getElem?_cons_succ, Value.cells, List.take_zero, List.take_succ_cons, List.take_nil, List.drop_zero, List.drop_succ_cons, List.drop_nil, List.length_cons, List.length_nil, List.cons_append, List.nil_append, List.append_nil, Nat.zero_add, Nat.add_zero, Nat.reduceAdd, Nat.reduceBEq, Nat.reduceEqDiff, Nat.ble, BEq.rfl, Bool.and_true, Bool.and_self, cond_true, beq_self_eq_true]; rfl)) ?_)
        clear hh w; intro w hh
        refine w_nil ?_
        have hl2 := hl.add (t := 4) (hl.add (t := 5) (hl.add (t := 6) (hl.add (t := 7) (hl.add (t := 8) (hl.add (t := 9) (hl.nil) rfl) rfl) rfl) rfl) rfl) rfl; clear hl; have hl := hl2; clear hl2
        refine blk_normal ?_
        refine then_normal ?_
        refine c_seq ?_
        refine c_region ?_
        first | refine wl (w_loadA hl hh rfl trivial agg54 rfl (by repeat (first | exact find_head | apply find_tail)) (by first | (simp only [List.getElem?_cons_zero, List.getElem?_cons_succ, Value.cells, List.take_zero, List.take_succ_cons, List.take_nil, List.drop_zero, List.drop_succ_cons, List.drop_nil, List.length_cons, List.length_nil, List.cons_append, List.nil_append, List.append_nil, Nat.zero_add, Nat.add_zero, Nat.reduceAdd, Nat.reduceBEq, Nat.reduceEqDiff, Nat.ble, BEq.rfl, Bool.and_true, Bool.and_self, cond_true, beq_self_eq_true]; rfl)) (by first | rfl | (simp; done)) ?_) | refine wl (w_loadRA hl hh rfl trivial agg54 rfl hm1 (by simp) hd1 rfl ?_)
        clear hl a; intro a hl
        first | refine wl (w_loadA hl hh rfl trivial agg54 rfl (by repeat (first | exact find_head | apply find_tail)) (by first | (simp only [List.getElem?_cons_zero, List.getElem?_cons_succ, Value.cells, List.take_zero, List.take_succ_cons, List.take_nil, List.drop_zero, List.drop_succ_cons, List.drop_nil, List.length_cons, List.length_nil, List.cons_append, List.nil_append, List.append_nil, Nat.zero_add, Nat.add_zero, Nat.reduceAdd, Nat.reduceBEq, Nat.reduceEqDiff, Nat.ble, BEq.rfl, Bool.and_true, Bool.and_self, cond_true, beq_self_eq_true]; rfl)) (by first | rfl | (simp; done)) ?_) | refine wl (w_loadRA hl hh rfl trivial agg54 rfl hm1 (by simp) hd1 rfl ?_)
        clear hl a; intro a hl
        refine wl (wl_val hl rfl trivial (r_neqA hl rfl rfl eqf54 shp54 (by simp only [unlitL, unlit]; rfl) (by simp only [unlitL, unlit]; rfl) (by first | exact litsK (by omega) (by omega) (by omega) hxo.s | exact litsK (s := e0) (by omega) (by first | omega | (split <;> omega)) (by omega) e0_len | exact ⟨trivial⟩ | (refine ⟨?_⟩; simp [LitsOk, litOk, Fits]; done) | (refine ⟨?_⟩; simp [LitsOk, litOk, Fits]; omega)) (by first | exact litsK (by omega) (by omega) (by omega) hxo.s | exact litsK (s := e0) (by omega) (by first | omega | (split <;> omega)) (by omega) e0_len | exact ⟨trivial⟩ | (refine ⟨?_⟩; simp [LitsOk, litOk, Fits]; done) | (refine ⟨?_⟩; simp [LitsOk, litOk, Fits]; omega))) ?_)
        clear hl a; intro a hl
        refine w_nil ?_
        have hl2 := hl.add (t := 4) (hl.add (t := 7) (hl.add (t := 8) (hl.add (t := 9) (hl.add (t := 35) (hl.nil) rfl) rfl) rfl) rfl) rfl; clear hl; have hl := hl2; clear hl2
        refine then_normal ?_
        refine c_cond hl rfl ?_ ?_
        · intro hc4
          try simp only [decide_eq_true_eq, decide_eq_false_iff_not, Bool.not_eq_true', Bool.not_eq_false', Bool.not_eq_true, Bool.not_eq_false, Bool.and_eq_true, Bool.or_eq_true, Bool.and_eq_false_iff, Bool.or_eq_false_iff, Bool.not_not, ne_eq, Int.not_lt, Int.not_le, Decidable.not_not, beq_iff_eq, bne_iff_ne] at hc4
          have hfx : ¬ fineT x := by first | exact fun h9 => by simp [(fine0 hxo (by omega)).2 h9] at hc4 | exact fun h9 => by simp [(fine1 hxo (by omega)).2 h9] at hc4 | exact fun h9 => by simp [(fine2 hxo (by omega)).2 h9] at hc4
          refine c_seq ?_
          refine c_region ?_
          refine wl (wl_val hl rfl trivial (r_move hl rfl) ?_)
          clear hl a; intro a hl
          refine wl (wl_val hl rfl trivial (r_assign hl rfl) ?_)
          clear hl a; intro a hl
          refine wl (wl_val hl rfl trivial (r_assign hl rfl) ?_)
          clear hl a; intro a hl
          refine w_nil ?_
          have hl2 := hl.add (t := 2) (hl.add (t := 3) (hl.nil) rfl) rfl; clear hl; have hl := hl2; clear hl2
          refine then_normal ?_
          refine wp_ret ?_
          refine blk_ret ?_
          refine then_ret ?_
          refine then_ret ?_
          refine blk_ret ?_
          refine then_ret ?_
          refine f_ret2 (F' := []) hl hh rfl rfl rfl (by repeat (first | exact keeps_nil | apply keeps_cons (by repeat (first | exact find_head | apply find_tail)) (by first  | rfl) | exact keeps_self | apply keeps_mv)) ?_
          have h9 := ck_bad (bad_some hf hx hfx); exact ⟨by rw [h9.1, h9.2], rfl⟩
        · intro hc4
          try simp only [decide_eq_true_eq, decide_eq_false_iff_not, Bool.not_eq_true', Bool.not_eq_false', Bool.not_eq_true, Bool.not_eq_false, Bool.and_eq_true, Bool.or_eq_true, Bool.and_eq_false_iff, Bool.or_eq_false_iff, Bool.not_not, ne_eq, Int.not_lt, Int.not_le, Decidable.not_not, beq_iff_eq, bne_iff_ne] at hc4
          have hfx : fineT x := by first | exact (fine0 hxo (by omega)).1 hc4 | exact (fine1 hxo (by omega)).1 hc4 | exact (fine2 hxo (by omega)).1 hc4
          refine wp_skip ?_
          refine blk_normal ?_
          refine then_normal ?_
          refine c_region ?_
          first | refine wl (wl_val hl rfl trivial (r_add hl rfl rfl (by simp only [Fits]; omega)) ?_) | refine wl (wl_val hl rfl trivial (r_addW hl rfl rfl) ?_)
          clear hl a; intro a hl
          refine wl (wl_val hl rfl trivial (r_move hl rfl) ?_)
          clear hl a; intro a hl
          refine w_nil ?_
          have hl2 := hl.add (t := 7) (hl.add (t := 8) (hl.add (t := 9) (hl.nil) rfl) rfl) rfl; clear hl; have hl := hl2; clear hl2
          refine then_normal ?_
          refine ⟨i + 1, (by omega), ⟨by omega, fine_snoc hf hx hfx⟩, hl.addE (t := 9) (hl.addE (t := 7) (hl.addE (t := 8) (hl.nil) rfl (by first | rfl | rfl)) rfl (by first | rfl | rfl)) rfl (by first | rfl | rfl), hh.keep (by repeat (first | exact keeps_nil | apply keeps_cons (by repeat (first | exact find_head | apply find_tail)) (by first  | rfl) | exact keeps_self | apply keeps_mv))⟩
      · intro hc2
        try simp only [decide_eq_true_eq, decide_eq_false_iff_not, Bool.not_eq_true', Bool.not_eq_false', Bool.not_eq_true, Bool.not_eq_false, Bool.and_eq_true, Bool.or_eq_true, Bool.and_eq_false_iff, Bool.or_eq_false_iff, Bool.not_not, ne_eq, Int.not_lt, Int.not_le, Decidable.not_not, beq_iff_eq, bne_iff_ne] at hc2
        refine c_seq ?_
        refine c_region ?_
        refine wl (wl_val hl rfl trivial (r_eql hl rfl rfl) ?_)
        clear hl a; intro a hl
        refine wl (wl_val hl rfl trivial (r_assign hl rfl) ?_)
        clear hl a; intro a hl
        refine w_nil ?_
        have hl2 := hl.add (t := 4) (hl.add (t := 5) (hl.add (t := 6) (hl.add (t := 7) (hl.add (t := 8) (hl.add (t := 9) (hl.add (t := 28) (hl.nil) rfl) rfl) rfl) rfl) rfl) rfl) rfl; clear hl; have hl := hl2; clear hl2
        refine then_normal ?_
        refine c_cond hl rfl ?_ ?_
        · intro hc3
          try simp only [decide_eq_true_eq, decide_eq_false_iff_not, Bool.not_eq_true', Bool.not_eq_false', Bool.not_eq_true, Bool.not_eq_false, Bool.and_eq_true, Bool.or_eq_true, Bool.and_eq_false_iff, Bool.or_eq_false_iff, Bool.not_not, ne_eq, Int.not_lt, Int.not_le, Decidable.not_not, beq_iff_eq, bne_iff_ne] at hc3
          refine c_region ?_
          refine wl (wl_val hl rfl trivial (r_field hl rfl fld54_3) ?_)
          clear hl a; intro a hl
          refine wl (w_load hl hh rfl trivial one9 rfl (by repeat (first | exact find_head | apply find_tail)) (by first | rfl) ?_)
          clear hl a; intro a hl
          refine wl (wl_val hl rfl trivial (r_build hl rfl zero54 bld54 (by simp only [fillL, setL, List.getElem?_cons_zero, List.getElem?_cons_succ, Value.cells, List.take_zero, List.take_succ_cons, List.take_nil, List.drop_zero, List.drop_succ_cons, List.drop_nil, List.length_cons, List.length_nil, List.cons_append, List.nil_append, List.append_nil, Nat.zero_add, Nat.add_zero, Nat.reduceAdd, Nat.reduceBEq, Nat.reduceEqDiff, Nat.ble, BEq.rfl, Bool.and_true, Bool.and_self, cond_true, beq_self_eq_true]; rfl)) ?_)
          clear hl a; intro a hl
          refine wl (w_storeA hl hh trivial agg54 rfl rfl (by repeat (first | exact find_head | apply find_tail)) (by first | rfl | (simp; done)) (by first | (simp; done) | (simp; omega)) (by first | rfl | (simp; done)) (by first | (simp only [setL, List.getElem?_cons_zero, List.getElem?_cons_succ, Value.cells, List.take_zero, List.take_succ_cons, List.take_nil, List.drop_zero, List.drop_succ_cons, List.drop_nil, List.length_cons, List.length_nil, List.cons_append, List.nil_append, List.append_nil, Nat.zero_add, Nat.add_zero, Nat.reduceAdd, Nat.reduceBEq, Nat.reduceEqDiff, Nat.ble, BEq.rfl, Bool.and_true, Bool.and_self, cond_true, beq_self_eq_true]; rfl)) ?_)
          clear hh w; intro w hh
          refine w_nil ?_
          have hl2 := hl.add (t := 4) (hl.add (t := 5) (hl.add (t := 6) (hl.add (t := 7) (hl.add (t := 8) (hl.add (t := 9) (hl.nil) rfl) rfl) rfl) rfl) rfl) rfl; clear hl; have hl := hl2; clear hl2
          refine blk_normal ?_
          refine then_normal ?_
          refine c_seq ?_
          refine c_region ?_
          first | refine wl (w_loadA hl hh rfl trivial agg54 rfl (by repeat (first | exact find_head | apply find_tail)) (by first | (simp only [List.getElem?_cons_zero, List.getElem?_cons_succ, Value.cells, List.take_zero, List.take_succ_cons, List.take_nil, List.drop_zero, List.drop_succ_cons, List.drop_nil, List.length_cons, List.length_nil, List.cons_append, List.nil_append, List.append_nil, Nat.zero_add, Nat.add_zero, Nat.reduceAdd, Nat.reduceBEq, Nat.reduceEqDiff, Nat.ble, BEq.rfl, Bool.and_true, Bool.and_self, cond_true, beq_self_eq_true]; rfl)) (by first | rfl | (simp; done)) ?_) | refine wl (w_loadRA hl hh rfl trivial agg54 rfl hm1 (by simp) hd1 rfl ?_)
          clear hl a; intro a hl
          first | refine wl (w_loadA hl hh rfl trivial agg54 rfl (by repeat (first | exact find_head | apply find_tail)) (by first | (simp only [List.getElem?_cons_zero, List.getElem?_cons_succ, Value.cells, List.take_zero, List.take_succ_cons, List.take_nil, List.drop_zero, List.drop_succ_cons, List.drop_nil, List.length_cons, List.length_nil, List.cons_append, List.nil_append, List.append_nil, Nat.zero_add, Nat.add_zero, Nat.reduceAdd, Nat.reduceBEq, Nat.reduceEqDiff, Nat.ble, BEq.rfl, Bool.and_true, Bool.and_self, cond_true, beq_self_eq_true]; rfl)) (by first | rfl | (simp; done)) ?_) | refine wl (w_loadRA hl hh rfl trivial agg54 rfl hm1 (by simp) hd1 rfl ?_)
          clear hl a; intro a hl
          refine wl (wl_val hl rfl trivial (r_neqA hl rfl rfl eqf54 shp54 (by simp only [unlitL, unlit]; rfl) (by simp only [unlitL, unlit]; rfl) (by first | exact litsK (by omega) (by omega) (by omega) hxo.s | exact litsK (s := e0) (by omega) (by first | omega | (split <;> omega)) (by omega) e0_len | exact ⟨trivial⟩ | (refine ⟨?_⟩; simp [LitsOk, litOk, Fits]; done) | (refine ⟨?_⟩; simp [LitsOk, litOk, Fits]; omega)) (by first | exact litsK (by omega) (by omega) (by omega) hxo.s | exact litsK (s := e0) (by omega) (by first | omega | (split <;> omega)) (by omega) e0_len | exact ⟨trivial⟩ | (refine ⟨?_⟩; simp [LitsOk, litOk, Fits]; done) | (refine ⟨?_⟩; simp [LitsOk, litOk, Fits]; omega))) ?_)
          clear hl a; intro a hl
          refine w_nil ?_
          have hl2 := hl.add (t := 4) (hl.add (t := 7) (hl.add (t := 8) (hl.add (t := 9) (hl.add (t := 35) (hl.nil) rfl) rfl) rfl) rfl) rfl; clear hl; have hl := hl2; clear hl2
          refine then_normal ?_
          refine c_cond hl rfl ?_ ?_
          · intro hc4
            try simp only [decide_eq_true_eq, decide_eq_false_iff_not, Bool.not_eq_true', Bool.not_eq_false', Bool.not_eq_true, Bool.not_eq_false, Bool.and_eq_true, Bool.or_eq_true, Bool.and_eq_false_iff, Bool.or_eq_false_iff, Bool.not_not, ne_eq, Int.not_lt, Int.not_le, Decidable.not_not, beq_iff_eq, bne_iff_ne] at hc4
            have hfx : ¬ fineT x := by first | exact fun h9 => by simp [(fine0 hxo (by omega)).2 h9] at hc4 | exact fun h9 => by simp [(fine1 hxo (by omega)).2 h9] at hc4 | exact fun h9 => by simp [(fine2 hxo (by omega)).2 h9] at hc4
            refine c_seq ?_
            refine c_region ?_
            refine wl (wl_val hl rfl trivial (r_move hl rfl) ?_)
            clear hl a; intro a hl
            refine wl (wl_val hl rfl trivial (r_assign hl rfl) ?_)
            clear hl a; intro a hl
            refine wl (wl_val hl rfl trivial (r_assign hl rfl) ?_)
            clear hl a; intro a hl
            refine w_nil ?_
            have hl2 := hl.add (t := 2) (hl.add (t := 3) (hl.nil) rfl) rfl; clear hl; have hl := hl2; clear hl2
            refine then_normal ?_
            refine wp_ret ?_
            refine blk_ret ?_
            refine then_ret ?_
            refine then_ret ?_
            refine blk_ret ?_
            refine then_ret ?_
            refine f_ret2 (F' := []) hl hh rfl rfl rfl (by repeat (first | exact keeps_nil | apply keeps_cons (by repeat (first | exact find_head | apply find_tail)) (by first  | rfl) | exact keeps_self | apply keeps_mv)) ?_
            have h9 := ck_bad (bad_some hf hx hfx); exact ⟨by rw [h9.1, h9.2], rfl⟩
          · intro hc4
            try simp only [decide_eq_true_eq, decide_eq_false_iff_not, Bool.not_eq_true', Bool.not_eq_false', Bool.not_eq_true, Bool.not_eq_false, Bool.and_eq_true, Bool.or_eq_true, Bool.and_eq_false_iff, Bool.or_eq_false_iff, Bool.not_not, ne_eq, Int.not_lt, Int.not_le, Decidable.not_not, beq_iff_eq, bne_iff_ne] at hc4
            have hfx : fineT x := by first | exact (fine0 hxo (by omega)).1 hc4 | exact (fine1 hxo (by omega)).1 hc4 | exact (fine2 hxo (by omega)).1 hc4
            refine wp_skip ?_
            refine blk_normal ?_
            refine then_normal ?_
            refine c_region ?_
            first | refine wl (wl_val hl rfl trivial (r_add hl rfl rfl (by simp only [Fits]; omega)) ?_) | refine wl (wl_val hl rfl trivial (r_addW hl rfl rfl) ?_)
            clear hl a; intro a hl
            refine wl (wl_val hl rfl trivial (r_move hl rfl) ?_)
            clear hl a; intro a hl
            refine w_nil ?_
            have hl2 := hl.add (t := 7) (hl.add (t := 8) (hl.add (t := 9) (hl.nil) rfl) rfl) rfl; clear hl; have hl := hl2; clear hl2
            refine then_normal ?_
            refine ⟨i + 1, (by omega), ⟨by omega, fine_snoc hf hx hfx⟩, hl.addE (t := 9) (hl.addE (t := 7) (hl.addE (t := 8) (hl.nil) rfl (by first | rfl | rfl)) rfl (by first | rfl | rfl)) rfl (by first | rfl | rfl), hh.keep (by repeat (first | exact keeps_nil | apply keeps_cons (by repeat (first | exact find_head | apply find_tail)) (by first  | rfl) | exact keeps_self | apply keeps_mv))⟩
        · intro hc3
          try simp only [decide_eq_true_eq, decide_eq_false_iff_not, Bool.not_eq_true', Bool.not_eq_false', Bool.not_eq_true, Bool.not_eq_false, Bool.and_eq_true, Bool.or_eq_true, Bool.and_eq_false_iff, Bool.or_eq_false_iff, Bool.not_not, ne_eq, Int.not_lt, Int.not_le, Decidable.not_not, beq_iff_eq, bne_iff_ne] at hc3
          refine c_seq ?_
          refine c_region ?_
          refine wl (wl_val hl rfl trivial (r_move hl rfl) ?_)
          clear hl a; intro a hl
          refine wl (wl_val hl rfl trivial (r_assign hl rfl) ?_)
          clear hl a; intro a hl
          refine wl (wl_val hl rfl trivial (r_assign hl rfl) ?_)
          clear hl a; intro a hl
          refine w_nil ?_
          have hl2 := hl.add (t := 2) (hl.add (t := 3) (hl.nil) rfl) rfl; clear hl; have hl := hl2; clear hl2
          refine then_normal ?_
          refine wp_ret ?_
          refine blk_ret ?_
          refine then_ret ?_
          refine blk_ret ?_
          refine then_ret ?_
          refine then_ret ?_
          refine blk_ret ?_
          refine then_ret ?_
          refine f_ret2 (F' := []) hl hh rfl rfl rfl (by repeat (first | exact keeps_nil | apply keeps_cons (by repeat (first | exact find_head | apply find_tail)) (by first  | rfl) | exact keeps_self | apply keeps_mv)) ?_
          have h9 := ck_bad (bad_some hf hx (fineN hc1 hc2 hc3)); exact ⟨by rw [h9.1, h9.2], rfl⟩
  · intro hc0
    try simp only [decide_eq_true_eq, decide_eq_false_iff_not, Bool.not_eq_true', Bool.not_eq_false', Bool.not_eq_true, Bool.not_eq_false, Bool.and_eq_true, Bool.or_eq_true, Bool.and_eq_false_iff, Bool.or_eq_false_iff, Bool.not_not, ne_eq, Int.not_lt, Int.not_le, Decidable.not_not, beq_iff_eq, bne_iff_ne] at hc0
    refine wp_exit ?_
    refine then_exit ?_
    refine then_exit ?_
    refine blk_exit ?_
    refine then_normal ?_
    refine c_seq ?_
    refine c_region ?_
    refine wl (wl_val hl rfl trivial (r_assign hl rfl) ?_)
    clear hl a; intro a hl
    refine wl (wl_val hl rfl trivial (r_assign hl rfl) ?_)
    clear hl a; intro a hl
    refine w_nil ?_
    have hl2 := hl.add (t := 2) (hl.add (t := 3) (hl.nil) rfl) rfl; clear hl; have hl := hl2; clear hl2
    refine then_normal ?_
    refine wp_ret ?_
    refine f_ret2 (F' := []) hl hh rfl rfl rfl (by repeat (first | exact keeps_nil | apply keeps_cons (by repeat (first | exact find_head | apply find_tail)) (by first  | rfl) | exact keeps_self | apply keeps_mv)) ?_
    have hie : i = ts.length := by omega
    rw [hie] at hf
    have h9 := ck_ok (bad_none hf); exact ⟨by rw [h9.1, h9.2], rfl⟩
end Go.Proofs.Qxb6500915aGreatDoor

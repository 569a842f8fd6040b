import Derived.Test.Qxb6500911aDoorA25
namespace Go.Proofs.Qxb6500911aDoor
open Go.Eng
set_option linter.unusedVariables false
set_option linter.unusedSimpArgs false
theorem cal11 : callable Tryd.prog 11 = true := by kernel_rfl
theorem cal12 : callable Tryd.prog 12 = true := by kernel_rfl
theorem fldT28_0 : fieldTOk Tryd.prog 28 0 0 24 = true := by kernel_rfl
theorem one24 : oneOk Tryd.prog 24 = true := by kernel_rfl
theorem cal28 : callable Tryd.prog 28 = true := by kernel_rfl
theorem agg32 : aggOk Tryd.prog 32 4 = true := by kernel_rfl
theorem zero32 : zeroOk Tryd.prog 32 (.agg #[(.int .u8 0), (.int .i64 0), (.int .i64 0), (.int .i64 0)]) := by unfold zeroOk; kernel_rfl
theorem cal13 : callable Tryd.prog 13 = true := by kernel_rfl
theorem cal29 : callable Tryd.prog 29 = true := by kernel_rfl
theorem cal18 : callable Tryd.prog 18 = true := by kernel_rfl
attribute [local irreducible] sysL

structure L5Z where
  g : Gs
  M : Mm
  i : Nat

/-! ## any message -/
def m10 (o : DO) : Rm := ⟨o.c, o.b, o.k, o.a % 18446744073709551616, o.b % 18446744073709551616, o.c % 18446744073709551616, o.a / 256 % 18446744073709551616⟩
theorem sh10 (x : Int) : x.fdiv (2 ^ min (Int.toNat 8) IntKind.i64.bits) = x / 256 := by
  rw [show (2 : Int) ^ min (Int.toNat 8) IntKind.i64.bits = 256 by decide, Int.fdiv_eq_ediv_of_nonneg _ (by decide)]
theorem rm10 {o : DO} (h : o.ok) : RmOk (m10 o) := by
  have := h.k
  unfold m10
  exact ⟨⟨by simp only; omega, by simp only; omega⟩, ⟨by simp only; omega, by simp only; omega⟩, ⟨by simp only; omega, by simp only; omega⟩, ⟨by simp only; omega, by simp only; omega⟩, ⟨by simp only; omega, by simp only; omega⟩⟩
/-- the sound messages -/
def Snd (o : DO) : Prop := (0 ≤ o.b ∧ o.b < 4) ∧ (0 ≤ o.a ∧ o.a < 16) ∧ o.a % 4 = o.b ∧ (0 ≤ o.c ∧ o.c < 65536) ∧ (BitVec.ofNat 16 o.c.toNat).getLsbD o.a.toNat = false ∧ ((o.k = 3 ∧ o.c = 0) ∨ ((o.k = 1 ∨ o.k = 2) ∧ o.c ≠ 0))
theorem z16 {x : Int} (h : 0 ≤ x ∧ x < 65536) : BitVec.ofNat 16 x.toNat = 0#16 ↔ x = 0 := by
  constructor
  · intro e
    have := congrArg BitVec.toNat e
    simp at this
    omega
  · intro e; subst e; rfl
theorem dec10 {o : DO} (h : o.ok) : (decP (m10 o)).isSome = true ↔ Snd o := by
  have ha := h.a; have hb := h.b; have hc := h.c
  unfold decP m10 Snd
  simp only
  by_cases c1 : (0 ≤ o.a ∧ o.a < 16) ∧ (0 ≤ o.c ∧ o.c < 65536)
  · rw [if_neg (by omega), show o.a % 18446744073709551616 = o.a by omega, show o.c % 18446744073709551616 = o.c by omega]
    have hz := z16 c1.2
    by_cases c2 : (BitVec.ofNat 16 o.c.toNat).getLsbD o.a.toNat = true
    · rw [if_pos (.inr c2), c2]; simp
    · have c3 : (BitVec.ofNat 16 o.c.toNat).getLsbD o.a.toNat = false := by simpa using c2
      rw [c3]
      by_cases c4 : ((o.a.toNat % 4 : Nat) : Int) ≠ o.b
      · rw [if_pos (.inl c4)]
        simp only [Option.isSome_none, Bool.false_eq_true, false_iff]
        omega
      · rw [if_neg (by simp; omega)]
        by_cases c5 : ((o.k = 1 ∨ o.k = 2) ∧ o.c ≠ 0) ∨ (o.k = 3 ∧ o.c = 0)
        · rw [if_pos (by simpa only [ne_eq, hz] using c5)]
          simp only [Option.isSome_some, true_iff]
          exact ⟨by omega, by omega, by omega, by omega, trivial, by omega⟩
        · rw [if_neg (by simpa only [ne_eq, hz] using c5)]
          simp only [Option.isSome_none, Bool.false_eq_true, false_iff]
          omega
  · rw [if_pos (by omega)]
    simp only [Option.isSome_none, Bool.false_eq_true, false_iff]
    omega
theorem em10 {o : DO} (h : o.ok) {u : Up} (hu : decP (m10 o) = some u) : u.e ≤ 3 := by
  have hs := (dec10 h).1 (by rw [hu]; rfl)
  have := (dec_to (rm10 h) hu).2.2
  have h1 := hs.1
  unfold m10 at this
  simp only at this
  omega
theorem bit10n (s : BitVec 16) (t : Fin 16) : bitsOf .and .i64 (mi s) (IntKind.i64.wrap (1 * 2 ^ min ((t.1 : Nat) : Int).toNat IntKind.i64.bits)) = 0 ↔ s.getLsbD t.1 = false := by
  have h1 : ∀ t : Fin 16, BitVec.ofInt 64 (IntKind.i64.wrap (1 * 2 ^ min ((t.1 : Nat) : Int).toNat IntKind.i64.bits)) = BitVec.twoPow 64 t.1 := by decide
  have h2 : BitVec.ofInt 64 (mi s) = s.setWidth 64 := by
    apply BitVec.eq_of_toNat_eq
    rw [BitVec.toNat_ofInt, BitVec.toNat_setWidth]
    have := s.isLt; unfold mi; omega
  have h3 : ∀ t : Fin 16, ¬ IntKind.i64.wrap ((BitVec.twoPow 64 t.1).toNat : Int) = 0 := by decide
  have h4 : IntKind.i64.wrap (((0#64).toNat : Nat) : Int) = 0 := by decide
  show IntKind.i64.wrap ((BitVec.ofInt 64 (mi s) &&& BitVec.ofInt 64 (IntKind.i64.wrap (1 * 2 ^ min ((t.1 : Nat) : Int).toNat IntKind.i64.bits))).toNat : Int) = 0 ↔ _
  rw [h1, h2, BitVec.and_twoPow, BitVec.getLsbD_setWidth]
  have ht := t.2
  cases hc : s.getLsbD t.1
  · simp only [Bool.and_false, Bool.false_eq_true, if_false]; exact ⟨fun _ => trivial, fun _ => h4⟩
  · rw [decide_eq_true (show t.1 < 64 by omega)]
    simp only [Bool.and_true, if_true]
    exact ⟨fun h => absurd h (h3 t), fun h => Bool.noConfusion h⟩
theorem bit10 {c a : Int} (hc : 0 ≤ c ∧ c < 65536) (ha : 0 ≤ a ∧ a < 16) : bitsOf .and .i64 c (IntKind.i64.wrap (1 * 2 ^ min a.toNat IntKind.i64.bits)) = 0 ↔ (BitVec.ofNat 16 c.toNat).getLsbD a.toNat = false := by
  obtain ⟨s, rfl⟩ := mi_of (z := c) (by omega)
  obtain ⟨t, rfl⟩ : ∃ t : Nat, a = t := ⟨a.toNat, by omega⟩
  rw [mi_back]
  exact bit10n s ⟨t, by omega⟩
/-- the program's own test -/
def S10 (o : DO) : Prop := 0 ≤ o.b ∧ o.b < 4 ∧ 0 ≤ o.a ∧ o.a < 16 ∧ o.a % 4 = o.b ∧ 0 ≤ o.c ∧ o.c < 65536 ∧ bitsOf .and .i64 o.c (IntKind.i64.wrap (1 * 2 ^ min o.a.toNat IntKind.i64.bits)) = 0 ∧ ((o.k = 3 ∧ o.c = 0) ∨ ((o.k = 1 ∨ o.k = 2) ∧ o.c ≠ 0))
theorem dec10b {o : DO} (h : o.ok) {b : Bool} (hb : b = true ↔ S10 o) : b = (decP (m10 o)).isSome := by
  apply Bool.eq_iff_iff.2
  rw [hb, dec10 h]
  unfold S10 Snd
  constructor
  · rintro ⟨h1, h2, h3, h4, h5, h6, h7, h8, h9⟩
    exact ⟨⟨h1, h2⟩, ⟨h3, h4⟩, h5, ⟨h6, h7⟩, (bit10 ⟨h6, h7⟩ ⟨h3, h4⟩).1 h8, h9⟩
  · rintro ⟨⟨h1, h2⟩, ⟨h3, h4⟩, h5, ⟨h6, h7⟩, h8, h9⟩
    exact ⟨h1, h2, h3, h4, h5, h6, h7, (bit10 ⟨h6, h7⟩ ⟨h3, h4⟩).2 h8, h9⟩
theorem hdl10T {g : Gs} {m : Rm} (h : (decP m).isSome = true) : (hdlG g m).2 = 0 := by
  unfold hdlG
  cases hd : decP m with
  | none => rw [hd] at h; cases h
  | some u => rfl
theorem hdl10F {g : Gs} {m : Rm} (h : (decP m).isSome = false) : hdlG g m = (g, 13) := by
  unfold hdlG
  cases hd : decP m with
  | none => rfl
  | some u => rw [hd] at h; cases h
theorem abs10a {sd : Bool} {cd : Int} (h : (sd == decide (cd = 0)) = false) (h1 : sd = true → cd = 0) (h2 : sd = false → cd = 13) : False := by
  cases sd
  · rw [h2 rfl] at h; simp at h
  · rw [h1 rfl] at h; simp at h


set_option maxHeartbeats 8000000 in
theorem law10 (sb : Nat) (c : List Value) (T : TypeId) (fr : Nat × Nat) (p : Option Addr) (n cap : Nat) (ops : List DO) (hn : n = ops.length) (hlen : n ≤ 9223372036854775807) (h : Ops sb c p cap ops) (tT : TypeId) (tf : Nat × Nat) : SpK Tryd.prog 10 #[.slice p n cap] (fun w => OpsIn sb c T fr ops w ∧ w.heap[0]? = some (.cells ⟨tabL⟩ tT tf)) [] (fun v F' => v = .bool true ∧ F' = []) := by
  refine f_enter (args := [.slice p n cap]) Tryd.func10 rfl Tryd.ntmps10 rfl ?_
  intro w0 w a hpre hl hh
  simp only [slotsFrom, Nat.reduceAdd] at hl
  refine c_seq ?_
  refine c_region ?_
  refine wl (wl_val hl rfl trivial (r_assign hl rfl) ?_)
  clear hl a; intro a hl
  refine w_nil ?_
  have hl2 := hl.add (t := 0) (hl.nil) rfl; clear hl; have hl := hl2; clear hl2
  refine then_normal ?_
  refine c_seq ?_
  refine c_seq ?_
  refine c_region ?_
  refine wl (wl_val hl rfl trivial (r_move hl rfl) ?_)
  clear hl a; intro a hl
  refine wl (w_call hl hh rfl trivial rfl cal11 rfl (small_spec p n cap hlen) (by repeat (first | exact keeps_nil | apply keeps_cons (by repeat (first | exact find_head | apply find_tail | apply find_skip)) (by first  | rfl) | exact keeps_self | exact keeps_left | apply keeps_app | apply keeps_mv | apply keeps_skip)) trivial ?_)
  clear hl hh a w; intro vc Fc a w hR hl hh
  obtain ⟨rfl, rfl⟩ := hR
  try simp only [List.cons_append, List.nil_append, List.append_assoc, List.append_nil] at hh
  refine wl (wl_val hl rfl trivial (r_not hl rfl) ?_)
  clear hl a; intro a hl
  refine w_nil ?_
  have hl2 := hl.add (t := 0) (hl.add (t := 14) (hl.nil) rfl) rfl; clear hl; have hl := hl2; clear hl2
  refine then_normal ?_
  refine c_cond hl rfl ?_ ?_
  · intro hc0
    try simp only [decide_eq_true_eq, decide_eq_false_iff_not, Bool.not_eq_true', Bool.not_eq_false', Bool.not_eq_true, Bool.not_eq_false, Bool.and_eq_true, Bool.or_eq_true, Bool.and_eq_false_iff, Bool.or_eq_false_iff, Bool.not_not, ne_eq, Int.not_lt, Int.not_le, Decidable.not_not, beq_iff_eq, bne_iff_ne] at hc0
    refine c_seq ?_
    refine c_region ?_
    refine wl (wl_val hl rfl trivial (r_assign hl rfl) ?_)
    clear hl a; intro a hl
    refine w_nil ?_
    have hl2 := hl.add (t := 2) (hl.nil) rfl; clear hl; have hl := hl2; clear hl2
    refine then_normal ?_
    refine wp_ret ?_
    refine then_ret ?_
    refine f_ret1 (F' := []) hl hh rfl rfl (by repeat (first | exact keeps_nil | apply keeps_cons (by repeat (first | exact find_head | apply find_tail | apply find_skip)) (by first  | rfl) | exact keeps_self | exact keeps_left | apply keeps_app | apply keeps_mv | apply keeps_skip)) ?_
    exact ⟨rfl, rfl⟩
  · intro hc0
    try simp only [decide_eq_true_eq, decide_eq_false_iff_not, Bool.not_eq_true', Bool.not_eq_false', Bool.not_eq_true, Bool.not_eq_false, Bool.and_eq_true, Bool.or_eq_true, Bool.and_eq_false_iff, Bool.or_eq_false_iff, Bool.not_not, ne_eq, Int.not_lt, Int.not_le, Decidable.not_not, beq_iff_eq, bne_iff_ne] at hc0
    have hn6 : n ≤ 65536 := by simpa using hc0
    refine wp_skip ?_
    refine then_normal ?_
    refine c_seq ?_
    refine c_region ?_
    refine wl (w_call hl hh rfl trivial rfl cal12 rfl (fresh_spec) (by repeat (first | exact keeps_nil | apply keeps_cons (by repeat (first | exact find_head | apply find_tail | apply find_skip)) (by first  | rfl) | exact keeps_self | exact keeps_left | apply keeps_app | apply keeps_mv | apply keeps_skip)) trivial ?_)
    clear hl hh a w; intro vc Fc a w hR hl hh
    obtain ⟨bg, bm, bt, rfl, hF0⟩ := hR
    try simp only [List.cons_append, List.nil_append, List.append_assoc, List.append_nil] at hh
    subst hF0
    refine wl (wl_val hl rfl trivial (r_fieldV hl rfl fldT28_0 one24 rfl) ?_)
    clear hl a; intro a hl
    refine wl (wl_val hl rfl trivial (r_assign hl rfl) ?_)
    clear hl a; intro a hl
    refine w_nil ?_
    have hl2 := hl.add (t := 0) (hl.add (t := 3) (hl.nil) rfl) rfl; clear hl; have hl := hl2; clear hl2
    refine then_normal ?_
    refine c_seq ?_
    refine c_seq ?_
    refine c_region ?_
    refine wl (wl_val hl rfl trivial (r_move hl rfl) ?_)
    clear hl a; intro a hl
    refine wl (wl_val hl rfl trivial (r_lenS hl rfl slc22) ?_)
    clear hl a; intro a hl
    refine wl (wl_val hl rfl trivial (r_move hl rfl) ?_)
    clear hl a; intro a hl
    refine w_nil ?_
    have hl2 := hl.add (t := 3) (hl.add (t := 17) (hl.add (t := 18) (hl.add (t := 19) (hl.nil) rfl) rfl) rfl) rfl; clear hl; have hl := hl2; clear hl2
    refine then_normal ?_
    refine wp_block ?_
    obtain ⟨KS0, hKS0, hk⟩ := (hl.add (t := 3) (hl.add (t := 17) (hl.add (t := 18) (hl.nil) rfl) rfl) rfl).name
    obtain ⟨HS0, hHS0, hh2⟩ := hh.nameT (A := []) (U := (sysL bg (M00 bm bt))) ((by repeat (first | exact keeps_nil | exact keeps_self | exact keeps_left | apply keeps_app | apply keeps_mv | apply keeps_skip)))
    refine c_loop (α := L5Z) (fun z => ops.length - z.i) (fun z a w => (z.i ≤ ops.length ∧ SysF z.g z.M ∧ GI (40 * z.i) (400 * z.i) z.g) ∧ Sl 147 ([(19, .int .i64 (z.i : Int))] ++ KS0) a ∧ Has _ w0 ([] ++ (HS0 ++ (sysL bg z.M))) w) ⟨g00, M00 bm bt, 0⟩ ⟨⟨Nat.zero_le _, sys00 bm bt, by simpa using GI00⟩, hl.addE (t := 19) (hk) rfl (by first | rfl), hh2⟩ ?_
    clear hk hh2 hl hh a w
    intro z a w hI
    obtain ⟨⟨hzi, hS, hG⟩, hl, hh⟩ := hI
    subst hKS0; subst hHS0
    simp only [List.cons_append, List.nil_append, List.append_nil, List.append_assoc] at hl hh
    refine c_seq ?_
    refine c_region ?_
    refine wl (wl_val hl rfl trivial (r_lss hl rfl rfl) ?_)
    clear hl a; intro a hl
    refine w_nil ?_
    have hl2 := hl.add (t := 3) (hl.add (t := 17) (hl.add (t := 18) (hl.add (t := 19) (hl.add (t := 20) (hl.nil) rfl) rfl) rfl) rfl) rfl; clear hl; have hl := hl2; clear hl2
    refine then_normal ?_
    refine c_seq ?_
    refine c_cond hl rfl ?_ ?_
    · intro hc1
      try simp only [decide_eq_true_eq, decide_eq_false_iff_not, Bool.not_eq_true', Bool.not_eq_false', Bool.not_eq_true, Bool.not_eq_false, Bool.and_eq_true, Bool.or_eq_true, Bool.and_eq_false_iff, Bool.or_eq_false_iff, Bool.not_not, ne_eq, Int.not_lt, Int.not_le, Decidable.not_not, beq_iff_eq, bne_iff_ne] at hc1
      obtain ⟨so, hso, hat⟩ := h.at_ (by omega)
      subst hso
      obtain ⟨o, hoi⟩ : ∃ o, ops[z.i]? = some o := ⟨_, List.getElem?_eq_getElem (by omega)⟩
      have hopv := hat _ o hoi
      have hok := h.ok o (List.mem_of_getElem? hoi)
      have hin := hpre.1 (by omega)
      have hoa := hok.a; have hob := hok.b; have hoc := hok.c; have hokk := hok.k
      have hzn : z.i < n := by omega
      refine wp_skip ?_
      refine then_normal ?_
      refine c_seq ?_
      refine wp_block ?_
      refine c_seq ?_
      refine c_region ?_
      refine wl (wl_val hl rfl trivial (r_indexS hl rfl rfl slc22 (by omega) (by omega) (by first | (simp only [Int.reduceToNat]; rfl) | exact toNat_add1 _ | exact toNat_add2 _ _ | exact toNat_emod _ _ | exact Int.toNat_natCast _ | rfl)) ?_)
      clear hl a; intro a hl
      first | refine wl (w_loadA hl hh rfl trivial agg32 rfl (by repeat (first | exact find_head | apply find_tail | apply find_skip)) (by first | rfl | (simp only [List.getElem?_cons_zero, List.getElem?_cons_succ, Value.cells, List.take_zero, List.take_succ_cons, List.take_nil, List.drop_zero, List.drop_succ_cons, List.drop_nil, List.length_cons, List.length_nil, List.cons_append, List.nil_append, List.append_nil, Nat.zero_add, Nat.add_zero, Nat.reduceAdd, Nat.reduceBEq, Nat.reduceEqDiff, Nat.ble, BEq.rfl, Bool.and_true, Bool.and_self, cond_true, beq_self_eq_true]; rfl)) (by first | rfl | (simp; done)) ?_) | refine wl (w_loadRA hl hh rfl trivial agg32 rfl hin (by simp) hopv rfl ?_)
      clear hl a; intro a hl
      refine wl (w_alloc hl hh rfl trivial zero32 rfl ?_)
      clear hl hh a w; intro k5 a w hl hh
      refine wl (w_storeA hl hh trivial agg32 rfl rfl (by repeat (first | exact find_head | apply find_tail | apply find_skip)) (by first | rfl | (simp; done) | rfl) (by first | (simp; done) | (simp; omega)) (by first | rfl | (simp; done) | rfl) (by first | (simp only [setL, List.getElem?_cons_zero, List.getElem?_cons_succ, Value.cells, List.take_zero, List.take_succ_cons, List.take_nil, List.drop_zero, List.drop_succ_cons, List.drop_nil, List.length_cons, List.length_nil, List.cons_append, List.nil_append, List.append_nil, Nat.zero_add, Nat.add_zero, Nat.reduceAdd, Nat.reduceBEq, Nat.reduceEqDiff, Nat.ble, BEq.rfl, Bool.and_true, Bool.and_self, cond_true, beq_self_eq_true]; rfl)) ?_)
      clear hh w; intro w hh
      refine w_nil ?_
      have hl2 := hl.add (t := 3) (hl.add (t := 5) (hl.add (t := 17) (hl.add (t := 18) (hl.add (t := 19) (hl.nil) rfl) rfl) rfl) rfl) rfl; clear hl; have hl := hl2; clear hl2
      refine then_normal ?_
      refine c_seq ?_
      refine c_region ?_
      refine wl (wl_val hl rfl trivial (r_move hl rfl) ?_)
      clear hl a; intro a hl
      first | refine wl (w_loadA hl hh rfl trivial agg32 rfl (by repeat (first | exact find_head | apply find_tail | apply find_skip)) (by first | rfl | (simp only [List.getElem?_cons_zero, List.getElem?_cons_succ, Value.cells, List.take_zero, List.take_succ_cons, List.take_nil, List.drop_zero, List.drop_succ_cons, List.drop_nil, List.length_cons, List.length_nil, List.cons_append, List.nil_append, List.append_nil, Nat.zero_add, Nat.add_zero, Nat.reduceAdd, Nat.reduceBEq, Nat.reduceEqDiff, Nat.ble, BEq.rfl, Bool.and_true, Bool.and_self, cond_true, beq_self_eq_true]; rfl)) (by first | rfl | (simp; done)) ?_) | refine wl (w_loadRA hl hh rfl trivial agg32 rfl hin (by simp) hopv rfl ?_)
      clear hl a; intro a hl
      refine wl (w_call hl hh rfl trivial rfl cal13 rfl (step_spec hS bg tT tf (40 * z.i) (400 * z.i) ⟨by omega, by omega⟩ (by omega) (by omega) hG o.k o.a o.b o.c hoa) (by repeat (first | exact keeps_nil | apply keeps_cons (by repeat (first | exact find_head | apply find_tail | apply find_skip)) (by first  | rfl) | exact keeps_self | exact keeps_left | apply keeps_app | apply keeps_mv | apply keeps_skip)) (pt_law hh hpre.2 (by repeat (first | exact keeps_nil | apply keeps_cons (by repeat (first | exact find_head | apply find_tail | apply find_skip)) (by first  | rfl) | exact keeps_self | exact keeps_left | apply keeps_app | apply keeps_mv | apply keeps_skip))) ?_)
      clear hl hh a w; intro vc Fc a w hR hl hh
      obtain ⟨rfl, M2, hF2, hS2, hG2, hbm2, hbt2⟩ := hR
      try simp only [List.cons_append, List.nil_append, List.append_assoc, List.append_nil] at hh
      subst hF2
      obtain ⟨g2, hg2⟩ : ∃ z_, z_ = (stepG z.g ⟨o.k, o.a, o.b, o.c⟩).1 := ⟨_, rfl⟩
      obtain ⟨cd, hcd⟩ : ∃ z_, z_ = (stepG z.g ⟨o.k, o.a, o.b, o.c⟩).2.1 := ⟨_, rfl⟩
      obtain ⟨wk, hwk⟩ : ∃ z_, z_ = (stepG z.g ⟨o.k, o.a, o.b, o.c⟩).2.2 := ⟨_, rfl⟩
      rw [← hg2] at hS2 hG2
      rw [← hcd, ← hwk] at hl
      have hG3 : GI (40 * ((z.i + 1 : Nat) : Int)) (400 * ((z.i + 1 : Nat) : Int)) g2 := by
        rw [show 40 * ((z.i + 1 : Nat) : Int) = 40 * (z.i : Int) + 40 by omega, show 400 * ((z.i + 1 : Nat) : Int) = 400 * (z.i : Int) + 400 by omega]; exact hG2
      refine w_nil ?_
      have hl2 := hl.add (t := 3) (hl.add (t := 5) (hl.add (t := 17) (hl.add (t := 18) (hl.add (t := 19) (hl.nil) rfl) rfl) rfl) rfl) rfl; clear hl; have hl := hl2; clear hl2
      refine then_normal ?_
      refine c_seq ?_
      refine c_region ?_
      refine wl (wl_val hl rfl trivial (r_move hl rfl) ?_)
      clear hl a; intro a hl
      refine wl (w_call hl hh rfl trivial rfl cal18 rfl (clone_spec hS2 bg (40 * ((z.i + 1 : Nat) : Int)) (400 * ((z.i + 1 : Nat) : Int)) ⟨by omega, by omega⟩ hG3) (by repeat (first | exact keeps_nil | apply keeps_cons (by repeat (first | exact find_head | apply find_tail | apply find_skip)) (by first  | rfl) | exact keeps_self | exact keeps_left | apply keeps_app | apply keeps_mv | apply keeps_skip)) (memK (E := sysL bg M2) hh (by repeat (first | exact keeps_nil | apply keeps_cons (by repeat (first | exact find_head | apply find_tail | apply find_skip)) (by first  | rfl) | exact keeps_self | exact keeps_left | apply keeps_app | apply keeps_mv | apply keeps_skip))) ?_)
      clear hl hh a w; intro vc Fc a w hR hl hh
      obtain ⟨bc, Mc, rfl, hFc, hSc⟩ := hR
      try simp only [List.cons_append, List.nil_append, List.append_assoc, List.append_nil] at hh
      subst hFc
      refine wl (wl_val hl rfl trivial (r_assign hl rfl) ?_)
      clear hl a; intro a hl
      refine w_nil ?_
      have hl2 := hl.add (t := 3) (hl.add (t := 5) (hl.add (t := 6) (hl.add (t := 17) (hl.add (t := 18) (hl.add (t := 19) (hl.nil) rfl) rfl) rfl) rfl) rfl) rfl; clear hl; have hl := hl2; clear hl2
      refine then_normal ?_
      refine c_seq ?_
      refine c_region ?_
      refine wl (wl_val hl rfl trivial (r_field hl rfl fld32_3) ?_)
      clear hl a; intro a hl
      refine wl (w_load hl hh rfl trivial one2 rfl (by repeat (first | exact find_head | apply find_tail | apply find_skip)) (by first | rfl) ?_)
      clear hl a; intro a hl
      refine wl (wl_val hl rfl trivial (r_field hl rfl fld32_2) ?_)
      clear hl a; intro a hl
      refine wl (w_load hl hh rfl trivial one2 rfl (by repeat (first | exact find_head | apply find_tail | apply find_skip)) (by first | rfl) ?_)
      clear hl a; intro a hl
      refine wl (wl_val hl rfl trivial (r_field hl rfl fld32_0) ?_)
      clear hl a; intro a hl
      refine wl (w_load hl hh rfl trivial one30 rfl (by repeat (first | exact find_head | apply find_tail | apply find_skip)) (by first | rfl) ?_)
      clear hl a; intro a hl
      first | refine wl (wl_val hl rfl trivial (r_conv hl rfl Tryd.underlying30 Tryd.underlying80 (by simp only [Fits]; omega)) ?_) | refine wl (wl_val hl rfl trivial (r_convM wm_u32 hl rfl Tryd.underlying30 Tryd.underlying80) ?_)
      clear hl a; intro a hl
      refine wl (wl_val hl rfl trivial (r_field hl rfl fld32_1) ?_)
      clear hl a; intro a hl
      refine wl (w_load hl hh rfl trivial one2 rfl (by repeat (first | exact find_head | apply find_tail | apply find_skip)) (by first | rfl) ?_)
      clear hl a; intro a hl
      first | refine wl (wl_val hl rfl trivial (r_conv hl rfl Tryd.underlying2 Tryd.underlying48 (by simp only [Fits]; omega)) ?_) | refine wl (wl_val hl rfl trivial (r_convM wm_u64 hl rfl Tryd.underlying2 Tryd.underlying48) ?_)
      clear hl a; intro a hl
      refine wl (wl_val hl rfl trivial (r_field hl rfl fld32_2) ?_)
      clear hl a; intro a hl
      refine wl (w_load hl hh rfl trivial one2 rfl (by repeat (first | exact find_head | apply find_tail | apply find_skip)) (by first | rfl) ?_)
      clear hl a; intro a hl
      first | refine wl (wl_val hl rfl trivial (r_conv hl rfl Tryd.underlying2 Tryd.underlying48 (by simp only [Fits]; omega)) ?_) | refine wl (wl_val hl rfl trivial (r_convM wm_u64 hl rfl Tryd.underlying2 Tryd.underlying48) ?_)
      clear hl a; intro a hl
      refine wl (wl_val hl rfl trivial (r_field hl rfl fld32_3) ?_)
      clear hl a; intro a hl
      refine wl (w_load hl hh rfl trivial one2 rfl (by repeat (first | exact find_head | apply find_tail | apply find_skip)) (by first | rfl) ?_)
      clear hl a; intro a hl
      first | refine wl (wl_val hl rfl trivial (r_conv hl rfl Tryd.underlying2 Tryd.underlying48 (by simp only [Fits]; omega)) ?_) | refine wl (wl_val hl rfl trivial (r_convM wm_u64 hl rfl Tryd.underlying2 Tryd.underlying48) ?_)
      clear hl a; intro a hl
      refine wl (wl_val hl rfl trivial (r_field hl rfl fld32_1) ?_)
      clear hl a; intro a hl
      refine wl (w_load hl hh rfl trivial one2 rfl (by repeat (first | exact find_head | apply find_tail | apply find_skip)) (by first | rfl) ?_)
      clear hl a; intro a hl
      refine wl (wl_val hl rfl trivial (r_shr hl rfl rfl (by omega)) ?_)
      clear hl a; intro a hl
      rw [sh10] at hl
      first | refine wl (wl_val hl rfl trivial (r_conv hl rfl Tryd.underlying2 Tryd.underlying48 (by simp only [Fits]; omega)) ?_) | refine wl (wl_val hl rfl trivial (r_convM wm_u64 hl rfl Tryd.underlying2 Tryd.underlying48) ?_)
      clear hl a; intro a hl
      refine wl (wl_val hl rfl trivial (r_build hl rfl zero81 bld81 (by simp only [fillL, setL, List.getElem?_cons_zero, List.getElem?_cons_succ, Value.cells, List.take_zero, List.take_succ_cons, List.take_nil, List.drop_zero, List.drop_succ_cons, List.drop_nil, List.length_cons, List.length_nil, List.cons_append, List.nil_append, List.append_nil, Nat.zero_add, Nat.add_zero, Nat.reduceAdd, Nat.reduceBEq, Nat.reduceEqDiff, Nat.ble, BEq.rfl, Bool.and_true, Bool.and_self, cond_true, beq_self_eq_true]; rfl)) ?_)
      clear hl a; intro a hl
      refine wl (wl_val hl rfl trivial (r_build hl rfl zero83 bld83 (by simp only [fillL, setL, List.getElem?_cons_zero, List.getElem?_cons_succ, Value.cells, List.take_zero, List.take_succ_cons, List.take_nil, List.drop_zero, List.drop_succ_cons, List.drop_nil, List.length_cons, List.length_nil, List.cons_append, List.nil_append, List.append_nil, Nat.zero_add, Nat.add_zero, Nat.reduceAdd, Nat.reduceBEq, Nat.reduceEqDiff, Nat.ble, BEq.rfl, Bool.and_true, Bool.and_self, cond_true, beq_self_eq_true]; rfl)) ?_)
      clear hl a; intro a hl
      refine wl (w_alloc hl hh rfl trivial zero83 rfl ?_)
      clear hl hh a w; intro k7 a w hl hh
      refine wl (w_storeA hl hh trivial agg83 rfl rfl (by repeat (first | exact find_head | apply find_tail | apply find_skip)) (by first | rfl | (simp; done) | rfl) (by first | (simp; done) | (simp; omega)) (by first | rfl | (simp; done) | rfl) (by first | (simp only [setL, List.getElem?_cons_zero, List.getElem?_cons_succ, Value.cells, List.take_zero, List.take_succ_cons, List.take_nil, List.drop_zero, List.drop_succ_cons, List.drop_nil, List.length_cons, List.length_nil, List.cons_append, List.nil_append, List.append_nil, Nat.zero_add, Nat.add_zero, Nat.reduceAdd, Nat.reduceBEq, Nat.reduceEqDiff, Nat.ble, BEq.rfl, Bool.and_true, Bool.and_self, cond_true, beq_self_eq_true]; rfl)) ?_)
      clear hh w; intro w hh
      refine w_nil ?_
      have hl2 := hl.add (t := 3) (hl.add (t := 5) (hl.add (t := 6) (hl.add (t := 7) (hl.add (t := 17) (hl.add (t := 18) (hl.add (t := 19) (hl.nil) rfl) rfl) rfl) rfl) rfl) rfl) rfl; clear hl; have hl := hl2; clear hl2
      refine then_normal ?_
      refine c_seq ?_
      refine c_region ?_
      refine wl (wl_val hl rfl trivial (r_move hl rfl) ?_)
      clear hl a; intro a hl
      first | refine wl (w_loadA hl hh rfl trivial agg83 rfl (by repeat (first | exact find_head | apply find_tail | apply find_skip)) (by first | rfl | (simp only [List.getElem?_cons_zero, List.getElem?_cons_succ, Value.cells, List.take_zero, List.take_succ_cons, List.take_nil, List.drop_zero, List.drop_succ_cons, List.drop_nil, List.length_cons, List.length_nil, List.cons_append, List.nil_append, List.append_nil, Nat.zero_add, Nat.add_zero, Nat.reduceAdd, Nat.reduceBEq, Nat.reduceEqDiff, Nat.ble, BEq.rfl, Bool.and_true, Bool.and_self, cond_true, beq_self_eq_true]; rfl)) (by first | rfl | (simp; done)) ?_) | refine wl (w_loadRA hl hh rfl trivial agg83 rfl hin (by simp) hopv rfl ?_)
      clear hl a; intro a hl
      refine wl (w_call hl hh rfl trivial rfl cal33 rfl (handle_spec hSc bc tT tf (40 * ((z.i + 1 : Nat) : Int)) (400 * ((z.i + 1 : Nat) : Int) + 4) ⟨by omega, by omega⟩ (by omega) (by omega) (hG3.mono (Int.le_refl _) (by omega)) (m10 o) (rm10 hok) (fun u hu => by have := em10 hok hu; omega)) (by repeat (first | exact keeps_nil | apply keeps_cons (by repeat (first | exact find_head | apply find_tail | apply find_skip)) (by first  | rfl) | exact keeps_self | exact keeps_left | apply keeps_app | apply keeps_mv | apply keeps_skip)) (pt_law hh hpre.2 (by repeat (first | exact keeps_nil | apply keeps_cons (by repeat (first | exact find_head | apply find_tail | apply find_skip)) (by first  | rfl) | exact keeps_self | exact keeps_left | apply keeps_app | apply keeps_mv | apply keeps_skip))) ?_)
      clear hl hh a w; intro vc Fc a w hR hl hh
      obtain ⟨rfl, M9, hF9, hS9, hG9, hbm9, hbt9⟩ := hR
      try simp only [List.cons_append, List.nil_append, List.append_assoc, List.append_nil] at hh
      subst hF9
      obtain ⟨g9, hg9⟩ : ∃ z_, z_ = (hdlG g2 (m10 o)).1 := ⟨_, rfl⟩
      obtain ⟨cd9, hcd9⟩ : ∃ z_, z_ = (hdlG g2 (m10 o)).2 := ⟨_, rfl⟩
      obtain ⟨sd9, hsd9⟩ : ∃ z_, z_ = (decP (m10 o)).isSome := ⟨_, rfl⟩
      have hT9 : sd9 = true → cd9 = 0 := fun h => by rw [hcd9]; exact hdl10T (hsd9 ▸ h)
      have hF9 : sd9 = false → g9 = g2 ∧ cd9 = 13 := fun h => by rw [hcd9, hg9, hdl10F (hsd9 ▸ h)]; exact ⟨rfl, rfl⟩
      rw [← hg9] at hS9 hG9
      rw [← hcd9] at hl
      refine wl (wl_val hl rfl trivial (r_assign hl rfl) ?_)
      clear hl a; intro a hl
      refine w_nil ?_
      have hl2 := hl.add (t := 3) (hl.add (t := 5) (hl.add (t := 6) (hl.add (t := 7) (hl.add (t := 8) (hl.add (t := 17) (hl.add (t := 18) (hl.add (t := 19) (hl.nil) rfl) rfl) rfl) rfl) rfl) rfl) rfl) rfl; clear hl; have hl := hl2; clear hl2
      refine then_normal ?_
      refine c_seq ?_
      refine c_region ?_
      refine wl (wl_val hl rfl trivial (r_field hl rfl fld32_2) ?_)
      clear hl a; intro a hl
      refine wl (w_load hl hh rfl trivial one2 rfl (by repeat (first | exact find_head | apply find_tail | apply find_skip)) (by first | rfl) ?_)
      clear hl a; intro a hl
      refine wl (wl_val hl rfl trivial (r_geq hl rfl rfl) ?_)
      clear hl a; intro a hl
      refine wl (wl_val hl rfl trivial (r_move hl rfl) ?_)
      clear hl a; intro a hl
      refine sl_split (t := 56) hl rfl ?_ ?_
      · intro hg1; clear hl; intro hl
        try simp only [decide_eq_true_eq, decide_eq_false_iff_not, Bool.not_eq_true', Bool.not_eq_false', Bool.not_eq_true, Bool.not_eq_false, Bool.and_eq_true, Bool.or_eq_true, Bool.and_eq_false_iff, Bool.or_eq_false_iff, Bool.not_not, ne_eq, Int.not_lt, Int.not_le, Decidable.not_not, beq_iff_eq, bne_iff_ne] at hg1
        refine wl (wl_val hl rfl ⟨_, _, rfl, rfl, rfl⟩ (r_field hl rfl fld32_2) ?_)
        clear hl a; intro a hl
        refine wl (w_load hl hh rfl ⟨_, _, rfl, rfl, rfl⟩ one2 rfl (by repeat (first | exact find_head | apply find_tail | apply find_skip)) (by first | rfl) ?_)
        clear hl a; intro a hl
        refine wl (wl_val hl rfl ⟨_, _, rfl, rfl, rfl⟩ (r_lss hl rfl rfl) ?_)
        clear hl a; intro a hl
        refine wl (wl_val hl rfl trivial (r_pickT hl rfl rfl) ?_)
        clear hl a; intro a hl
        refine wl (wl_val hl rfl trivial (r_move hl rfl) ?_)
        clear hl a; intro a hl
        refine sl_split (t := 61) hl rfl ?_ ?_
        · intro hg2; clear hl; intro hl
          try simp only [decide_eq_true_eq, decide_eq_false_iff_not, Bool.not_eq_true', Bool.not_eq_false', Bool.not_eq_true, Bool.not_eq_false, Bool.and_eq_true, Bool.or_eq_true, Bool.and_eq_false_iff, Bool.or_eq_false_iff, Bool.not_not, ne_eq, Int.not_lt, Int.not_le, Decidable.not_not, beq_iff_eq, bne_iff_ne] at hg2
          refine wl (wl_val hl rfl ⟨_, _, rfl, rfl, rfl⟩ (r_field hl rfl fld32_1) ?_)
          clear hl a; intro a hl
          refine wl (w_load hl hh rfl ⟨_, _, rfl, rfl, rfl⟩ one2 rfl (by repeat (first | exact find_head | apply find_tail | apply find_skip)) (by first | rfl) ?_)
          clear hl a; intro a hl
          refine wl (wl_val hl rfl ⟨_, _, rfl, rfl, rfl⟩ (r_geq hl rfl rfl) ?_)
          clear hl a; intro a hl
          refine wl (wl_val hl rfl trivial (r_pickT hl rfl rfl) ?_)
          clear hl a; intro a hl
          refine wl (wl_val hl rfl trivial (r_move hl rfl) ?_)
          clear hl a; intro a hl
          refine sl_split (t := 66) hl rfl ?_ ?_
          · intro hg3; clear hl; intro hl
            try simp only [decide_eq_true_eq, decide_eq_false_iff_not, Bool.not_eq_true', Bool.not_eq_false', Bool.not_eq_true, Bool.not_eq_false, Bool.and_eq_true, Bool.or_eq_true, Bool.and_eq_false_iff, Bool.or_eq_false_iff, Bool.not_not, ne_eq, Int.not_lt, Int.not_le, Decidable.not_not, beq_iff_eq, bne_iff_ne] at hg3
            refine wl (wl_val hl rfl ⟨_, _, rfl, rfl, rfl⟩ (r_field hl rfl fld32_1) ?_)
            clear hl a; intro a hl
            refine wl (w_load hl hh rfl ⟨_, _, rfl, rfl, rfl⟩ one2 rfl (by repeat (first | exact find_head | apply find_tail | apply find_skip)) (by first | rfl) ?_)
            clear hl a; intro a hl
            refine wl (wl_val hl rfl ⟨_, _, rfl, rfl, rfl⟩ (r_lss hl rfl rfl) ?_)
            clear hl a; intro a hl
            refine wl (wl_val hl rfl trivial (r_pickT hl rfl rfl) ?_)
            clear hl a; intro a hl
            refine wl (wl_val hl rfl trivial (r_move hl rfl) ?_)
            clear hl a; intro a hl
            refine sl_split (t := 71) hl rfl ?_ ?_
            · intro hg4; clear hl; intro hl
              try simp only [decide_eq_true_eq, decide_eq_false_iff_not, Bool.not_eq_true', Bool.not_eq_false', Bool.not_eq_true, Bool.not_eq_false, Bool.and_eq_true, Bool.or_eq_true, Bool.and_eq_false_iff, Bool.or_eq_false_iff, Bool.not_not, ne_eq, Int.not_lt, Int.not_le, Decidable.not_not, beq_iff_eq, bne_iff_ne] at hg4
              refine wl (wl_val hl rfl ⟨_, _, rfl, rfl, rfl⟩ (r_field hl rfl fld32_1) ?_)
              clear hl a; intro a hl
              refine wl (w_load hl hh rfl ⟨_, _, rfl, rfl, rfl⟩ one2 rfl (by repeat (first | exact find_head | apply find_tail | apply find_skip)) (by first | rfl) ?_)
              clear hl a; intro a hl
              first | refine wl (wl_val hl rfl ⟨_, _, rfl, rfl, rfl⟩ (r_rem hl rfl rfl (by omega) (by omega)) ?_) | refine wl (wl_val hl rfl ⟨_, _, rfl, rfl, rfl⟩ (r_remT hl rfl rfl (by omega)) ?_)
              clear hl a; intro a hl
              refine wl (wl_val hl rfl ⟨_, _, rfl, rfl, rfl⟩ (r_field hl rfl fld32_2) ?_)
              clear hl a; intro a hl
              refine wl (w_load hl hh rfl ⟨_, _, rfl, rfl, rfl⟩ one2 rfl (by repeat (first | exact find_head | apply find_tail | apply find_skip)) (by first | rfl) ?_)
              clear hl a; intro a hl
              refine wl (wl_val hl rfl ⟨_, _, rfl, rfl, rfl⟩ (r_eql hl rfl rfl) ?_)
              clear hl a; intro a hl
              refine wl (wl_val hl rfl trivial (r_pickT hl rfl rfl) ?_)
              clear hl a; intro a hl
              refine wl (wl_val hl rfl trivial (r_move hl rfl) ?_)
              clear hl a; intro a hl
              refine sl_split (t := 79) hl rfl ?_ ?_
              · intro hg5; clear hl; intro hl
                try simp only [decide_eq_true_eq, decide_eq_false_iff_not, Bool.not_eq_true', Bool.not_eq_false', Bool.not_eq_true, Bool.not_eq_false, Bool.and_eq_true, Bool.or_eq_true, Bool.and_eq_false_iff, Bool.or_eq_false_iff, Bool.not_not, ne_eq, Int.not_lt, Int.not_le, Decidable.not_not, beq_iff_eq, bne_iff_ne] at hg5
                refine wl (wl_val hl rfl ⟨_, _, rfl, rfl, rfl⟩ (r_field hl rfl fld32_3) ?_)
                clear hl a; intro a hl
                refine wl (w_load hl hh rfl ⟨_, _, rfl, rfl, rfl⟩ one2 rfl (by repeat (first | exact find_head | apply find_tail | apply find_skip)) (by first | rfl) ?_)
                clear hl a; intro a hl
                refine wl (wl_val hl rfl ⟨_, _, rfl, rfl, rfl⟩ (r_geq hl rfl rfl) ?_)
                clear hl a; intro a hl
                refine wl (wl_val hl rfl trivial (r_pickT hl rfl rfl) ?_)
                clear hl a; intro a hl
                refine wl (wl_val hl rfl trivial (r_move hl rfl) ?_)
                clear hl a; intro a hl
                refine sl_split (t := 84) hl rfl ?_ ?_
                · intro hg6; clear hl; intro hl
                  try simp only [decide_eq_true_eq, decide_eq_false_iff_not, Bool.not_eq_true', Bool.not_eq_false', Bool.not_eq_true, Bool.not_eq_false, Bool.and_eq_true, Bool.or_eq_true, Bool.and_eq_false_iff, Bool.or_eq_false_iff, Bool.not_not, ne_eq, Int.not_lt, Int.not_le, Decidable.not_not, beq_iff_eq, bne_iff_ne] at hg6
                  refine wl (wl_val hl rfl ⟨_, _, rfl, rfl, rfl⟩ (r_field hl rfl fld32_3) ?_)
                  clear hl a; intro a hl
                  refine wl (w_load hl hh rfl ⟨_, _, rfl, rfl, rfl⟩ one2 rfl (by repeat (first | exact find_head | apply find_tail | apply find_skip)) (by first | rfl) ?_)
                  clear hl a; intro a hl
                  refine wl (wl_val hl rfl ⟨_, _, rfl, rfl, rfl⟩ (r_lss hl rfl rfl) ?_)
                  clear hl a; intro a hl
                  refine wl (wl_val hl rfl trivial (r_pickT hl rfl rfl) ?_)
                  clear hl a; intro a hl
                  refine wl (wl_val hl rfl trivial (r_move hl rfl) ?_)
                  clear hl a; intro a hl
                  refine sl_split (t := 89) hl rfl ?_ ?_
                  · intro hg7; clear hl; intro hl
                    try simp only [decide_eq_true_eq, decide_eq_false_iff_not, Bool.not_eq_true', Bool.not_eq_false', Bool.not_eq_true, Bool.not_eq_false, Bool.and_eq_true, Bool.or_eq_true, Bool.and_eq_false_iff, Bool.or_eq_false_iff, Bool.not_not, ne_eq, Int.not_lt, Int.not_le, Decidable.not_not, beq_iff_eq, bne_iff_ne] at hg7
                    refine wl (wl_val hl rfl ⟨_, _, rfl, rfl, rfl⟩ (r_field hl rfl fld32_3) ?_)
                    clear hl a; intro a hl
                    refine wl (w_load hl hh rfl ⟨_, _, rfl, rfl, rfl⟩ one2 rfl (by repeat (first | exact find_head | apply find_tail | apply find_skip)) (by first | rfl) ?_)
                    clear hl a; intro a hl
                    refine wl (wl_val hl rfl ⟨_, _, rfl, rfl, rfl⟩ (r_field hl rfl fld32_1) ?_)
                    clear hl a; intro a hl
                    refine wl (w_load hl hh rfl ⟨_, _, rfl, rfl, rfl⟩ one2 rfl (by repeat (first | exact find_head | apply find_tail | apply find_skip)) (by first | rfl) ?_)
                    clear hl a; intro a hl
                    first | refine wl (wl_val hl rfl ⟨_, _, rfl, rfl, rfl⟩ (r_conv hl rfl Tryd.underlying2 Tryd.underlying92 (by simp only [Fits]; omega)) ?_) | refine wl (wl_val hl rfl ⟨_, _, rfl, rfl, rfl⟩ (r_convM wm_u64 hl rfl Tryd.underlying2 Tryd.underlying92) ?_)
                    clear hl a; intro a hl
                    refine wl (wl_val hl rfl ⟨_, _, rfl, rfl, rfl⟩ (r_shl hl rfl rfl (by omega)) ?_)
                    clear hl a; intro a hl
                    refine wl (wl_val hl rfl ⟨_, _, rfl, rfl, rfl⟩ (r_and hl rfl rfl) ?_)
                    clear hl a; intro a hl
                    refine wl (wl_val hl rfl ⟨_, _, rfl, rfl, rfl⟩ (r_eql hl rfl rfl) ?_)
                    clear hl a; intro a hl
                    refine wl (wl_val hl rfl trivial (r_pickT hl rfl rfl) ?_)
                    clear hl a; intro a hl
                    refine wl (wl_val hl rfl trivial (r_move hl rfl) ?_)
                    clear hl a; intro a hl
                    refine sl_split (t := 99) hl rfl ?_ ?_
                    · intro hg8; clear hl; intro hl
                      try simp only [decide_eq_true_eq, decide_eq_false_iff_not, Bool.not_eq_true', Bool.not_eq_false', Bool.not_eq_true, Bool.not_eq_false, Bool.and_eq_true, Bool.or_eq_true, Bool.and_eq_false_iff, Bool.or_eq_false_iff, Bool.not_not, ne_eq, Int.not_lt, Int.not_le, Decidable.not_not, beq_iff_eq, bne_iff_ne] at hg8
                      refine wl (wl_val hl rfl ⟨_, _, rfl, rfl, rfl⟩ (r_field hl rfl fld83_2) ?_)
                      clear hl a; intro a hl
                      refine wl (w_load hl hh rfl ⟨_, _, rfl, rfl, rfl⟩ one80 rfl (by repeat (first | exact find_head | apply find_tail | apply find_skip)) (by first | rfl) ?_)
                      clear hl a; intro a hl
                      refine wl (wl_val hl rfl ⟨_, _, rfl, rfl, rfl⟩ (r_eql hl rfl rfl) ?_)
                      clear hl a; intro a hl
                      refine wl (wl_val hl rfl ⟨_, _, rfl, rfl, rfl⟩ (r_move hl rfl) ?_)
                      clear hl a; intro a hl
                      refine sl_split (t := 103) hl rfl ?_ ?_
                      · intro hg9; clear hl; intro hl
                        try simp only [decide_eq_true_eq, decide_eq_false_iff_not, Bool.not_eq_true', Bool.not_eq_false', Bool.not_eq_true, Bool.not_eq_false, Bool.and_eq_true, Bool.or_eq_true, Bool.and_eq_false_iff, Bool.or_eq_false_iff, Bool.not_not, ne_eq, Int.not_lt, Int.not_le, Decidable.not_not, beq_iff_eq, bne_iff_ne] at hg9
                        refine wl (wl_val hl rfl ⟨_, _, rfl, rfl, rfl⟩ (r_field hl rfl fld32_3) ?_)
                        clear hl a; intro a hl
                        refine wl (w_load hl hh rfl ⟨_, _, rfl, rfl, rfl⟩ one2 rfl (by repeat (first | exact find_head | apply find_tail | apply find_skip)) (by first | rfl) ?_)
                        clear hl a; intro a hl
                        refine wl (wl_val hl rfl ⟨_, _, rfl, rfl, rfl⟩ (r_eql hl rfl rfl) ?_)
                        clear hl a; intro a hl
                        refine wl (wl_val hl rfl ⟨_, _, rfl, rfl, rfl⟩ (r_pickT hl rfl rfl) ?_)
                        clear hl a; intro a hl
                        refine wl (wl_val hl rfl ⟨_, _, rfl, rfl, rfl⟩ (r_move hl rfl) ?_)
                        clear hl a; intro a hl
                        refine sl_split (t := 108) hl rfl ?_ ?_
                        · intro hg10; clear hl; intro hl
                          try simp only [decide_eq_true_eq, decide_eq_false_iff_not, Bool.not_eq_true', Bool.not_eq_false', Bool.not_eq_true, Bool.not_eq_false, Bool.and_eq_true, Bool.or_eq_true, Bool.and_eq_false_iff, Bool.or_eq_false_iff, Bool.not_not, ne_eq, Int.not_lt, Int.not_le, Decidable.not_not, beq_iff_eq, bne_iff_ne] at hg10
                          refine wl (wl_skip hl rfl ⟨_, _, rfl, rfl, rfl⟩ ?_)
                          clear hl a; intro a hl
                          refine wl (wl_skip hl rfl ⟨_, _, rfl, rfl, rfl⟩ ?_)
                          clear hl a; intro a hl
                          refine wl (wl_skip hl rfl ⟨_, _, rfl, rfl, rfl⟩ ?_)
                          clear hl a; intro a hl
                          refine wl (wl_skip hl rfl ⟨_, _, rfl, rfl, rfl⟩ ?_)
                          clear hl a; intro a hl
                          refine wl (wl_skipU hl rfl ⟨_, _, rfl, rfl, rfl⟩ ?_)
                          clear hl a; intro a hl
                          refine wl (wl_skipU hl rfl ⟨_, _, rfl, rfl, rfl⟩ ?_)
                          clear hl a; intro a hl
                          refine wl (wl_skipU hl rfl ⟨_, _, rfl, rfl, rfl⟩ ?_)
                          clear hl a; intro a hl
                          refine wl (wl_skip hl rfl ⟨_, _, rfl, rfl, rfl⟩ ?_)
                          clear hl a; intro a hl
                          refine wl (wl_skip hl rfl ⟨_, _, rfl, rfl, rfl⟩ ?_)
                          clear hl a; intro a hl
                          refine wl (wl_skipU hl rfl ⟨_, _, rfl, rfl, rfl⟩ ?_)
                          clear hl a; intro a hl
                          refine wl (wl_skipU hl rfl ⟨_, _, rfl, rfl, rfl⟩ ?_)
                          clear hl a; intro a hl
                          refine wl (wl_skipU hl rfl ⟨_, _, rfl, rfl, rfl⟩ ?_)
                          clear hl a; intro a hl
                          refine wl (wl_skip hl rfl ⟨_, _, rfl, rfl, rfl⟩ ?_)
                          clear hl a; intro a hl
                          refine wl (wl_val hl rfl ⟨_, _, rfl, rfl, rfl⟩ (r_pickT hl rfl rfl) ?_)
                          clear hl a; intro a hl
                          refine wl (wl_val hl rfl trivial (r_pickT hl rfl rfl) ?_)
                          clear hl a; intro a hl
                          refine wl (wl_val hl rfl trivial (r_assign hl rfl) ?_)
                          clear hl a; intro a hl
                          refine w_nil ?_
                          have hl2 := hl.add (t := 3) (hl.add (t := 6) (hl.add (t := 8) (hl.add (t := 9) (hl.add (t := 17) (hl.add (t := 18) (hl.add (t := 19) (hl.nil) rfl) rfl) rfl) rfl) rfl) rfl) rfl; clear hl; have hl := hl2; clear hl2
                          have hl9 := hl.addE (t := 9) hl rfl (congrArg Value.bool (dec10b hok (by unfold S10; first | (simp only [true_iff, Bool.false_eq_true, false_iff]; omega) | (rw [decide_eq_true_eq]; omega))))
                          rw [← hsd9] at hl9
                          clear hl
                          have hl := hl9
                          clear hl9
                          try clear hg1; try clear hg2
                          refine then_normal ?_
                          refine c_seq ?_
                          refine c_seq ?_
                          refine c_region ?_
                          refine wl (wl_val hl rfl trivial (r_move hl rfl) ?_)
                          clear hl a; intro a hl
                          refine wl (wl_val hl rfl trivial (r_move hl rfl) ?_)
                          clear hl a; intro a hl
                          refine wl (wl_val hl rfl trivial (r_eql hl rfl rfl) ?_)
                          clear hl a; intro a hl
                          refine wl (wl_val hl rfl trivial (r_neq_bool hl rfl rfl Tryd.underlying4) ?_)
                          clear hl a; intro a hl
                          refine wl (wl_val hl rfl trivial (r_move hl rfl) ?_)
                          clear hl a; intro a hl
                          refine sl_split (t := 128) hl rfl ?_ ?_
                          · intro hg11; clear hl; intro hl
                            try simp only [decide_eq_true_eq, decide_eq_false_iff_not, Bool.not_eq_true', Bool.not_eq_false', Bool.not_eq_true, Bool.not_eq_false, Bool.and_eq_true, Bool.or_eq_true, Bool.and_eq_false_iff, Bool.or_eq_false_iff, Bool.not_not, ne_eq, Int.not_lt, Int.not_le, Decidable.not_not, beq_iff_eq, bne_iff_ne] at hg11
                            exfalso; first | contradiction | exact abs10a (by assumption) hT9 (fun h => (hF9 h).2) | exact absurd (hF9 (by simpa using by assumption)).2 (by assumption)
                          · intro hg11; clear hl; intro hl
                            try simp only [decide_eq_true_eq, decide_eq_false_iff_not, Bool.not_eq_true', Bool.not_eq_false', Bool.not_eq_true, Bool.not_eq_false, Bool.and_eq_true, Bool.or_eq_true, Bool.and_eq_false_iff, Bool.or_eq_false_iff, Bool.not_not, ne_eq, Int.not_lt, Int.not_le, Decidable.not_not, beq_iff_eq, bne_iff_ne] at hg11
                            refine wl (wl_val hl rfl ⟨_, _, rfl, rfl, rfl⟩ (r_move hl rfl) ?_)
                            clear hl a; intro a hl
                            refine wl (wl_val hl rfl ⟨_, _, rfl, rfl, rfl⟩ (r_not hl rfl) ?_)
                            clear hl a; intro a hl
                            refine wl (wl_val hl rfl ⟨_, _, rfl, rfl, rfl⟩ (r_move hl rfl) ?_)
                            clear hl a; intro a hl
                            refine sl_split (t := 131) hl rfl ?_ ?_
                            · intro hg12; clear hl; intro hl
                              try simp only [decide_eq_true_eq, decide_eq_false_iff_not, Bool.not_eq_true', Bool.not_eq_false', Bool.not_eq_true, Bool.not_eq_false, Bool.and_eq_true, Bool.or_eq_true, Bool.and_eq_false_iff, Bool.or_eq_false_iff, Bool.not_not, ne_eq, Int.not_lt, Int.not_le, Decidable.not_not, beq_iff_eq, bne_iff_ne] at hg12
                              refine wl (wl_val hl rfl ⟨_, _, rfl, rfl, rfl⟩ (r_move hl rfl) ?_)
                              clear hl a; intro a hl
                              refine wl (wl_val hl rfl ⟨_, _, rfl, rfl, rfl⟩ (r_neq hl rfl rfl) ?_)
                              clear hl a; intro a hl
                              refine wl (wl_val hl rfl ⟨_, _, rfl, rfl, rfl⟩ (r_pickT hl rfl rfl) ?_)
                              clear hl a; intro a hl
                              refine wl (wl_val hl rfl trivial (r_pickF hl rfl rfl) ?_)
                              clear hl a; intro a hl
                              refine w_nil ?_
                              have hl2 := hl.add (t := 3) (hl.add (t := 6) (hl.add (t := 9) (hl.add (t := 17) (hl.add (t := 18) (hl.add (t := 19) (hl.add (t := 135) (hl.nil) rfl) rfl) rfl) rfl) rfl) rfl) rfl; clear hl; have hl := hl2; clear hl2
                              refine then_normal ?_
                              refine c_cond hl rfl ?_ ?_
                              · intro hc2
                                try simp only [decide_eq_true_eq, decide_eq_false_iff_not, Bool.not_eq_true', Bool.not_eq_false', Bool.not_eq_true, Bool.not_eq_false, Bool.and_eq_true, Bool.or_eq_true, Bool.and_eq_false_iff, Bool.or_eq_false_iff, Bool.not_not, ne_eq, Int.not_lt, Int.not_le, Decidable.not_not, beq_iff_eq, bne_iff_ne] at hc2
                                exfalso; first | contradiction | exact abs10a (by assumption) hT9 (fun h => (hF9 h).2) | exact absurd (hF9 (by simpa using by assumption)).2 (by assumption)
                              · intro hc2
                                try simp only [decide_eq_true_eq, decide_eq_false_iff_not, Bool.not_eq_true', Bool.not_eq_false', Bool.not_eq_true, Bool.not_eq_false, Bool.and_eq_true, Bool.or_eq_true, Bool.and_eq_false_iff, Bool.or_eq_false_iff, Bool.not_not, ne_eq, Int.not_lt, Int.not_le, Decidable.not_not, beq_iff_eq, bne_iff_ne] at hc2
                                refine wp_skip ?_
                                refine then_normal ?_
                                refine c_seq ?_
                                refine c_region ?_
                                refine wl (wl_val hl rfl trivial (r_move hl rfl) ?_)
                                clear hl a; intro a hl
                                refine wl (w_call hl hh rfl trivial rfl cal28 rfl (snap_spec hS9 bc (40 * ((z.i + 1 : Nat) : Int) + 1) (400 * ((z.i + 1 : Nat) : Int) + 4) ⟨by omega, by omega⟩ hG9) (by repeat (first | exact keeps_nil | apply keeps_cons (by repeat (first | exact find_head | apply find_tail | apply find_skip)) (by first  | rfl) | exact keeps_self | exact keeps_left | apply keeps_app | apply keeps_mv | apply keeps_skip)) (memK (E := sysL bc M9) hh (by repeat (first | exact keeps_nil | apply keeps_cons (by repeat (first | exact find_head | apply find_tail | apply find_skip)) (by first  | rfl) | exact keeps_self | exact keeps_left | apply keeps_app | apply keeps_mv | apply keeps_skip))) ?_)
                                clear hl hh a w; intro vc Fc a w hR hl hh
                                obtain ⟨ev9, bv9, Ee9, Eb9, rfl, hSn9, rfl⟩ := hR
                                try simp only [List.cons_append, List.nil_append, List.append_assoc, List.append_nil] at hh
                                refine wl (wl_val hl rfl trivial (r_move hl rfl) ?_)
                                clear hl a; intro a hl
                                refine wl (w_call hl hh rfl trivial rfl cal28 rfl (snap_spec hS2 bg (40 * ((z.i + 1 : Nat) : Int)) (400 * ((z.i + 1 : Nat) : Int)) ⟨by omega, by omega⟩ hG3) (by repeat (first | exact keeps_nil | apply keeps_cons (by repeat (first | exact find_head | apply find_tail | apply find_skip)) (by first  | rfl) | exact keeps_self | exact keeps_left | apply keeps_app | apply keeps_mv | apply keeps_skip)) (memK (E := sysL bg M2) hh (by repeat (first | exact keeps_nil | apply keeps_cons (by repeat (first | exact find_head | apply find_tail | apply find_skip)) (by first  | rfl) | exact keeps_self | exact keeps_left | apply keeps_app | apply keeps_mv | apply keeps_skip))) ?_)
                                clear hl hh a w; intro vc Fc a w hR hl hh
                                obtain ⟨ev2, bv2, Ee2, Eb2, rfl, hSn2, rfl⟩ := hR
                                try simp only [List.cons_append, List.nil_append, List.append_assoc, List.append_nil] at hh
                                refine wl (w_alloc hl hh rfl trivial zero75 rfl ?_)
                                clear hl hh a w; intro k10 a w hl hh
                                refine wl (w_alloc hl hh rfl trivial zero75 rfl ?_)
                                clear hl hh a w; intro k11 a w hl hh
                                refine wl (w_storeA hl hh trivial agg75 rfl rfl (by repeat (first | exact find_head | apply find_tail | apply find_skip)) (by exact snC_len _ _ _) (by first | exact Nat.le_of_eq (arrL_length _ _).symm | (rw [snC_len]; exact Nat.le_refl _)) (by first | exact snC_one hSn9 | exact snC_one hSn2) (by exact setL_whole (by first | rw [snC_len, arrL_length] | rw [snC_len, snC_len])) ?_)
                                clear hh w; intro w hh
                                refine wl (w_storeA hl hh trivial agg75 rfl rfl (by repeat (first | exact find_head | apply find_tail | apply find_skip)) (by exact snC_len _ _ _) (by first | exact Nat.le_of_eq (arrL_length _ _).symm | (rw [snC_len]; exact Nat.le_refl _)) (by first | exact snC_one hSn9 | exact snC_one hSn2) (by exact setL_whole (by first | rw [snC_len, arrL_length] | rw [snC_len, snC_len])) ?_)
                                clear hh w; intro w hh
                                refine w_nil ?_
                                have hl2 := hl.add (t := 3) (hl.add (t := 9) (hl.add (t := 10) (hl.add (t := 11) (hl.add (t := 17) (hl.add (t := 18) (hl.add (t := 19) (hl.nil) rfl) rfl) rfl) rfl) rfl) rfl) rfl; clear hl; have hl := hl2; clear hl2
                                refine then_normal ?_
                                refine c_seq ?_
                                refine c_region ?_
                                refine wl (wl_val hl rfl trivial (r_move hl rfl) ?_)
                                clear hl a; intro a hl
                                refine wl (wl_val hl rfl trivial (r_not hl rfl) ?_)
                                clear hl a; intro a hl
                                refine wl (wl_val hl rfl trivial (r_move hl rfl) ?_)
                                clear hl a; intro a hl
                                refine sl_split (t := 142) hl rfl ?_ ?_
                                · intro hg13; clear hl; intro hl
                                  try simp only [decide_eq_true_eq, decide_eq_false_iff_not, Bool.not_eq_true', Bool.not_eq_false', Bool.not_eq_true, Bool.not_eq_false, Bool.and_eq_true, Bool.or_eq_true, Bool.and_eq_false_iff, Bool.or_eq_false_iff, Bool.not_not, ne_eq, Int.not_lt, Int.not_le, Decidable.not_not, beq_iff_eq, bne_iff_ne] at hg13
                                  refine wl (w_call hl hh rfl ⟨_, _, rfl, rfl, rfl⟩ rfl cal29 rfl (eqState_spec (g := g2) (B := 40 * ((z.i + 1 : Nat) : Int)) (Q := 400 * ((z.i + 1 : Nat) : Int)) ⟨by omega, by omega⟩ hG3 k10 k11 ev9 bv9 ev2 bv2 Ee9 Eb9 Ee2 Eb2 ((hF9 (by simpa using by assumption)).1 ▸ hSn9) hSn2) (by repeat (first | exact keeps_nil | apply keeps_cons (by repeat (first | exact find_head | apply find_tail | apply find_skip)) (by first  | rfl) | exact keeps_self | exact keeps_left | apply keeps_app | apply keeps_mv | apply keeps_skip)) ⟨(hF9 (by simpa using by assumption)).1 ▸ (memK (E := snL k10 g9 ev9 bv9 Ee9 Eb9) hh (by repeat (first | exact keeps_nil | apply keeps_cons (by repeat (first | exact find_head | apply find_tail | apply find_skip)) (by first  | rfl) | exact keeps_self | exact keeps_left | apply keeps_app | apply keeps_mv | apply keeps_skip))), memK (E := snL k11 g2 ev2 bv2 Ee2 Eb2) hh (by repeat (first | exact keeps_nil | apply keeps_cons (by repeat (first | exact find_head | apply find_tail | apply find_skip)) (by first  | rfl) | exact keeps_self | exact keeps_left | apply keeps_app | apply keeps_mv | apply keeps_skip))⟩ ?_)
                                  clear hl hh a w; intro vc Fc a w hR hl hh
                                  obtain ⟨rfl, rfl⟩ := hR
                                  try simp only [List.cons_append, List.nil_append, List.append_assoc, List.append_nil] at hh
                                  refine wl (wl_val hl rfl ⟨_, _, rfl, rfl, rfl⟩ (r_not hl rfl) ?_)
                                  clear hl a; intro a hl
                                  refine wl (wl_val hl rfl trivial (r_pickT hl rfl rfl) ?_)
                                  clear hl a; intro a hl
                                  refine w_nil ?_
                                  have hl2 := hl.add (t := 3) (hl.add (t := 17) (hl.add (t := 18) (hl.add (t := 19) (hl.add (t := 145) (hl.nil) rfl) rfl) rfl) rfl) rfl; clear hl; have hl := hl2; clear hl2
                                  refine then_normal ?_
                                  refine c_cond hl rfl ?_ ?_
                                  · intro hc3
                                    try simp only [decide_eq_true_eq, decide_eq_false_iff_not, Bool.not_eq_true', Bool.not_eq_false', Bool.not_eq_true, Bool.not_eq_false, Bool.and_eq_true, Bool.or_eq_true, Bool.and_eq_false_iff, Bool.or_eq_false_iff, Bool.not_not, ne_eq, Int.not_lt, Int.not_le, Decidable.not_not, beq_iff_eq, bne_iff_ne] at hc3
                                    exfalso; first | contradiction | exact abs10a (by assumption) hT9 (fun h => (hF9 h).2) | exact absurd (hF9 (by simpa using by assumption)).2 (by assumption)
                                  · intro hc3
                                    try simp only [decide_eq_true_eq, decide_eq_false_iff_not, Bool.not_eq_true', Bool.not_eq_false', Bool.not_eq_true, Bool.not_eq_false, Bool.and_eq_true, Bool.or_eq_true, Bool.and_eq_false_iff, Bool.or_eq_false_iff, Bool.not_not, ne_eq, Int.not_lt, Int.not_le, Decidable.not_not, beq_iff_eq, bne_iff_ne] at hc3
                                    refine wp_skip ?_
                                    refine blk_normal ?_
                                    refine then_normal ?_
                                    refine c_region ?_
                                    first | refine wl (wl_val hl rfl trivial (r_add hl rfl rfl (by simp only [Fits]; omega)) ?_) | refine wl (wl_val hl rfl trivial (r_addW hl rfl rfl) ?_)
                                    clear hl a; intro a hl
                                    refine wl (wl_val hl rfl trivial (r_move hl rfl) ?_)
                                    clear hl a; intro a hl
                                    refine w_nil ?_
                                    have hl2 := hl.add (t := 3) (hl.add (t := 17) (hl.add (t := 18) (hl.add (t := 19) (hl.nil) rfl) rfl) rfl) rfl; clear hl; have hl := hl2; clear hl2
                                    refine then_normal ?_
                                    refine ⟨⟨g2, M2, z.i + 1⟩, (by simp only; omega), ⟨by simp only; omega, hS2, hG3⟩, hl.addE (t := 19) (hl.addE (t := 3) (hl.addE (t := 17) (hl.addE (t := 18) (hl.nil) rfl (by first | rfl | (congr 1; omega))) rfl (by first | rfl | (congr 1; omega))) rfl (by first | rfl | (congr 1; omega))) rfl (by first | rfl | (congr 1; omega)), hh.keep (by repeat (first | exact keeps_nil | apply keeps_cons (by repeat (first | exact find_head | apply find_tail | apply find_skip)) (by first  | rfl) | exact keeps_self | exact keeps_left | apply keeps_app | apply keeps_mv | apply keeps_skip))⟩
                                · intro hg13; clear hl; intro hl
                                  try simp only [decide_eq_true_eq, decide_eq_false_iff_not, Bool.not_eq_true', Bool.not_eq_false', Bool.not_eq_true, Bool.not_eq_false, Bool.and_eq_true, Bool.or_eq_true, Bool.and_eq_false_iff, Bool.or_eq_false_iff, Bool.not_not, ne_eq, Int.not_lt, Int.not_le, Decidable.not_not, beq_iff_eq, bne_iff_ne] at hg13
                                  refine wl (wl_skip hl rfl ⟨_, _, rfl, rfl, rfl⟩ ?_)
                                  clear hl a; intro a hl
                                  refine wl (wl_skip hl rfl ⟨_, _, rfl, rfl, rfl⟩ ?_)
                                  clear hl a; intro a hl
                                  refine wl (wl_val hl rfl trivial (r_pickF hl rfl rfl) ?_)
                                  clear hl a; intro a hl
                                  refine w_nil ?_
                                  have hl2 := hl.add (t := 3) (hl.add (t := 17) (hl.add (t := 18) (hl.add (t := 19) (hl.add (t := 145) (hl.nil) rfl) rfl) rfl) rfl) rfl; clear hl; have hl := hl2; clear hl2
                                  refine then_normal ?_
                                  refine c_condF hl rfl ?_
                                  refine wp_skip ?_
                                  refine blk_normal ?_
                                  refine then_normal ?_
                                  refine c_region ?_
                                  first | refine wl (wl_val hl rfl trivial (r_add hl rfl rfl (by simp only [Fits]; omega)) ?_) | refine wl (wl_val hl rfl trivial (r_addW hl rfl rfl) ?_)
                                  clear hl a; intro a hl
                                  refine wl (wl_val hl rfl trivial (r_move hl rfl) ?_)
                                  clear hl a; intro a hl
                                  refine w_nil ?_
                                  have hl2 := hl.add (t := 3) (hl.add (t := 17) (hl.add (t := 18) (hl.add (t := 19) (hl.nil) rfl) rfl) rfl) rfl; clear hl; have hl := hl2; clear hl2
                                  refine then_normal ?_
                                  refine ⟨⟨g2, M2, z.i + 1⟩, (by simp only; omega), ⟨by simp only; omega, hS2, hG3⟩, hl.addE (t := 19) (hl.addE (t := 3) (hl.addE (t := 17) (hl.addE (t := 18) (hl.nil) rfl (by first | rfl | (congr 1; omega))) rfl (by first | rfl | (congr 1; omega))) rfl (by first | rfl | (congr 1; omega))) rfl (by first | rfl | (congr 1; omega)), hh.keep (by repeat (first | exact keeps_nil | apply keeps_cons (by repeat (first | exact find_head | apply find_tail | apply find_skip)) (by first  | rfl) | exact keeps_self | exact keeps_left | apply keeps_app | apply keeps_mv | apply keeps_skip))⟩
                            · intro hg12; clear hl; intro hl
                              try simp only [decide_eq_true_eq, decide_eq_false_iff_not, Bool.not_eq_true', Bool.not_eq_false', Bool.not_eq_true, Bool.not_eq_false, Bool.and_eq_true, Bool.or_eq_true, Bool.and_eq_false_iff, Bool.or_eq_false_iff, Bool.not_not, ne_eq, Int.not_lt, Int.not_le, Decidable.not_not, beq_iff_eq, bne_iff_ne] at hg12
                              refine wl (wl_skip hl rfl ⟨_, _, rfl, rfl, rfl⟩ ?_)
                              clear hl a; intro a hl
                              refine wl (wl_skip hl rfl ⟨_, _, rfl, rfl, rfl⟩ ?_)
                              clear hl a; intro a hl
                              refine wl (wl_val hl rfl ⟨_, _, rfl, rfl, rfl⟩ (r_pickF hl rfl rfl) ?_)
                              clear hl a; intro a hl
                              refine wl (wl_val hl rfl trivial (r_pickF hl rfl rfl) ?_)
                              clear hl a; intro a hl
                              refine w_nil ?_
                              have hl2 := hl.add (t := 3) (hl.add (t := 6) (hl.add (t := 9) (hl.add (t := 17) (hl.add (t := 18) (hl.add (t := 19) (hl.add (t := 135) (hl.nil) rfl) rfl) rfl) rfl) rfl) rfl) rfl; clear hl; have hl := hl2; clear hl2
                              refine then_normal ?_
                              refine c_condF hl rfl ?_
                              refine wp_skip ?_
                              refine then_normal ?_
                              refine c_seq ?_
                              refine c_region ?_
                              refine wl (wl_val hl rfl trivial (r_move hl rfl) ?_)
                              clear hl a; intro a hl
                              refine wl (w_call hl hh rfl trivial rfl cal28 rfl (snap_spec hS9 bc (40 * ((z.i + 1 : Nat) : Int) + 1) (400 * ((z.i + 1 : Nat) : Int) + 4) ⟨by omega, by omega⟩ hG9) (by repeat (first | exact keeps_nil | apply keeps_cons (by repeat (first | exact find_head | apply find_tail | apply find_skip)) (by first  | rfl) | exact keeps_self | exact keeps_left | apply keeps_app | apply keeps_mv | apply keeps_skip)) (memK (E := sysL bc M9) hh (by repeat (first | exact keeps_nil | apply keeps_cons (by repeat (first | exact find_head | apply find_tail | apply find_skip)) (by first  | rfl) | exact keeps_self | exact keeps_left | apply keeps_app | apply keeps_mv | apply keeps_skip))) ?_)
                              clear hl hh a w; intro vc Fc a w hR hl hh
                              obtain ⟨ev9, bv9, Ee9, Eb9, rfl, hSn9, rfl⟩ := hR
                              try simp only [List.cons_append, List.nil_append, List.append_assoc, List.append_nil] at hh
                              refine wl (wl_val hl rfl trivial (r_move hl rfl) ?_)
                              clear hl a; intro a hl
                              refine wl (w_call hl hh rfl trivial rfl cal28 rfl (snap_spec hS2 bg (40 * ((z.i + 1 : Nat) : Int)) (400 * ((z.i + 1 : Nat) : Int)) ⟨by omega, by omega⟩ hG3) (by repeat (first | exact keeps_nil | apply keeps_cons (by repeat (first | exact find_head | apply find_tail | apply find_skip)) (by first  | rfl) | exact keeps_self | exact keeps_left | apply keeps_app | apply keeps_mv | apply keeps_skip)) (memK (E := sysL bg M2) hh (by repeat (first | exact keeps_nil | apply keeps_cons (by repeat (first | exact find_head | apply find_tail | apply find_skip)) (by first  | rfl) | exact keeps_self | exact keeps_left | apply keeps_app | apply keeps_mv | apply keeps_skip))) ?_)
                              clear hl hh a w; intro vc Fc a w hR hl hh
                              obtain ⟨ev2, bv2, Ee2, Eb2, rfl, hSn2, rfl⟩ := hR
                              try simp only [List.cons_append, List.nil_append, List.append_assoc, List.append_nil] at hh
                              refine wl (w_alloc hl hh rfl trivial zero75 rfl ?_)
                              clear hl hh a w; intro k10 a w hl hh
                              refine wl (w_alloc hl hh rfl trivial zero75 rfl ?_)
                              clear hl hh a w; intro k11 a w hl hh
                              refine wl (w_storeA hl hh trivial agg75 rfl rfl (by repeat (first | exact find_head | apply find_tail | apply find_skip)) (by exact snC_len _ _ _) (by first | exact Nat.le_of_eq (arrL_length _ _).symm | (rw [snC_len]; exact Nat.le_refl _)) (by first | exact snC_one hSn9 | exact snC_one hSn2) (by exact setL_whole (by first | rw [snC_len, arrL_length] | rw [snC_len, snC_len])) ?_)
                              clear hh w; intro w hh
                              refine wl (w_storeA hl hh trivial agg75 rfl rfl (by repeat (first | exact find_head | apply find_tail | apply find_skip)) (by exact snC_len _ _ _) (by first | exact Nat.le_of_eq (arrL_length _ _).symm | (rw [snC_len]; exact Nat.le_refl _)) (by first | exact snC_one hSn9 | exact snC_one hSn2) (by exact setL_whole (by first | rw [snC_len, arrL_length] | rw [snC_len, snC_len])) ?_)
                              clear hh w; intro w hh
                              refine w_nil ?_
                              have hl2 := hl.add (t := 3) (hl.add (t := 9) (hl.add (t := 10) (hl.add (t := 11) (hl.add (t := 17) (hl.add (t := 18) (hl.add (t := 19) (hl.nil) rfl) rfl) rfl) rfl) rfl) rfl) rfl; clear hl; have hl := hl2; clear hl2
                              refine then_normal ?_
                              refine c_seq ?_
                              refine c_region ?_
                              refine wl (wl_val hl rfl trivial (r_move hl rfl) ?_)
                              clear hl a; intro a hl
                              refine wl (wl_val hl rfl trivial (r_not hl rfl) ?_)
                              clear hl a; intro a hl
                              refine wl (wl_val hl rfl trivial (r_move hl rfl) ?_)
                              clear hl a; intro a hl
                              refine sl_split (t := 142) hl rfl ?_ ?_
                              · intro hg14; clear hl; intro hl
                                try simp only [decide_eq_true_eq, decide_eq_false_iff_not, Bool.not_eq_true', Bool.not_eq_false', Bool.not_eq_true, Bool.not_eq_false, Bool.and_eq_true, Bool.or_eq_true, Bool.and_eq_false_iff, Bool.or_eq_false_iff, Bool.not_not, ne_eq, Int.not_lt, Int.not_le, Decidable.not_not, beq_iff_eq, bne_iff_ne] at hg14
                                refine wl (w_call hl hh rfl ⟨_, _, rfl, rfl, rfl⟩ rfl cal29 rfl (eqState_spec (g := g2) (B := 40 * ((z.i + 1 : Nat) : Int)) (Q := 400 * ((z.i + 1 : Nat) : Int)) ⟨by omega, by omega⟩ hG3 k10 k11 ev9 bv9 ev2 bv2 Ee9 Eb9 Ee2 Eb2 ((hF9 (by simpa using by assumption)).1 ▸ hSn9) hSn2) (by repeat (first | exact keeps_nil | apply keeps_cons (by repeat (first | exact find_head | apply find_tail | apply find_skip)) (by first  | rfl) | exact keeps_self | exact keeps_left | apply keeps_app | apply keeps_mv | apply keeps_skip)) ⟨(hF9 (by simpa using by assumption)).1 ▸ (memK (E := snL k10 g9 ev9 bv9 Ee9 Eb9) hh (by repeat (first | exact keeps_nil | apply keeps_cons (by repeat (first | exact find_head | apply find_tail | apply find_skip)) (by first  | rfl) | exact keeps_self | exact keeps_left | apply keeps_app | apply keeps_mv | apply keeps_skip))), memK (E := snL k11 g2 ev2 bv2 Ee2 Eb2) hh (by repeat (first | exact keeps_nil | apply keeps_cons (by repeat (first | exact find_head | apply find_tail | apply find_skip)) (by first  | rfl) | exact keeps_self | exact keeps_left | apply keeps_app | apply keeps_mv | apply keeps_skip))⟩ ?_)
                                clear hl hh a w; intro vc Fc a w hR hl hh
                                obtain ⟨rfl, rfl⟩ := hR
                                try simp only [List.cons_append, List.nil_append, List.append_assoc, List.append_nil] at hh
                                refine wl (wl_val hl rfl ⟨_, _, rfl, rfl, rfl⟩ (r_not hl rfl) ?_)
                                clear hl a; intro a hl
                                refine wl (wl_val hl rfl trivial (r_pickT hl rfl rfl) ?_)
                                clear hl a; intro a hl
                                refine w_nil ?_
                                have hl2 := hl.add (t := 3) (hl.add (t := 17) (hl.add (t := 18) (hl.add (t := 19) (hl.add (t := 145) (hl.nil) rfl) rfl) rfl) rfl) rfl; clear hl; have hl := hl2; clear hl2
                                refine then_normal ?_
                                refine c_cond hl rfl ?_ ?_
                                · intro hc3
                                  try simp only [decide_eq_true_eq, decide_eq_false_iff_not, Bool.not_eq_true', Bool.not_eq_false', Bool.not_eq_true, Bool.not_eq_false, Bool.and_eq_true, Bool.or_eq_true, Bool.and_eq_false_iff, Bool.or_eq_false_iff, Bool.not_not, ne_eq, Int.not_lt, Int.not_le, Decidable.not_not, beq_iff_eq, bne_iff_ne] at hc3
                                  exfalso; first | contradiction | exact abs10a (by assumption) hT9 (fun h => (hF9 h).2) | exact absurd (hF9 (by simpa using by assumption)).2 (by assumption)
                                · intro hc3
                                  try simp only [decide_eq_true_eq, decide_eq_false_iff_not, Bool.not_eq_true', Bool.not_eq_false', Bool.not_eq_true, Bool.not_eq_false, Bool.and_eq_true, Bool.or_eq_true, Bool.and_eq_false_iff, Bool.or_eq_false_iff, Bool.not_not, ne_eq, Int.not_lt, Int.not_le, Decidable.not_not, beq_iff_eq, bne_iff_ne] at hc3
                                  refine wp_skip ?_
                                  refine blk_normal ?_
                                  refine then_normal ?_
                                  refine c_region ?_
                                  first | refine wl (wl_val hl rfl trivial (r_add hl rfl rfl (by simp only [Fits]; omega)) ?_) | refine wl (wl_val hl rfl trivial (r_addW hl rfl rfl) ?_)
                                  clear hl a; intro a hl
                                  refine wl (wl_val hl rfl trivial (r_move hl rfl) ?_)
                                  clear hl a; intro a hl
                                  refine w_nil ?_
                                  have hl2 := hl.add (t := 3) (hl.add (t := 17) (hl.add (t := 18) (hl.add (t := 19) (hl.nil) rfl) rfl) rfl) rfl; clear hl; have hl := hl2; clear hl2
                                  refine then_normal ?_
                                  refine ⟨⟨g2, M2, z.i + 1⟩, (by simp only; omega), ⟨by simp only; omega, hS2, hG3⟩, hl.addE (t := 19) (hl.addE (t := 3) (hl.addE (t := 17) (hl.addE (t := 18) (hl.nil) rfl (by first | rfl | (congr 1; omega))) rfl (by first | rfl | (congr 1; omega))) rfl (by first | rfl | (congr 1; omega))) rfl (by first | rfl | (congr 1; omega)), hh.keep (by repeat (first | exact keeps_nil | apply keeps_cons (by repeat (first | exact find_head | apply find_tail | apply find_skip)) (by first  | rfl) | exact keeps_self | exact keeps_left | apply keeps_app | apply keeps_mv | apply keeps_skip))⟩
                              · intro hg14; clear hl; intro hl
                                try simp only [decide_eq_true_eq, decide_eq_false_iff_not, Bool.not_eq_true', Bool.not_eq_false', Bool.not_eq_true, Bool.not_eq_false, Bool.and_eq_true, Bool.or_eq_true, Bool.and_eq_false_iff, Bool.or_eq_false_iff, Bool.not_not, ne_eq, Int.not_lt, Int.not_le, Decidable.not_not, beq_iff_eq, bne_iff_ne] at hg14
                                refine wl (wl_skip hl rfl ⟨_, _, rfl, rfl, rfl⟩ ?_)
                                clear hl a; intro a hl
                                refine wl (wl_skip hl rfl ⟨_, _, rfl, rfl, rfl⟩ ?_)
                                clear hl a; intro a hl
                                refine wl (wl_val hl rfl trivial (r_pickF hl rfl rfl) ?_)
                                clear hl a; intro a hl
                                refine w_nil ?_
                                have hl2 := hl.add (t := 3) (hl.add (t := 17) (hl.add (t := 18) (hl.add (t := 19) (hl.add (t := 145) (hl.nil) rfl) rfl) rfl) rfl) rfl; clear hl; have hl := hl2; clear hl2
                                refine then_normal ?_
                                refine c_condF hl rfl ?_
                                refine wp_skip ?_
                                refine blk_normal ?_
                                refine then_normal ?_
                                refine c_region ?_
                                first | refine wl (wl_val hl rfl trivial (r_add hl rfl rfl (by simp only [Fits]; omega)) ?_) | refine wl (wl_val hl rfl trivial (r_addW hl rfl rfl) ?_)
                                clear hl a; intro a hl
                                refine wl (wl_val hl rfl trivial (r_move hl rfl) ?_)
                                clear hl a; intro a hl
                                refine w_nil ?_
                                have hl2 := hl.add (t := 3) (hl.add (t := 17) (hl.add (t := 18) (hl.add (t := 19) (hl.nil) rfl) rfl) rfl) rfl; clear hl; have hl := hl2; clear hl2
                                refine then_normal ?_
                                refine ⟨⟨g2, M2, z.i + 1⟩, (by simp only; omega), ⟨by simp only; omega, hS2, hG3⟩, hl.addE (t := 19) (hl.addE (t := 3) (hl.addE (t := 17) (hl.addE (t := 18) (hl.nil) rfl (by first | rfl | (congr 1; omega))) rfl (by first | rfl | (congr 1; omega))) rfl (by first | rfl | (congr 1; omega))) rfl (by first | rfl | (congr 1; omega)), hh.keep (by repeat (first | exact keeps_nil | apply keeps_cons (by repeat (first | exact find_head | apply find_tail | apply find_skip)) (by first  | rfl) | exact keeps_self | exact keeps_left | apply keeps_app | apply keeps_mv | apply keeps_skip))⟩
                        · intro hg10; clear hl; intro hl
                          try simp only [decide_eq_true_eq, decide_eq_false_iff_not, Bool.not_eq_true', Bool.not_eq_false', Bool.not_eq_true, Bool.not_eq_false, Bool.and_eq_true, Bool.or_eq_true, Bool.and_eq_false_iff, Bool.or_eq_false_iff, Bool.not_not, ne_eq, Int.not_lt, Int.not_le, Decidable.not_not, beq_iff_eq, bne_iff_ne] at hg10
                          refine wl (wl_val hl rfl ⟨_, _, rfl, rfl, rfl⟩ (r_field hl rfl fld83_2) ?_)
                          clear hl a; intro a hl
                          refine wl (w_load hl hh rfl ⟨_, _, rfl, rfl, rfl⟩ one80 rfl (by repeat (first | exact find_head | apply find_tail | apply find_skip)) (by first | rfl) ?_)
                          clear hl a; intro a hl
                          refine wl (wl_val hl rfl ⟨_, _, rfl, rfl, rfl⟩ (r_eql hl rfl rfl) ?_)
                          clear hl a; intro a hl
                          refine wl (wl_val hl rfl ⟨_, _, rfl, rfl, rfl⟩ (r_move hl rfl) ?_)
                          clear hl a; intro a hl
                          refine sl_split (t := 112) hl rfl ?_ ?_
                          · intro hg15; clear hl; intro hl
                            try simp only [decide_eq_true_eq, decide_eq_false_iff_not, Bool.not_eq_true', Bool.not_eq_false', Bool.not_eq_true, Bool.not_eq_false, Bool.and_eq_true, Bool.or_eq_true, Bool.and_eq_false_iff, Bool.or_eq_false_iff, Bool.not_not, ne_eq, Int.not_lt, Int.not_le, Decidable.not_not, beq_iff_eq, bne_iff_ne] at hg15
                            refine wl (wl_skip hl rfl ⟨_, _, rfl, rfl, rfl⟩ ?_)
                            clear hl a; intro a hl
                            refine wl (wl_skip hl rfl ⟨_, _, rfl, rfl, rfl⟩ ?_)
                            clear hl a; intro a hl
                            refine wl (wl_skip hl rfl ⟨_, _, rfl, rfl, rfl⟩ ?_)
                            clear hl a; intro a hl
                            refine wl (wl_val hl rfl ⟨_, _, rfl, rfl, rfl⟩ (r_pickT hl rfl rfl) ?_)
                            clear hl a; intro a hl
                            refine wl (wl_val hl rfl ⟨_, _, rfl, rfl, rfl⟩ (r_move hl rfl) ?_)
                            clear hl a; intro a hl
                            refine wl (wl_val hl rfl ⟨_, _, rfl, rfl, rfl⟩ (r_field hl rfl fld32_3) ?_)
                            clear hl a; intro a hl
                            refine wl (w_load hl hh rfl ⟨_, _, rfl, rfl, rfl⟩ one2 rfl (by repeat (first | exact find_head | apply find_tail | apply find_skip)) (by first | rfl) ?_)
                            clear hl a; intro a hl
                            refine wl (wl_val hl rfl ⟨_, _, rfl, rfl, rfl⟩ (r_neq hl rfl rfl) ?_)
                            clear hl a; intro a hl
                            refine wl (wl_val hl rfl ⟨_, _, rfl, rfl, rfl⟩ (r_pickT hl rfl rfl) ?_)
                            clear hl a; intro a hl
                            refine wl (wl_val hl rfl ⟨_, _, rfl, rfl, rfl⟩ (r_pickF hl rfl rfl) ?_)
                            clear hl a; intro a hl
                            refine wl (wl_val hl rfl trivial (r_pickT hl rfl rfl) ?_)
                            clear hl a; intro a hl
                            refine wl (wl_val hl rfl trivial (r_assign hl rfl) ?_)
                            clear hl a; intro a hl
                            refine w_nil ?_
                            have hl2 := hl.add (t := 3) (hl.add (t := 6) (hl.add (t := 8) (hl.add (t := 9) (hl.add (t := 17) (hl.add (t := 18) (hl.add (t := 19) (hl.nil) rfl) rfl) rfl) rfl) rfl) rfl) rfl; clear hl; have hl := hl2; clear hl2
                            have hl9 := hl.addE (t := 9) hl rfl (congrArg Value.bool (dec10b hok (by unfold S10; first | (simp only [true_iff, Bool.false_eq_true, false_iff]; omega) | (rw [decide_eq_true_eq]; omega))))
                            rw [← hsd9] at hl9
                            clear hl
                            have hl := hl9
                            clear hl9
                            try clear hg1; try clear hg2
                            refine then_normal ?_
                            refine c_seq ?_
                            refine c_seq ?_
                            refine c_region ?_
                            refine wl (wl_val hl rfl trivial (r_move hl rfl) ?_)
                            clear hl a; intro a hl
                            refine wl (wl_val hl rfl trivial (r_move hl rfl) ?_)
                            clear hl a; intro a hl
                            refine wl (wl_val hl rfl trivial (r_eql hl rfl rfl) ?_)
                            clear hl a; intro a hl
                            refine wl (wl_val hl rfl trivial (r_neq_bool hl rfl rfl Tryd.underlying4) ?_)
                            clear hl a; intro a hl
                            refine wl (wl_val hl rfl trivial (r_move hl rfl) ?_)
                            clear hl a; intro a hl
                            refine sl_split (t := 128) hl rfl ?_ ?_
                            · intro hg16; clear hl; intro hl
                              try simp only [decide_eq_true_eq, decide_eq_false_iff_not, Bool.not_eq_true', Bool.not_eq_false', Bool.not_eq_true, Bool.not_eq_false, Bool.and_eq_true, Bool.or_eq_true, Bool.and_eq_false_iff, Bool.or_eq_false_iff, Bool.not_not, ne_eq, Int.not_lt, Int.not_le, Decidable.not_not, beq_iff_eq, bne_iff_ne] at hg16
                              exfalso; first | contradiction | exact abs10a (by assumption) hT9 (fun h => (hF9 h).2) | exact absurd (hF9 (by simpa using by assumption)).2 (by assumption)
                            · intro hg16; clear hl; intro hl
                              try simp only [decide_eq_true_eq, decide_eq_false_iff_not, Bool.not_eq_true', Bool.not_eq_false', Bool.not_eq_true, Bool.not_eq_false, Bool.and_eq_true, Bool.or_eq_true, Bool.and_eq_false_iff, Bool.or_eq_false_iff, Bool.not_not, ne_eq, Int.not_lt, Int.not_le, Decidable.not_not, beq_iff_eq, bne_iff_ne] at hg16
                              refine wl (wl_val hl rfl ⟨_, _, rfl, rfl, rfl⟩ (r_move hl rfl) ?_)
                              clear hl a; intro a hl
                              refine wl (wl_val hl rfl ⟨_, _, rfl, rfl, rfl⟩ (r_not hl rfl) ?_)
                              clear hl a; intro a hl
                              refine wl (wl_val hl rfl ⟨_, _, rfl, rfl, rfl⟩ (r_move hl rfl) ?_)
                              clear hl a; intro a hl
                              refine sl_split (t := 131) hl rfl ?_ ?_
                              · intro hg17; clear hl; intro hl
                                try simp only [decide_eq_true_eq, decide_eq_false_iff_not, Bool.not_eq_true', Bool.not_eq_false', Bool.not_eq_true, Bool.not_eq_false, Bool.and_eq_true, Bool.or_eq_true, Bool.and_eq_false_iff, Bool.or_eq_false_iff, Bool.not_not, ne_eq, Int.not_lt, Int.not_le, Decidable.not_not, beq_iff_eq, bne_iff_ne] at hg17
                                refine wl (wl_val hl rfl ⟨_, _, rfl, rfl, rfl⟩ (r_move hl rfl) ?_)
                                clear hl a; intro a hl
                                refine wl (wl_val hl rfl ⟨_, _, rfl, rfl, rfl⟩ (r_neq hl rfl rfl) ?_)
                                clear hl a; intro a hl
                                refine wl (wl_val hl rfl ⟨_, _, rfl, rfl, rfl⟩ (r_pickT hl rfl rfl) ?_)
                                clear hl a; intro a hl
                                refine wl (wl_val hl rfl trivial (r_pickF hl rfl rfl) ?_)
                                clear hl a; intro a hl
                                refine w_nil ?_
                                have hl2 := hl.add (t := 3) (hl.add (t := 6) (hl.add (t := 9) (hl.add (t := 17) (hl.add (t := 18) (hl.add (t := 19) (hl.add (t := 135) (hl.nil) rfl) rfl) rfl) rfl) rfl) rfl) rfl; clear hl; have hl := hl2; clear hl2
                                refine then_normal ?_
                                refine c_cond hl rfl ?_ ?_
                                · intro hc2
                                  try simp only [decide_eq_true_eq, decide_eq_false_iff_not, Bool.not_eq_true', Bool.not_eq_false', Bool.not_eq_true, Bool.not_eq_false, Bool.and_eq_true, Bool.or_eq_true, Bool.and_eq_false_iff, Bool.or_eq_false_iff, Bool.not_not, ne_eq, Int.not_lt, Int.not_le, Decidable.not_not, beq_iff_eq, bne_iff_ne] at hc2
                                  exfalso; first | contradiction | exact abs10a (by assumption) hT9 (fun h => (hF9 h).2) | exact absurd (hF9 (by simpa using by assumption)).2 (by assumption)
                                · intro hc2
                                  try simp only [decide_eq_true_eq, decide_eq_false_iff_not, Bool.not_eq_true', Bool.not_eq_false', Bool.not_eq_true, Bool.not_eq_false, Bool.and_eq_true, Bool.or_eq_true, Bool.and_eq_false_iff, Bool.or_eq_false_iff, Bool.not_not, ne_eq, Int.not_lt, Int.not_le, Decidable.not_not, beq_iff_eq, bne_iff_ne] at hc2
                                  refine wp_skip ?_
                                  refine then_normal ?_
                                  refine c_seq ?_
                                  refine c_region ?_
                                  refine wl (wl_val hl rfl trivial (r_move hl rfl) ?_)
                                  clear hl a; intro a hl
                                  refine wl (w_call hl hh rfl trivial rfl cal28 rfl (snap_spec hS9 bc (40 * ((z.i + 1 : Nat) : Int) + 1) (400 * ((z.i + 1 : Nat) : Int) + 4) ⟨by omega, by omega⟩ hG9) (by repeat (first | exact keeps_nil | apply keeps_cons (by repeat (first | exact find_head | apply find_tail | apply find_skip)) (by first  | rfl) | exact keeps_self | exact keeps_left | apply keeps_app | apply keeps_mv | apply keeps_skip)) (memK (E := sysL bc M9) hh (by repeat (first | exact keeps_nil | apply keeps_cons (by repeat (first | exact find_head | apply find_tail | apply find_skip)) (by first  | rfl) | exact keeps_self | exact keeps_left | apply keeps_app | apply keeps_mv | apply keeps_skip))) ?_)
                                  clear hl hh a w; intro vc Fc a w hR hl hh
                                  obtain ⟨ev9, bv9, Ee9, Eb9, rfl, hSn9, rfl⟩ := hR
                                  try simp only [List.cons_append, List.nil_append, List.append_assoc, List.append_nil] at hh
                                  refine wl (wl_val hl rfl trivial (r_move hl rfl) ?_)
                                  clear hl a; intro a hl
                                  refine wl (w_call hl hh rfl trivial rfl cal28 rfl (snap_spec hS2 bg (40 * ((z.i + 1 : Nat) : Int)) (400 * ((z.i + 1 : Nat) : Int)) ⟨by omega, by omega⟩ hG3) (by repeat (first | exact keeps_nil | apply keeps_cons (by repeat (first | exact find_head | apply find_tail | apply find_skip)) (by first  | rfl) | exact keeps_self | exact keeps_left | apply keeps_app | apply keeps_mv | apply keeps_skip)) (memK (E := sysL bg M2) hh (by repeat (first | exact keeps_nil | apply keeps_cons (by repeat (first | exact find_head | apply find_tail | apply find_skip)) (by first  | rfl) | exact keeps_self | exact keeps_left | apply keeps_app | apply keeps_mv | apply keeps_skip))) ?_)
                                  clear hl hh a w; intro vc Fc a w hR hl hh
                                  obtain ⟨ev2, bv2, Ee2, Eb2, rfl, hSn2, rfl⟩ := hR
                                  try simp only [List.cons_append, List.nil_append, List.append_assoc, List.append_nil] at hh
                                  refine wl (w_alloc hl hh rfl trivial zero75 rfl ?_)
                                  clear hl hh a w; intro k10 a w hl hh
                                  refine wl (w_alloc hl hh rfl trivial zero75 rfl ?_)
                                  clear hl hh a w; intro k11 a w hl hh
                                  refine wl (w_storeA hl hh trivial agg75 rfl rfl (by repeat (first | exact find_head | apply find_tail | apply find_skip)) (by exact snC_len _ _ _) (by first | exact Nat.le_of_eq (arrL_length _ _).symm | (rw [snC_len]; exact Nat.le_refl _)) (by first | exact snC_one hSn9 | exact snC_one hSn2) (by exact setL_whole (by first | rw [snC_len, arrL_length] | rw [snC_len, snC_len])) ?_)
                                  clear hh w; intro w hh
                                  refine wl (w_storeA hl hh trivial agg75 rfl rfl (by repeat (first | exact find_head | apply find_tail | apply find_skip)) (by exact snC_len _ _ _) (by first | exact Nat.le_of_eq (arrL_length _ _).symm | (rw [snC_len]; exact Nat.le_refl _)) (by first | exact snC_one hSn9 | exact snC_one hSn2) (by exact setL_whole (by first | rw [snC_len, arrL_length] | rw [snC_len, snC_len])) ?_)
                                  clear hh w; intro w hh
                                  refine w_nil ?_
                                  have hl2 := hl.add (t := 3) (hl.add (t := 9) (hl.add (t := 10) (hl.add (t := 11) (hl.add (t := 17) (hl.add (t := 18) (hl.add (t := 19) (hl.nil) rfl) rfl) rfl) rfl) rfl) rfl) rfl; clear hl; have hl := hl2; clear hl2
                                  refine then_normal ?_
                                  refine c_seq ?_
                                  refine c_region ?_
                                  refine wl (wl_val hl rfl trivial (r_move hl rfl) ?_)
                                  clear hl a; intro a hl
                                  refine wl (wl_val hl rfl trivial (r_not hl rfl) ?_)
                                  clear hl a; intro a hl
                                  refine wl (wl_val hl rfl trivial (r_move hl rfl) ?_)
                                  clear hl a; intro a hl
                                  refine sl_split (t := 142) hl rfl ?_ ?_
                                  · intro hg18; clear hl; intro hl
                                    try simp only [decide_eq_true_eq, decide_eq_false_iff_not, Bool.not_eq_true', Bool.not_eq_false', Bool.not_eq_true, Bool.not_eq_false, Bool.and_eq_true, Bool.or_eq_true, Bool.and_eq_false_iff, Bool.or_eq_false_iff, Bool.not_not, ne_eq, Int.not_lt, Int.not_le, Decidable.not_not, beq_iff_eq, bne_iff_ne] at hg18
                                    refine wl (w_call hl hh rfl ⟨_, _, rfl, rfl, rfl⟩ rfl cal29 rfl (eqState_spec (g := g2) (B := 40 * ((z.i + 1 : Nat) : Int)) (Q := 400 * ((z.i + 1 : Nat) : Int)) ⟨by omega, by omega⟩ hG3 k10 k11 ev9 bv9 ev2 bv2 Ee9 Eb9 Ee2 Eb2 ((hF9 (by simpa using by assumption)).1 ▸ hSn9) hSn2) (by repeat (first | exact keeps_nil | apply keeps_cons (by repeat (first | exact find_head | apply find_tail | apply find_skip)) (by first  | rfl) | exact keeps_self | exact keeps_left | apply keeps_app | apply keeps_mv | apply keeps_skip)) ⟨(hF9 (by simpa using by assumption)).1 ▸ (memK (E := snL k10 g9 ev9 bv9 Ee9 Eb9) hh (by repeat (first | exact keeps_nil | apply keeps_cons (by repeat (first | exact find_head | apply find_tail | apply find_skip)) (by first  | rfl) | exact keeps_self | exact keeps_left | apply keeps_app | apply keeps_mv | apply keeps_skip))), memK (E := snL k11 g2 ev2 bv2 Ee2 Eb2) hh (by repeat (first | exact keeps_nil | apply keeps_cons (by repeat (first | exact find_head | apply find_tail | apply find_skip)) (by first  | rfl) | exact keeps_self | exact keeps_left | apply keeps_app | apply keeps_mv | apply keeps_skip))⟩ ?_)
                                    clear hl hh a w; intro vc Fc a w hR hl hh
                                    obtain ⟨rfl, rfl⟩ := hR
                                    try simp only [List.cons_append, List.nil_append, List.append_assoc, List.append_nil] at hh
                                    refine wl (wl_val hl rfl ⟨_, _, rfl, rfl, rfl⟩ (r_not hl rfl) ?_)
                                    clear hl a; intro a hl
                                    refine wl (wl_val hl rfl trivial (r_pickT hl rfl rfl) ?_)
                                    clear hl a; intro a hl
                                    refine w_nil ?_
                                    have hl2 := hl.add (t := 3) (hl.add (t := 17) (hl.add (t := 18) (hl.add (t := 19) (hl.add (t := 145) (hl.nil) rfl) rfl) rfl) rfl) rfl; clear hl; have hl := hl2; clear hl2
                                    refine then_normal ?_
                                    refine c_cond hl rfl ?_ ?_
                                    · intro hc3
                                      try simp only [decide_eq_true_eq, decide_eq_false_iff_not, Bool.not_eq_true', Bool.not_eq_false', Bool.not_eq_true, Bool.not_eq_false, Bool.and_eq_true, Bool.or_eq_true, Bool.and_eq_false_iff, Bool.or_eq_false_iff, Bool.not_not, ne_eq, Int.not_lt, Int.not_le, Decidable.not_not, beq_iff_eq, bne_iff_ne] at hc3
                                      exfalso; first | contradiction | exact abs10a (by assumption) hT9 (fun h => (hF9 h).2) | exact absurd (hF9 (by simpa using by assumption)).2 (by assumption)
                                    · intro hc3
                                      try simp only [decide_eq_true_eq, decide_eq_false_iff_not, Bool.not_eq_true', Bool.not_eq_false', Bool.not_eq_true, Bool.not_eq_false, Bool.and_eq_true, Bool.or_eq_true, Bool.and_eq_false_iff, Bool.or_eq_false_iff, Bool.not_not, ne_eq, Int.not_lt, Int.not_le, Decidable.not_not, beq_iff_eq, bne_iff_ne] at hc3
                                      refine wp_skip ?_
                                      refine blk_normal ?_
                                      refine then_normal ?_
                                      refine c_region ?_
                                      first | refine wl (wl_val hl rfl trivial (r_add hl rfl rfl (by simp only [Fits]; omega)) ?_) | refine wl (wl_val hl rfl trivial (r_addW hl rfl rfl) ?_)
                                      clear hl a; intro a hl
                                      refine wl (wl_val hl rfl trivial (r_move hl rfl) ?_)
                                      clear hl a; intro a hl
                                      refine w_nil ?_
                                      have hl2 := hl.add (t := 3) (hl.add (t := 17) (hl.add (t := 18) (hl.add (t := 19) (hl.nil) rfl) rfl) rfl) rfl; clear hl; have hl := hl2; clear hl2
                                      refine then_normal ?_
                                      refine ⟨⟨g2, M2, z.i + 1⟩, (by simp only; omega), ⟨by simp only; omega, hS2, hG3⟩, hl.addE (t := 19) (hl.addE (t := 3) (hl.addE (t := 17) (hl.addE (t := 18) (hl.nil) rfl (by first | rfl | (congr 1; omega))) rfl (by first | rfl | (congr 1; omega))) rfl (by first | rfl | (congr 1; omega))) rfl (by first | rfl | (congr 1; omega)), hh.keep (by repeat (first | exact keeps_nil | apply keeps_cons (by repeat (first | exact find_head | apply find_tail | apply find_skip)) (by first  | rfl) | exact keeps_self | exact keeps_left | apply keeps_app | apply keeps_mv | apply keeps_skip))⟩
                                  · intro hg18; clear hl; intro hl
                                    try simp only [decide_eq_true_eq, decide_eq_false_iff_not, Bool.not_eq_true', Bool.not_eq_false', Bool.not_eq_true, Bool.not_eq_false, Bool.and_eq_true, Bool.or_eq_true, Bool.and_eq_false_iff, Bool.or_eq_false_iff, Bool.not_not, ne_eq, Int.not_lt, Int.not_le, Decidable.not_not, beq_iff_eq, bne_iff_ne] at hg18
                                    refine wl (wl_skip hl rfl ⟨_, _, rfl, rfl, rfl⟩ ?_)
                                    clear hl a; intro a hl
                                    refine wl (wl_skip hl rfl ⟨_, _, rfl, rfl, rfl⟩ ?_)
                                    clear hl a; intro a hl
                                    refine wl (wl_val hl rfl trivial (r_pickF hl rfl rfl) ?_)
                                    clear hl a; intro a hl
                                    refine w_nil ?_
                                    have hl2 := hl.add (t := 3) (hl.add (t := 17) (hl.add (t := 18) (hl.add (t := 19) (hl.add (t := 145) (hl.nil) rfl) rfl) rfl) rfl) rfl; clear hl; have hl := hl2; clear hl2
                                    refine then_normal ?_
                                    refine c_condF hl rfl ?_
                                    refine wp_skip ?_
                                    refine blk_normal ?_
                                    refine then_normal ?_
                                    refine c_region ?_
                                    first | refine wl (wl_val hl rfl trivial (r_add hl rfl rfl (by simp only [Fits]; omega)) ?_) | refine wl (wl_val hl rfl trivial (r_addW hl rfl rfl) ?_)
                                    clear hl a; intro a hl
                                    refine wl (wl_val hl rfl trivial (r_move hl rfl) ?_)
                                    clear hl a; intro a hl
                                    refine w_nil ?_
                                    have hl2 := hl.add (t := 3) (hl.add (t := 17) (hl.add (t := 18) (hl.add (t := 19) (hl.nil) rfl) rfl) rfl) rfl; clear hl; have hl := hl2; clear hl2
                                    refine then_normal ?_
                                    refine ⟨⟨g2, M2, z.i + 1⟩, (by simp only; omega), ⟨by simp only; omega, hS2, hG3⟩, hl.addE (t := 19) (hl.addE (t := 3) (hl.addE (t := 17) (hl.addE (t := 18) (hl.nil) rfl (by first | rfl | (congr 1; omega))) rfl (by first | rfl | (congr 1; omega))) rfl (by first | rfl | (congr 1; omega))) rfl (by first | rfl | (congr 1; omega)), hh.keep (by repeat (first | exact keeps_nil | apply keeps_cons (by repeat (first | exact find_head | apply find_tail | apply find_skip)) (by first  | rfl) | exact keeps_self | exact keeps_left | apply keeps_app | apply keeps_mv | apply keeps_skip))⟩
                              · intro hg17; clear hl; intro hl
                                try simp only [decide_eq_true_eq, decide_eq_false_iff_not, Bool.not_eq_true', Bool.not_eq_false', Bool.not_eq_true, Bool.not_eq_false, Bool.and_eq_true, Bool.or_eq_true, Bool.and_eq_false_iff, Bool.or_eq_false_iff, Bool.not_not, ne_eq, Int.not_lt, Int.not_le, Decidable.not_not, beq_iff_eq, bne_iff_ne] at hg17
                                refine wl (wl_skip hl rfl ⟨_, _, rfl, rfl, rfl⟩ ?_)
                                clear hl a; intro a hl
                                refine wl (wl_skip hl rfl ⟨_, _, rfl, rfl, rfl⟩ ?_)
                                clear hl a; intro a hl
                                refine wl (wl_val hl rfl ⟨_, _, rfl, rfl, rfl⟩ (r_pickF hl rfl rfl) ?_)
                                clear hl a; intro a hl
                                refine wl (wl_val hl rfl trivial (r_pickF hl rfl rfl) ?_)
                                clear hl a; intro a hl
                                refine w_nil ?_
                                have hl2 := hl.add (t := 3) (hl.add (t := 6) (hl.add (t := 9) (hl.add (t := 17) (hl.add (t := 18) (hl.add (t := 19) (hl.add (t := 135) (hl.nil) rfl) rfl) rfl) rfl) rfl) rfl) rfl; clear hl; have hl := hl2; clear hl2
                                refine then_normal ?_
                                refine c_condF hl rfl ?_
                                refine wp_skip ?_
                                refine then_normal ?_
                                refine c_seq ?_
                                refine c_region ?_
                                refine wl (wl_val hl rfl trivial (r_move hl rfl) ?_)
                                clear hl a; intro a hl
                                refine wl (w_call hl hh rfl trivial rfl cal28 rfl (snap_spec hS9 bc (40 * ((z.i + 1 : Nat) : Int) + 1) (400 * ((z.i + 1 : Nat) : Int) + 4) ⟨by omega, by omega⟩ hG9) (by repeat (first | exact keeps_nil | apply keeps_cons (by repeat (first | exact find_head | apply find_tail | apply find_skip)) (by first  | rfl) | exact keeps_self | exact keeps_left | apply keeps_app | apply keeps_mv | apply keeps_skip)) (memK (E := sysL bc M9) hh (by repeat (first | exact keeps_nil | apply keeps_cons (by repeat (first | exact find_head | apply find_tail | apply find_skip)) (by first  | rfl) | exact keeps_self | exact keeps_left | apply keeps_app | apply keeps_mv | apply keeps_skip))) ?_)
                                clear hl hh a w; intro vc Fc a w hR hl hh
                                obtain ⟨ev9, bv9, Ee9, Eb9, rfl, hSn9, rfl⟩ := hR
                                try simp only [List.cons_append, List.nil_append, List.append_assoc, List.append_nil] at hh
                                refine wl (wl_val hl rfl trivial (r_move hl rfl) ?_)
                                clear hl a; intro a hl
                                refine wl (w_call hl hh rfl trivial rfl cal28 rfl (snap_spec hS2 bg (40 * ((z.i + 1 : Nat) : Int)) (400 * ((z.i + 1 : Nat) : Int)) ⟨by omega, by omega⟩ hG3) (by repeat (first | exact keeps_nil | apply keeps_cons (by repeat (first | exact find_head | apply find_tail | apply find_skip)) (by first  | rfl) | exact keeps_self | exact keeps_left | apply keeps_app | apply keeps_mv | apply keeps_skip)) (memK (E := sysL bg M2) hh (by repeat (first | exact keeps_nil | apply keeps_cons (by repeat (first | exact find_head | apply find_tail | apply find_skip)) (by first  | rfl) | exact keeps_self | exact keeps_left | apply keeps_app | apply keeps_mv | apply keeps_skip))) ?_)
                                clear hl hh a w; intro vc Fc a w hR hl hh
                                obtain ⟨ev2, bv2, Ee2, Eb2, rfl, hSn2, rfl⟩ := hR
                                try simp only [List.cons_append, List.nil_append, List.append_assoc, List.append_nil] at hh
                                refine wl (w_alloc hl hh rfl trivial zero75 rfl ?_)
                                clear hl hh a w; intro k10 a w hl hh
                                refine wl (w_alloc hl hh rfl trivial zero75 rfl ?_)
                                clear hl hh a w; intro k11 a w hl hh
                                refine wl (w_storeA hl hh trivial agg75 rfl rfl (by repeat (first | exact find_head | apply find_tail | apply find_skip)) (by exact snC_len _ _ _) (by first | exact Nat.le_of_eq (arrL_length _ _).symm | (rw [snC_len]; exact Nat.le_refl _)) (by first | exact snC_one hSn9 | exact snC_one hSn2) (by exact setL_whole (by first | rw [snC_len, arrL_length] | rw [snC_len, snC_len])) ?_)
                                clear hh w; intro w hh
                                refine wl (w_storeA hl hh trivial agg75 rfl rfl (by repeat (first | exact find_head | apply find_tail | apply find_skip)) (by exact snC_len _ _ _) (by first | exact Nat.le_of_eq (arrL_length _ _).symm | (rw [snC_len]; exact Nat.le_refl _)) (by first | exact snC_one hSn9 | exact snC_one hSn2) (by exact setL_whole (by first | rw [snC_len, arrL_length] | rw [snC_len, snC_len])) ?_)
                                clear hh w; intro w hh
                                refine w_nil ?_
                                have hl2 := hl.add (t := 3) (hl.add (t := 9) (hl.add (t := 10) (hl.add (t := 11) (hl.add (t := 17) (hl.add (t := 18) (hl.add (t := 19) (hl.nil) rfl) rfl) rfl) rfl) rfl) rfl) rfl; clear hl; have hl := hl2; clear hl2
                                refine then_normal ?_
                                refine c_seq ?_
                                refine c_region ?_
                                refine wl (wl_val hl rfl trivial (r_move hl rfl) ?_)
                                clear hl a; intro a hl
                                refine wl (wl_val hl rfl trivial (r_not hl rfl) ?_)
                                clear hl a; intro a hl
                                refine wl (wl_val hl rfl trivial (r_move hl rfl) ?_)
                                clear hl a; intro a hl
                                refine sl_split (t := 142) hl rfl ?_ ?_
                                · intro hg19; clear hl; intro hl
                                  try simp only [decide_eq_true_eq, decide_eq_false_iff_not, Bool.not_eq_true', Bool.not_eq_false', Bool.not_eq_true, Bool.not_eq_false, Bool.and_eq_true, Bool.or_eq_true, Bool.and_eq_false_iff, Bool.or_eq_false_iff, Bool.not_not, ne_eq, Int.not_lt, Int.not_le, Decidable.not_not, beq_iff_eq, bne_iff_ne] at hg19
                                  refine wl (w_call hl hh rfl ⟨_, _, rfl, rfl, rfl⟩ rfl cal29 rfl (eqState_spec (g := g2) (B := 40 * ((z.i + 1 : Nat) : Int)) (Q := 400 * ((z.i + 1 : Nat) : Int)) ⟨by omega, by omega⟩ hG3 k10 k11 ev9 bv9 ev2 bv2 Ee9 Eb9 Ee2 Eb2 ((hF9 (by simpa using by assumption)).1 ▸ hSn9) hSn2) (by repeat (first | exact keeps_nil | apply keeps_cons (by repeat (first | exact find_head | apply find_tail | apply find_skip)) (by first  | rfl) | exact keeps_self | exact keeps_left | apply keeps_app | apply keeps_mv | apply keeps_skip)) ⟨(hF9 (by simpa using by assumption)).1 ▸ (memK (E := snL k10 g9 ev9 bv9 Ee9 Eb9) hh (by repeat (first | exact keeps_nil | apply keeps_cons (by repeat (first | exact find_head | apply find_tail | apply find_skip)) (by first  | rfl) | exact keeps_self | exact keeps_left | apply keeps_app | apply keeps_mv | apply keeps_skip))), memK (E := snL k11 g2 ev2 bv2 Ee2 Eb2) hh (by repeat (first | exact keeps_nil | apply keeps_cons (by repeat (first | exact find_head | apply find_tail | apply find_skip)) (by first  | rfl) | exact keeps_self | exact keeps_left | apply keeps_app | apply keeps_mv | apply keeps_skip))⟩ ?_)
                                  clear hl hh a w; intro vc Fc a w hR hl hh
                                  obtain ⟨rfl, rfl⟩ := hR
                                  try simp only [List.cons_append, List.nil_append, List.append_assoc, List.append_nil] at hh
                                  refine wl (wl_val hl rfl ⟨_, _, rfl, rfl, rfl⟩ (r_not hl rfl) ?_)
                                  clear hl a; intro a hl
                                  refine wl (wl_val hl rfl trivial (r_pickT hl rfl rfl) ?_)
                                  clear hl a; intro a hl
                                  refine w_nil ?_
                                  have hl2 := hl.add (t := 3) (hl.add (t := 17) (hl.add (t := 18) (hl.add (t := 19) (hl.add (t := 145) (hl.nil) rfl) rfl) rfl) rfl) rfl; clear hl; have hl := hl2; clear hl2
                                  refine then_normal ?_
                                  refine c_cond hl rfl ?_ ?_
                                  · intro hc3
                                    try simp only [decide_eq_true_eq, decide_eq_false_iff_not, Bool.not_eq_true', Bool.not_eq_false', Bool.not_eq_true, Bool.not_eq_false, Bool.and_eq_true, Bool.or_eq_true, Bool.and_eq_false_iff, Bool.or_eq_false_iff, Bool.not_not, ne_eq, Int.not_lt, Int.not_le, Decidable.not_not, beq_iff_eq, bne_iff_ne] at hc3
                                    exfalso; first | contradiction | exact abs10a (by assumption) hT9 (fun h => (hF9 h).2) | exact absurd (hF9 (by simpa using by assumption)).2 (by assumption)
                                  · intro hc3
                                    try simp only [decide_eq_true_eq, decide_eq_false_iff_not, Bool.not_eq_true', Bool.not_eq_false', Bool.not_eq_true, Bool.not_eq_false, Bool.and_eq_true, Bool.or_eq_true, Bool.and_eq_false_iff, Bool.or_eq_false_iff, Bool.not_not, ne_eq, Int.not_lt, Int.not_le, Decidable.not_not, beq_iff_eq, bne_iff_ne] at hc3
                                    refine wp_skip ?_
                                    refine blk_normal ?_
                                    refine then_normal ?_
                                    refine c_region ?_
                                    first | refine wl (wl_val hl rfl trivial (r_add hl rfl rfl (by simp only [Fits]; omega)) ?_) | refine wl (wl_val hl rfl trivial (r_addW hl rfl rfl) ?_)
                                    clear hl a; intro a hl
                                    refine wl (wl_val hl rfl trivial (r_move hl rfl) ?_)
                                    clear hl a; intro a hl
                                    refine w_nil ?_
                                    have hl2 := hl.add (t := 3) (hl.add (t := 17) (hl.add (t := 18) (hl.add (t := 19) (hl.nil) rfl) rfl) rfl) rfl; clear hl; have hl := hl2; clear hl2
                                    refine then_normal ?_
                                    refine ⟨⟨g2, M2, z.i + 1⟩, (by simp only; omega), ⟨by simp only; omega, hS2, hG3⟩, hl.addE (t := 19) (hl.addE (t := 3) (hl.addE (t := 17) (hl.addE (t := 18) (hl.nil) rfl (by first | rfl | (congr 1; omega))) rfl (by first | rfl | (congr 1; omega))) rfl (by first | rfl | (congr 1; omega))) rfl (by first | rfl | (congr 1; omega)), hh.keep (by repeat (first | exact keeps_nil | apply keeps_cons (by repeat (first | exact find_head | apply find_tail | apply find_skip)) (by first  | rfl) | exact keeps_self | exact keeps_left | apply keeps_app | apply keeps_mv | apply keeps_skip))⟩
                                · intro hg19; clear hl; intro hl
                                  try simp only [decide_eq_true_eq, decide_eq_false_iff_not, Bool.not_eq_true', Bool.not_eq_false', Bool.not_eq_true, Bool.not_eq_false, Bool.and_eq_true, Bool.or_eq_true, Bool.and_eq_false_iff, Bool.or_eq_false_iff, Bool.not_not, ne_eq, Int.not_lt, Int.not_le, Decidable.not_not, beq_iff_eq, bne_iff_ne] at hg19
                                  refine wl (wl_skip hl rfl ⟨_, _, rfl, rfl, rfl⟩ ?_)
                                  clear hl a; intro a hl
                                  refine wl (wl_skip hl rfl ⟨_, _, rfl, rfl, rfl⟩ ?_)
                                  clear hl a; intro a hl
                                  refine wl (wl_val hl rfl trivial (r_pickF hl rfl rfl) ?_)
                                  clear hl a; intro a hl
                                  refine w_nil ?_
                                  have hl2 := hl.add (t := 3) (hl.add (t := 17) (hl.add (t := 18) (hl.add (t := 19) (hl.add (t := 145) (hl.nil) rfl) rfl) rfl) rfl) rfl; clear hl; have hl := hl2; clear hl2
                                  refine then_normal ?_
                                  refine c_condF hl rfl ?_
                                  refine wp_skip ?_
                                  refine blk_normal ?_
                                  refine then_normal ?_
                                  refine c_region ?_
                                  first | refine wl (wl_val hl rfl trivial (r_add hl rfl rfl (by simp only [Fits]; omega)) ?_) | refine wl (wl_val hl rfl trivial (r_addW hl rfl rfl) ?_)
                                  clear hl a; intro a hl
                                  refine wl (wl_val hl rfl trivial (r_move hl rfl) ?_)
                                  clear hl a; intro a hl
                                  refine w_nil ?_
                                  have hl2 := hl.add (t := 3) (hl.add (t := 17) (hl.add (t := 18) (hl.add (t := 19) (hl.nil) rfl) rfl) rfl) rfl; clear hl; have hl := hl2; clear hl2
                                  refine then_normal ?_
                                  refine ⟨⟨g2, M2, z.i + 1⟩, (by simp only; omega), ⟨by simp only; omega, hS2, hG3⟩, hl.addE (t := 19) (hl.addE (t := 3) (hl.addE (t := 17) (hl.addE (t := 18) (hl.nil) rfl (by first | rfl | (congr 1; omega))) rfl (by first | rfl | (congr 1; omega))) rfl (by first | rfl | (congr 1; omega))) rfl (by first | rfl | (congr 1; omega)), hh.keep (by repeat (first | exact keeps_nil | apply keeps_cons (by repeat (first | exact find_head | apply find_tail | apply find_skip)) (by first  | rfl) | exact keeps_self | exact keeps_left | apply keeps_app | apply keeps_mv | apply keeps_skip))⟩
                          · intro hg15; clear hl; intro hl
                            try simp only [decide_eq_true_eq, decide_eq_false_iff_not, Bool.not_eq_true', Bool.not_eq_false', Bool.not_eq_true, Bool.not_eq_false, Bool.and_eq_true, Bool.or_eq_true, Bool.and_eq_false_iff, Bool.or_eq_false_iff, Bool.not_not, ne_eq, Int.not_lt, Int.not_le, Decidable.not_not, beq_iff_eq, bne_iff_ne] at hg15
                            refine wl (wl_val hl rfl ⟨_, _, rfl, rfl, rfl⟩ (r_field hl rfl fld83_2) ?_)
                            clear hl a; intro a hl
                            refine wl (w_load hl hh rfl ⟨_, _, rfl, rfl, rfl⟩ one80 rfl (by repeat (first | exact find_head | apply find_tail | apply find_skip)) (by first | rfl) ?_)
                            clear hl a; intro a hl
                            refine wl (wl_val hl rfl ⟨_, _, rfl, rfl, rfl⟩ (r_eql hl rfl rfl) ?_)
                            clear hl a; intro a hl
                            refine wl (wl_val hl rfl ⟨_, _, rfl, rfl, rfl⟩ (r_pickF hl rfl rfl) ?_)
                            clear hl a; intro a hl
                            refine wl (wl_val hl rfl ⟨_, _, rfl, rfl, rfl⟩ (r_move hl rfl) ?_)
                            clear hl a; intro a hl
                            refine sl_split (t := 117) hl rfl ?_ ?_
                            · intro hg20; clear hl; intro hl
                              try simp only [decide_eq_true_eq, decide_eq_false_iff_not, Bool.not_eq_true', Bool.not_eq_false', Bool.not_eq_true, Bool.not_eq_false, Bool.and_eq_true, Bool.or_eq_true, Bool.and_eq_false_iff, Bool.or_eq_false_iff, Bool.not_not, ne_eq, Int.not_lt, Int.not_le, Decidable.not_not, beq_iff_eq, bne_iff_ne] at hg20
                              refine wl (wl_val hl rfl ⟨_, _, rfl, rfl, rfl⟩ (r_field hl rfl fld32_3) ?_)
                              clear hl a; intro a hl
                              refine wl (w_load hl hh rfl ⟨_, _, rfl, rfl, rfl⟩ one2 rfl (by repeat (first | exact find_head | apply find_tail | apply find_skip)) (by first | rfl) ?_)
                              clear hl a; intro a hl
                              refine wl (wl_val hl rfl ⟨_, _, rfl, rfl, rfl⟩ (r_neq hl rfl rfl) ?_)
                              clear hl a; intro a hl
                              refine wl (wl_val hl rfl ⟨_, _, rfl, rfl, rfl⟩ (r_pickT hl rfl rfl) ?_)
                              clear hl a; intro a hl
                              refine wl (wl_val hl rfl ⟨_, _, rfl, rfl, rfl⟩ (r_pickF hl rfl rfl) ?_)
                              clear hl a; intro a hl
                              refine wl (wl_val hl rfl trivial (r_pickT hl rfl rfl) ?_)
                              clear hl a; intro a hl
                              refine wl (wl_val hl rfl trivial (r_assign hl rfl) ?_)
                              clear hl a; intro a hl
                              refine w_nil ?_
                              have hl2 := hl.add (t := 3) (hl.add (t := 6) (hl.add (t := 8) (hl.add (t := 9) (hl.add (t := 17) (hl.add (t := 18) (hl.add (t := 19) (hl.nil) rfl) rfl) rfl) rfl) rfl) rfl) rfl; clear hl; have hl := hl2; clear hl2
                              have hl9 := hl.addE (t := 9) hl rfl (congrArg Value.bool (dec10b hok (by unfold S10; first | (simp only [true_iff, Bool.false_eq_true, false_iff]; omega) | (rw [decide_eq_true_eq]; omega))))
                              rw [← hsd9] at hl9
                              clear hl
                              have hl := hl9
                              clear hl9
                              try clear hg1; try clear hg2
                              refine then_normal ?_
                              refine c_seq ?_
                              refine c_seq ?_
                              refine c_region ?_
                              refine wl (wl_val hl rfl trivial (r_move hl rfl) ?_)
                              clear hl a; intro a hl
                              refine wl (wl_val hl rfl trivial (r_move hl rfl) ?_)
                              clear hl a; intro a hl
                              refine wl (wl_val hl rfl trivial (r_eql hl rfl rfl) ?_)
                              clear hl a; intro a hl
                              refine wl (wl_val hl rfl trivial (r_neq_bool hl rfl rfl Tryd.underlying4) ?_)
                              clear hl a; intro a hl
                              refine wl (wl_val hl rfl trivial (r_move hl rfl) ?_)
                              clear hl a; intro a hl
                              refine sl_split (t := 128) hl rfl ?_ ?_
                              · intro hg21; clear hl; intro hl
                                try simp only [decide_eq_true_eq, decide_eq_false_iff_not, Bool.not_eq_true', Bool.not_eq_false', Bool.not_eq_true, Bool.not_eq_false, Bool.and_eq_true, Bool.or_eq_true, Bool.and_eq_false_iff, Bool.or_eq_false_iff, Bool.not_not, ne_eq, Int.not_lt, Int.not_le, Decidable.not_not, beq_iff_eq, bne_iff_ne] at hg21
                                exfalso; first | contradiction | exact abs10a (by assumption) hT9 (fun h => (hF9 h).2) | exact absurd (hF9 (by simpa using by assumption)).2 (by assumption)
                              · intro hg21; clear hl; intro hl
                                try simp only [decide_eq_true_eq, decide_eq_false_iff_not, Bool.not_eq_true', Bool.not_eq_false', Bool.not_eq_true, Bool.not_eq_false, Bool.and_eq_true, Bool.or_eq_true, Bool.and_eq_false_iff, Bool.or_eq_false_iff, Bool.not_not, ne_eq, Int.not_lt, Int.not_le, Decidable.not_not, beq_iff_eq, bne_iff_ne] at hg21
                                refine wl (wl_val hl rfl ⟨_, _, rfl, rfl, rfl⟩ (r_move hl rfl) ?_)
                                clear hl a; intro a hl
                                refine wl (wl_val hl rfl ⟨_, _, rfl, rfl, rfl⟩ (r_not hl rfl) ?_)
                                clear hl a; intro a hl
                                refine wl (wl_val hl rfl ⟨_, _, rfl, rfl, rfl⟩ (r_move hl rfl) ?_)
                                clear hl a; intro a hl
                                refine sl_split (t := 131) hl rfl ?_ ?_
                                · intro hg22; clear hl; intro hl
                                  try simp only [decide_eq_true_eq, decide_eq_false_iff_not, Bool.not_eq_true', Bool.not_eq_false', Bool.not_eq_true, Bool.not_eq_false, Bool.and_eq_true, Bool.or_eq_true, Bool.and_eq_false_iff, Bool.or_eq_false_iff, Bool.not_not, ne_eq, Int.not_lt, Int.not_le, Decidable.not_not, beq_iff_eq, bne_iff_ne] at hg22
                                  refine wl (wl_val hl rfl ⟨_, _, rfl, rfl, rfl⟩ (r_move hl rfl) ?_)
                                  clear hl a; intro a hl
                                  refine wl (wl_val hl rfl ⟨_, _, rfl, rfl, rfl⟩ (r_neq hl rfl rfl) ?_)
                                  clear hl a; intro a hl
                                  refine wl (wl_val hl rfl ⟨_, _, rfl, rfl, rfl⟩ (r_pickT hl rfl rfl) ?_)
                                  clear hl a; intro a hl
                                  refine wl (wl_val hl rfl trivial (r_pickF hl rfl rfl) ?_)
                                  clear hl a; intro a hl
                                  refine w_nil ?_
                                  have hl2 := hl.add (t := 3) (hl.add (t := 6) (hl.add (t := 9) (hl.add (t := 17) (hl.add (t := 18) (hl.add (t := 19) (hl.add (t := 135) (hl.nil) rfl) rfl) rfl) rfl) rfl) rfl) rfl; clear hl; have hl := hl2; clear hl2
                                  refine then_normal ?_
                                  refine c_cond hl rfl ?_ ?_
                                  · intro hc2
                                    try simp only [decide_eq_true_eq, decide_eq_false_iff_not, Bool.not_eq_true', Bool.not_eq_false', Bool.not_eq_true, Bool.not_eq_false, Bool.and_eq_true, Bool.or_eq_true, Bool.and_eq_false_iff, Bool.or_eq_false_iff, Bool.not_not, ne_eq, Int.not_lt, Int.not_le, Decidable.not_not, beq_iff_eq, bne_iff_ne] at hc2
                                    exfalso; first | contradiction | exact abs10a (by assumption) hT9 (fun h => (hF9 h).2) | exact absurd (hF9 (by simpa using by assumption)).2 (by assumption)
                                  · intro hc2
                                    try simp only [decide_eq_true_eq, decide_eq_false_iff_not, Bool.not_eq_true', Bool.not_eq_false', Bool.not_eq_true, Bool.not_eq_false, Bool.and_eq_true, Bool.or_eq_true, Bool.and_eq_false_iff, Bool.or_eq_false_iff, Bool.not_not, ne_eq, Int.not_lt, Int.not_le, Decidable.not_not, beq_iff_eq, bne_iff_ne] at hc2
                                    refine wp_skip ?_
                                    refine then_normal ?_
                                    refine c_seq ?_
                                    refine c_region ?_
                                    refine wl (wl_val hl rfl trivial (r_move hl rfl) ?_)
                                    clear hl a; intro a hl
                                    refine wl (w_call hl hh rfl trivial rfl cal28 rfl (snap_spec hS9 bc (40 * ((z.i + 1 : Nat) : Int) + 1) (400 * ((z.i + 1 : Nat) : Int) + 4) ⟨by omega, by omega⟩ hG9) (by repeat (first | exact keeps_nil | apply keeps_cons (by repeat (first | exact find_head | apply find_tail | apply find_skip)) (by first  | rfl) | exact keeps_self | exact keeps_left | apply keeps_app | apply keeps_mv | apply keeps_skip)) (memK (E := sysL bc M9) hh (by repeat (first | exact keeps_nil | apply keeps_cons (by repeat (first | exact find_head | apply find_tail | apply find_skip)) (by first  | rfl) | exact keeps_self | exact keeps_left | apply keeps_app | apply keeps_mv | apply keeps_skip))) ?_)
                                    clear hl hh a w; intro vc Fc a w hR hl hh
                                    obtain ⟨ev9, bv9, Ee9, Eb9, rfl, hSn9, rfl⟩ := hR
                                    try simp only [List.cons_append, List.nil_append, List.append_assoc, List.append_nil] at hh
                                    refine wl (wl_val hl rfl trivial (r_move hl rfl) ?_)
                                    clear hl a; intro a hl
                                    refine wl (w_call hl hh rfl trivial rfl cal28 rfl (snap_spec hS2 bg (40 * ((z.i + 1 : Nat) : Int)) (400 * ((z.i + 1 : Nat) : Int)) ⟨by omega, by omega⟩ hG3) (by repeat (first | exact keeps_nil | apply keeps_cons (by repeat (first | exact find_head | apply find_tail | apply find_skip)) (by first  | rfl) | exact keeps_self | exact keeps_left | apply keeps_app | apply keeps_mv | apply keeps_skip)) (memK (E := sysL bg M2) hh (by repeat (first | exact keeps_nil | apply keeps_cons (by repeat (first | exact find_head | apply find_tail | apply find_skip)) (by first  | rfl) | exact keeps_self | exact keeps_left | apply keeps_app | apply keeps_mv | apply keeps_skip))) ?_)
                                    clear hl hh a w; intro vc Fc a w hR hl hh
                                    obtain ⟨ev2, bv2, Ee2, Eb2, rfl, hSn2, rfl⟩ := hR
                                    try simp only [List.cons_append, List.nil_append, List.append_assoc, List.append_nil] at hh
                                    refine wl (w_alloc hl hh rfl trivial zero75 rfl ?_)
                                    clear hl hh a w; intro k10 a w hl hh
                                    refine wl (w_alloc hl hh rfl trivial zero75 rfl ?_)
                                    clear hl hh a w; intro k11 a w hl hh
                                    refine wl (w_storeA hl hh trivial agg75 rfl rfl (by repeat (first | exact find_head | apply find_tail | apply find_skip)) (by exact snC_len _ _ _) (by first | exact Nat.le_of_eq (arrL_length _ _).symm | (rw [snC_len]; exact Nat.le_refl _)) (by first | exact snC_one hSn9 | exact snC_one hSn2) (by exact setL_whole (by first | rw [snC_len, arrL_length] | rw [snC_len, snC_len])) ?_)
                                    clear hh w; intro w hh
                                    refine wl (w_storeA hl hh trivial agg75 rfl rfl (by repeat (first | exact find_head | apply find_tail | apply find_skip)) (by exact snC_len _ _ _) (by first | exact Nat.le_of_eq (arrL_length _ _).symm | (rw [snC_len]; exact Nat.le_refl _)) (by first | exact snC_one hSn9 | exact snC_one hSn2) (by exact setL_whole (by first | rw [snC_len, arrL_length] | rw [snC_len, snC_len])) ?_)
                                    clear hh w; intro w hh
                                    refine w_nil ?_
                                    have hl2 := hl.add (t := 3) (hl.add (t := 9) (hl.add (t := 10) (hl.add (t := 11) (hl.add (t := 17) (hl.add (t := 18) (hl.add (t := 19) (hl.nil) rfl) rfl) rfl) rfl) rfl) rfl) rfl; clear hl; have hl := hl2; clear hl2
                                    refine then_normal ?_
                                    refine c_seq ?_
                                    refine c_region ?_
                                    refine wl (wl_val hl rfl trivial (r_move hl rfl) ?_)
                                    clear hl a; intro a hl
                                    refine wl (wl_val hl rfl trivial (r_not hl rfl) ?_)
                                    clear hl a; intro a hl
                                    refine wl (wl_val hl rfl trivial (r_move hl rfl) ?_)
                                    clear hl a; intro a hl
                                    refine sl_split (t := 142) hl rfl ?_ ?_
                                    · intro hg23; clear hl; intro hl
                                      try simp only [decide_eq_true_eq, decide_eq_false_iff_not, Bool.not_eq_true', Bool.not_eq_false', Bool.not_eq_true, Bool.not_eq_false, Bool.and_eq_true, Bool.or_eq_true, Bool.and_eq_false_iff, Bool.or_eq_false_iff, Bool.not_not, ne_eq, Int.not_lt, Int.not_le, Decidable.not_not, beq_iff_eq, bne_iff_ne] at hg23
                                      refine wl (w_call hl hh rfl ⟨_, _, rfl, rfl, rfl⟩ rfl cal29 rfl (eqState_spec (g := g2) (B := 40 * ((z.i + 1 : Nat) : Int)) (Q := 400 * ((z.i + 1 : Nat) : Int)) ⟨by omega, by omega⟩ hG3 k10 k11 ev9 bv9 ev2 bv2 Ee9 Eb9 Ee2 Eb2 ((hF9 (by simpa using by assumption)).1 ▸ hSn9) hSn2) (by repeat (first | exact keeps_nil | apply keeps_cons (by repeat (first | exact find_head | apply find_tail | apply find_skip)) (by first  | rfl) | exact keeps_self | exact keeps_left | apply keeps_app | apply keeps_mv | apply keeps_skip)) ⟨(hF9 (by simpa using by assumption)).1 ▸ (memK (E := snL k10 g9 ev9 bv9 Ee9 Eb9) hh (by repeat (first | exact keeps_nil | apply keeps_cons (by repeat (first | exact find_head | apply find_tail | apply find_skip)) (by first  | rfl) | exact keeps_self | exact keeps_left | apply keeps_app | apply keeps_mv | apply keeps_skip))), memK (E := snL k11 g2 ev2 bv2 Ee2 Eb2) hh (by repeat (first | exact keeps_nil | apply keeps_cons (by repeat (first | exact find_head | apply find_tail | apply find_skip)) (by first  | rfl) | exact keeps_self | exact keeps_left | apply keeps_app | apply keeps_mv | apply keeps_skip))⟩ ?_)
                                      clear hl hh a w; intro vc Fc a w hR hl hh
                                      obtain ⟨rfl, rfl⟩ := hR
                                      try simp only [List.cons_append, List.nil_append, List.append_assoc, List.append_nil] at hh
                                      refine wl (wl_val hl rfl ⟨_, _, rfl, rfl, rfl⟩ (r_not hl rfl) ?_)
                                      clear hl a; intro a hl
                                      refine wl (wl_val hl rfl trivial (r_pickT hl rfl rfl) ?_)
                                      clear hl a; intro a hl
                                      refine w_nil ?_
                                      have hl2 := hl.add (t := 3) (hl.add (t := 17) (hl.add (t := 18) (hl.add (t := 19) (hl.add (t := 145) (hl.nil) rfl) rfl) rfl) rfl) rfl; clear hl; have hl := hl2; clear hl2
                                      refine then_normal ?_
                                      refine c_cond hl rfl ?_ ?_
                                      · intro hc3
                                        try simp only [decide_eq_true_eq, decide_eq_false_iff_not, Bool.not_eq_true', Bool.not_eq_false', Bool.not_eq_true, Bool.not_eq_false, Bool.and_eq_true, Bool.or_eq_true, Bool.and_eq_false_iff, Bool.or_eq_false_iff, Bool.not_not, ne_eq, Int.not_lt, Int.not_le, Decidable.not_not, beq_iff_eq, bne_iff_ne] at hc3
                                        exfalso; first | contradiction | exact abs10a (by assumption) hT9 (fun h => (hF9 h).2) | exact absurd (hF9 (by simpa using by assumption)).2 (by assumption)
                                      · intro hc3
                                        try simp only [decide_eq_true_eq, decide_eq_false_iff_not, Bool.not_eq_true', Bool.not_eq_false', Bool.not_eq_true, Bool.not_eq_false, Bool.and_eq_true, Bool.or_eq_true, Bool.and_eq_false_iff, Bool.or_eq_false_iff, Bool.not_not, ne_eq, Int.not_lt, Int.not_le, Decidable.not_not, beq_iff_eq, bne_iff_ne] at hc3
                                        refine wp_skip ?_
                                        refine blk_normal ?_
                                        refine then_normal ?_
                                        refine c_region ?_
                                        first | refine wl (wl_val hl rfl trivial (r_add hl rfl rfl (by simp only [Fits]; omega)) ?_) | refine wl (wl_val hl rfl trivial (r_addW hl rfl rfl) ?_)
                                        clear hl a; intro a hl
                                        refine wl (wl_val hl rfl trivial (r_move hl rfl) ?_)
                                        clear hl a; intro a hl
                                        refine w_nil ?_
                                        have hl2 := hl.add (t := 3) (hl.add (t := 17) (hl.add (t := 18) (hl.add (t := 19) (hl.nil) rfl) rfl) rfl) rfl; clear hl; have hl := hl2; clear hl2
                                        refine then_normal ?_
                                        refine ⟨⟨g2, M2, z.i + 1⟩, (by simp only; omega), ⟨by simp only; omega, hS2, hG3⟩, hl.addE (t := 19) (hl.addE (t := 3) (hl.addE (t := 17) (hl.addE (t := 18) (hl.nil) rfl (by first | rfl | (congr 1; omega))) rfl (by first | rfl | (congr 1; omega))) rfl (by first | rfl | (congr 1; omega))) rfl (by first | rfl | (congr 1; omega)), hh.keep (by repeat (first | exact keeps_nil | apply keeps_cons (by repeat (first | exact find_head | apply find_tail | apply find_skip)) (by first  | rfl) | exact keeps_self | exact keeps_left | apply keeps_app | apply keeps_mv | apply keeps_skip))⟩
                                    · intro hg23; clear hl; intro hl
                                      try simp only [decide_eq_true_eq, decide_eq_false_iff_not, Bool.not_eq_true', Bool.not_eq_false', Bool.not_eq_true, Bool.not_eq_false, Bool.and_eq_true, Bool.or_eq_true, Bool.and_eq_false_iff, Bool.or_eq_false_iff, Bool.not_not, ne_eq, Int.not_lt, Int.not_le, Decidable.not_not, beq_iff_eq, bne_iff_ne] at hg23
                                      refine wl (wl_skip hl rfl ⟨_, _, rfl, rfl, rfl⟩ ?_)
                                      clear hl a; intro a hl
                                      refine wl (wl_skip hl rfl ⟨_, _, rfl, rfl, rfl⟩ ?_)
                                      clear hl a; intro a hl
                                      refine wl (wl_val hl rfl trivial (r_pickF hl rfl rfl) ?_)
                                      clear hl a; intro a hl
                                      refine w_nil ?_
                                      have hl2 := hl.add (t := 3) (hl.add (t := 17) (hl.add (t := 18) (hl.add (t := 19) (hl.add (t := 145) (hl.nil) rfl) rfl) rfl) rfl) rfl; clear hl; have hl := hl2; clear hl2
                                      refine then_normal ?_
                                      refine c_condF hl rfl ?_
                                      refine wp_skip ?_
                                      refine blk_normal ?_
                                      refine then_normal ?_
                                      refine c_region ?_
                                      first | refine wl (wl_val hl rfl trivial (r_add hl rfl rfl (by simp only [Fits]; omega)) ?_) | refine wl (wl_val hl rfl trivial (r_addW hl rfl rfl) ?_)
                                      clear hl a; intro a hl
                                      refine wl (wl_val hl rfl trivial (r_move hl rfl) ?_)
                                      clear hl a; intro a hl
                                      refine w_nil ?_
                                      have hl2 := hl.add (t := 3) (hl.add (t := 17) (hl.add (t := 18) (hl.add (t := 19) (hl.nil) rfl) rfl) rfl) rfl; clear hl; have hl := hl2; clear hl2
                                      refine then_normal ?_
                                      refine ⟨⟨g2, M2, z.i + 1⟩, (by simp only; omega), ⟨by simp only; omega, hS2, hG3⟩, hl.addE (t := 19) (hl.addE (t := 3) (hl.addE (t := 17) (hl.addE (t := 18) (hl.nil) rfl (by first | rfl | (congr 1; omega))) rfl (by first | rfl | (congr 1; omega))) rfl (by first | rfl | (congr 1; omega))) rfl (by first | rfl | (congr 1; omega)), hh.keep (by repeat (first | exact keeps_nil | apply keeps_cons (by repeat (first | exact find_head | apply find_tail | apply find_skip)) (by first  | rfl) | exact keeps_self | exact keeps_left | apply keeps_app | apply keeps_mv | apply keeps_skip))⟩
                                · intro hg22; clear hl; intro hl
                                  try simp only [decide_eq_true_eq, decide_eq_false_iff_not, Bool.not_eq_true', Bool.not_eq_false', Bool.not_eq_true, Bool.not_eq_false, Bool.and_eq_true, Bool.or_eq_true, Bool.and_eq_false_iff, Bool.or_eq_false_iff, Bool.not_not, ne_eq, Int.not_lt, Int.not_le, Decidable.not_not, beq_iff_eq, bne_iff_ne] at hg22
                                  refine wl (wl_skip hl rfl ⟨_, _, rfl, rfl, rfl⟩ ?_)
                                  clear hl a; intro a hl
                                  refine wl (wl_skip hl rfl ⟨_, _, rfl, rfl, rfl⟩ ?_)
                                  clear hl a; intro a hl
                                  refine wl (wl_val hl rfl ⟨_, _, rfl, rfl, rfl⟩ (r_pickF hl rfl rfl) ?_)
                                  clear hl a; intro a hl
                                  refine wl (wl_val hl rfl trivial (r_pickF hl rfl rfl) ?_)
                                  clear hl a; intro a hl
                                  refine w_nil ?_
                                  have hl2 := hl.add (t := 3) (hl.add (t := 6) (hl.add (t := 9) (hl.add (t := 17) (hl.add (t := 18) (hl.add (t := 19) (hl.add (t := 135) (hl.nil) rfl) rfl) rfl) rfl) rfl) rfl) rfl; clear hl; have hl := hl2; clear hl2
                                  refine then_normal ?_
                                  refine c_condF hl rfl ?_
                                  refine wp_skip ?_
                                  refine then_normal ?_
                                  refine c_seq ?_
                                  refine c_region ?_
                                  refine wl (wl_val hl rfl trivial (r_move hl rfl) ?_)
                                  clear hl a; intro a hl
                                  refine wl (w_call hl hh rfl trivial rfl cal28 rfl (snap_spec hS9 bc (40 * ((z.i + 1 : Nat) : Int) + 1) (400 * ((z.i + 1 : Nat) : Int) + 4) ⟨by omega, by omega⟩ hG9) (by repeat (first | exact keeps_nil | apply keeps_cons (by repeat (first | exact find_head | apply find_tail | apply find_skip)) (by first  | rfl) | exact keeps_self | exact keeps_left | apply keeps_app | apply keeps_mv | apply keeps_skip)) (memK (E := sysL bc M9) hh (by repeat (first | exact keeps_nil | apply keeps_cons (by repeat (first | exact find_head | apply find_tail | apply find_skip)) (by first  | rfl) | exact keeps_self | exact keeps_left | apply keeps_app | apply keeps_mv | apply keeps_skip))) ?_)
                                  clear hl hh a w; intro vc Fc a w hR hl hh
                                  obtain ⟨ev9, bv9, Ee9, Eb9, rfl, hSn9, rfl⟩ := hR
                                  try simp only [List.cons_append, List.nil_append, List.append_assoc, List.append_nil] at hh
                                  refine wl (wl_val hl rfl trivial (r_move hl rfl) ?_)
                                  clear hl a; intro a hl
                                  refine wl (w_call hl hh rfl trivial rfl cal28 rfl (snap_spec hS2 bg (40 * ((z.i + 1 : Nat) : Int)) (400 * ((z.i + 1 : Nat) : Int)) ⟨by omega, by omega⟩ hG3) (by repeat (first | exact keeps_nil | apply keeps_cons (by repeat (first | exact find_head | apply find_tail | apply find_skip)) (by first  | rfl) | exact keeps_self | exact keeps_left | apply keeps_app | apply keeps_mv | apply keeps_skip)) (memK (E := sysL bg M2) hh (by repeat (first | exact keeps_nil | apply keeps_cons (by repeat (first | exact find_head | apply find_tail | apply find_skip)) (by first  | rfl) | exact keeps_self | exact keeps_left | apply keeps_app | apply keeps_mv | apply keeps_skip))) ?_)
                                  clear hl hh a w; intro vc Fc a w hR hl hh
                                  obtain ⟨ev2, bv2, Ee2, Eb2, rfl, hSn2, rfl⟩ := hR
                                  try simp only [List.cons_append, List.nil_append, List.append_assoc, List.append_nil] at hh
                                  refine wl (w_alloc hl hh rfl trivial zero75 rfl ?_)
                                  clear hl hh a w; intro k10 a w hl hh
                                  refine wl (w_alloc hl hh rfl trivial zero75 rfl ?_)
                                  clear hl hh a w; intro k11 a w hl hh
                                  refine wl (w_storeA hl hh trivial agg75 rfl rfl (by repeat (first | exact find_head | apply find_tail | apply find_skip)) (by exact snC_len _ _ _) (by first | exact Nat.le_of_eq (arrL_length _ _).symm | (rw [snC_len]; exact Nat.le_refl _)) (by first | exact snC_one hSn9 | exact snC_one hSn2) (by exact setL_whole (by first | rw [snC_len, arrL_length] | rw [snC_len, snC_len])) ?_)
                                  clear hh w; intro w hh
                                  refine wl (w_storeA hl hh trivial agg75 rfl rfl (by repeat (first | exact find_head | apply find_tail | apply find_skip)) (by exact snC_len _ _ _) (by first | exact Nat.le_of_eq (arrL_length _ _).symm | (rw [snC_len]; exact Nat.le_refl _)) (by first | exact snC_one hSn9 | exact snC_one hSn2) (by exact setL_whole (by first | rw [snC_len, arrL_length] | rw [snC_len, snC_len])) ?_)
                                  clear hh w; intro w hh
                                  refine w_nil ?_
                                  have hl2 := hl.add (t := 3) (hl.add (t := 9) (hl.add (t := 10) (hl.add (t := 11) (hl.add (t := 17) (hl.add (t := 18) (hl.add (t := 19) (hl.nil) rfl) rfl) rfl) rfl) rfl) rfl) rfl; clear hl; have hl := hl2; clear hl2
                                  refine then_normal ?_
                                  refine c_seq ?_
                                  refine c_region ?_
                                  refine wl (wl_val hl rfl trivial (r_move hl rfl) ?_)
                                  clear hl a; intro a hl
                                  refine wl (wl_val hl rfl trivial (r_not hl rfl) ?_)
                                  clear hl a; intro a hl
                                  refine wl (wl_val hl rfl trivial (r_move hl rfl) ?_)
                                  clear hl a; intro a hl
                                  refine sl_split (t := 142) hl rfl ?_ ?_
                                  · intro hg24; clear hl; intro hl
                                    try simp only [decide_eq_true_eq, decide_eq_false_iff_not, Bool.not_eq_true', Bool.not_eq_false', Bool.not_eq_true, Bool.not_eq_false, Bool.and_eq_true, Bool.or_eq_true, Bool.and_eq_false_iff, Bool.or_eq_false_iff, Bool.not_not, ne_eq, Int.not_lt, Int.not_le, Decidable.not_not, beq_iff_eq, bne_iff_ne] at hg24
                                    refine wl (w_call hl hh rfl ⟨_, _, rfl, rfl, rfl⟩ rfl cal29 rfl (eqState_spec (g := g2) (B := 40 * ((z.i + 1 : Nat) : Int)) (Q := 400 * ((z.i + 1 : Nat) : Int)) ⟨by omega, by omega⟩ hG3 k10 k11 ev9 bv9 ev2 bv2 Ee9 Eb9 Ee2 Eb2 ((hF9 (by simpa using by assumption)).1 ▸ hSn9) hSn2) (by repeat (first | exact keeps_nil | apply keeps_cons (by repeat (first | exact find_head | apply find_tail | apply find_skip)) (by first  | rfl) | exact keeps_self | exact keeps_left | apply keeps_app | apply keeps_mv | apply keeps_skip)) ⟨(hF9 (by simpa using by assumption)).1 ▸ (memK (E := snL k10 g9 ev9 bv9 Ee9 Eb9) hh (by repeat (first | exact keeps_nil | apply keeps_cons (by repeat (first | exact find_head | apply find_tail | apply find_skip)) (by first  | rfl) | exact keeps_self | exact keeps_left | apply keeps_app | apply keeps_mv | apply keeps_skip))), memK (E := snL k11 g2 ev2 bv2 Ee2 Eb2) hh (by repeat (first | exact keeps_nil | apply keeps_cons (by repeat (first | exact find_head | apply find_tail | apply find_skip)) (by first  | rfl) | exact keeps_self | exact keeps_left | apply keeps_app | apply keeps_mv | apply keeps_skip))⟩ ?_)
                                    clear hl hh a w; intro vc Fc a w hR hl hh
                                    obtain ⟨rfl, rfl⟩ := hR
                                    try simp only [List.cons_append, List.nil_append, List.append_assoc, List.append_nil] at hh
                                    refine wl (wl_val hl rfl ⟨_, _, rfl, rfl, rfl⟩ (r_not hl rfl) ?_)
                                    clear hl a; intro a hl
                                    refine wl (wl_val hl rfl trivial (r_pickT hl rfl rfl) ?_)
                                    clear hl a; intro a hl
                                    refine w_nil ?_
                                    have hl2 := hl.add (t := 3) (hl.add (t := 17) (hl.add (t := 18) (hl.add (t := 19) (hl.add (t := 145) (hl.nil) rfl) rfl) rfl) rfl) rfl; clear hl; have hl := hl2; clear hl2
                                    refine then_normal ?_
                                    refine c_cond hl rfl ?_ ?_
                                    · intro hc3
                                      try simp only [decide_eq_true_eq, decide_eq_false_iff_not, Bool.not_eq_true', Bool.not_eq_false', Bool.not_eq_true, Bool.not_eq_false, Bool.and_eq_true, Bool.or_eq_true, Bool.and_eq_false_iff, Bool.or_eq_false_iff, Bool.not_not, ne_eq, Int.not_lt, Int.not_le, Decidable.not_not, beq_iff_eq, bne_iff_ne] at hc3
                                      exfalso; first | contradiction | exact abs10a (by assumption) hT9 (fun h => (hF9 h).2) | exact absurd (hF9 (by simpa using by assumption)).2 (by assumption)
                                    · intro hc3
                                      try simp only [decide_eq_true_eq, decide_eq_false_iff_not, Bool.not_eq_true', Bool.not_eq_false', Bool.not_eq_true, Bool.not_eq_false, Bool.and_eq_true, Bool.or_eq_true, Bool.and_eq_false_iff, Bool.or_eq_false_iff, Bool.not_not, ne_eq, Int.not_lt, Int.not_le, Decidable.not_not, beq_iff_eq, bne_iff_ne] at hc3
                                      refine wp_skip ?_
                                      refine blk_normal ?_
                                      refine then_normal ?_
                                      refine c_region ?_
                                      first | refine wl (wl_val hl rfl trivial (r_add hl rfl rfl (by simp only [Fits]; omega)) ?_) | refine wl (wl_val hl rfl trivial (r_addW hl rfl rfl) ?_)
                                      clear hl a; intro a hl
                                      refine wl (wl_val hl rfl trivial (r_move hl rfl) ?_)
                                      clear hl a; intro a hl
                                      refine w_nil ?_
                                      have hl2 := hl.add (t := 3) (hl.add (t := 17) (hl.add (t := 18) (hl.add (t := 19) (hl.nil) rfl) rfl) rfl) rfl; clear hl; have hl := hl2; clear hl2
                                      refine then_normal ?_
                                      refine ⟨⟨g2, M2, z.i + 1⟩, (by simp only; omega), ⟨by simp only; omega, hS2, hG3⟩, hl.addE (t := 19) (hl.addE (t := 3) (hl.addE (t := 17) (hl.addE (t := 18) (hl.nil) rfl (by first | rfl | (congr 1; omega))) rfl (by first | rfl | (congr 1; omega))) rfl (by first | rfl | (congr 1; omega))) rfl (by first | rfl | (congr 1; omega)), hh.keep (by repeat (first | exact keeps_nil | apply keeps_cons (by repeat (first | exact find_head | apply find_tail | apply find_skip)) (by first  | rfl) | exact keeps_self | exact keeps_left | apply keeps_app | apply keeps_mv | apply keeps_skip))⟩
                                  · intro hg24; clear hl; intro hl
                                    try simp only [decide_eq_true_eq, decide_eq_false_iff_not, Bool.not_eq_true', Bool.not_eq_false', Bool.not_eq_true, Bool.not_eq_false, Bool.and_eq_true, Bool.or_eq_true, Bool.and_eq_false_iff, Bool.or_eq_false_iff, Bool.not_not, ne_eq, Int.not_lt, Int.not_le, Decidable.not_not, beq_iff_eq, bne_iff_ne] at hg24
                                    refine wl (wl_skip hl rfl ⟨_, _, rfl, rfl, rfl⟩ ?_)
                                    clear hl a; intro a hl
                                    refine wl (wl_skip hl rfl ⟨_, _, rfl, rfl, rfl⟩ ?_)
                                    clear hl a; intro a hl
                                    refine wl (wl_val hl rfl trivial (r_pickF hl rfl rfl) ?_)
                                    clear hl a; intro a hl
                                    refine w_nil ?_
                                    have hl2 := hl.add (t := 3) (hl.add (t := 17) (hl.add (t := 18) (hl.add (t := 19) (hl.add (t := 145) (hl.nil) rfl) rfl) rfl) rfl) rfl; clear hl; have hl := hl2; clear hl2
                                    refine then_normal ?_
                                    refine c_condF hl rfl ?_
                                    refine wp_skip ?_
                                    refine blk_normal ?_
                                    refine then_normal ?_
                                    refine c_region ?_
                                    first | refine wl (wl_val hl rfl trivial (r_add hl rfl rfl (by simp only [Fits]; omega)) ?_) | refine wl (wl_val hl rfl trivial (r_addW hl rfl rfl) ?_)
                                    clear hl a; intro a hl
                                    refine wl (wl_val hl rfl trivial (r_move hl rfl) ?_)
                                    clear hl a; intro a hl
                                    refine w_nil ?_
                                    have hl2 := hl.add (t := 3) (hl.add (t := 17) (hl.add (t := 18) (hl.add (t := 19) (hl.nil) rfl) rfl) rfl) rfl; clear hl; have hl := hl2; clear hl2
                                    refine then_normal ?_
                                    refine ⟨⟨g2, M2, z.i + 1⟩, (by simp only; omega), ⟨by simp only; omega, hS2, hG3⟩, hl.addE (t := 19) (hl.addE (t := 3) (hl.addE (t := 17) (hl.addE (t := 18) (hl.nil) rfl (by first | rfl | (congr 1; omega))) rfl (by first | rfl | (congr 1; omega))) rfl (by first | rfl | (congr 1; omega))) rfl (by first | rfl | (congr 1; omega)), hh.keep (by repeat (first | exact keeps_nil | apply keeps_cons (by repeat (first | exact find_head | apply find_tail | apply find_skip)) (by first  | rfl) | exact keeps_self | exact keeps_left | apply keeps_app | apply keeps_mv | apply keeps_skip))⟩
                            · intro hg20; clear hl; intro hl
                              try simp only [decide_eq_true_eq, decide_eq_false_iff_not, Bool.not_eq_true', Bool.not_eq_false', Bool.not_eq_true, Bool.not_eq_false, Bool.and_eq_true, Bool.or_eq_true, Bool.and_eq_false_iff, Bool.or_eq_false_iff, Bool.not_not, ne_eq, Int.not_lt, Int.not_le, Decidable.not_not, beq_iff_eq, bne_iff_ne] at hg20
                              refine wl (wl_skip hl rfl ⟨_, _, rfl, rfl, rfl⟩ ?_)
                              clear hl a; intro a hl
                              refine wl (wl_skip hl rfl ⟨_, _, rfl, rfl, rfl⟩ ?_)
                              clear hl a; intro a hl
                              refine wl (wl_skip hl rfl ⟨_, _, rfl, rfl, rfl⟩ ?_)
                              clear hl a; intro a hl
                              refine wl (wl_val hl rfl ⟨_, _, rfl, rfl, rfl⟩ (r_pickF hl rfl rfl) ?_)
                              clear hl a; intro a hl
                              refine wl (wl_val hl rfl ⟨_, _, rfl, rfl, rfl⟩ (r_pickF hl rfl rfl) ?_)
                              clear hl a; intro a hl
                              refine wl (wl_val hl rfl trivial (r_pickT hl rfl rfl) ?_)
                              clear hl a; intro a hl
                              refine wl (wl_val hl rfl trivial (r_assign hl rfl) ?_)
                              clear hl a; intro a hl
                              refine w_nil ?_
                              have hl2 := hl.add (t := 3) (hl.add (t := 6) (hl.add (t := 8) (hl.add (t := 9) (hl.add (t := 17) (hl.add (t := 18) (hl.add (t := 19) (hl.nil) rfl) rfl) rfl) rfl) rfl) rfl) rfl; clear hl; have hl := hl2; clear hl2
                              have hl9 := hl.addE (t := 9) hl rfl (congrArg Value.bool (dec10b hok (by unfold S10; first | (simp only [true_iff, Bool.false_eq_true, false_iff]; omega) | (rw [decide_eq_true_eq]; omega))))
                              rw [← hsd9] at hl9
                              clear hl
                              have hl := hl9
                              clear hl9
                              try clear hg1; try clear hg2
                              refine then_normal ?_
                              refine c_seq ?_
                              refine c_seq ?_
                              refine c_region ?_
                              refine wl (wl_val hl rfl trivial (r_move hl rfl) ?_)
                              clear hl a; intro a hl
                              refine wl (wl_val hl rfl trivial (r_move hl rfl) ?_)
                              clear hl a; intro a hl
                              refine wl (wl_val hl rfl trivial (r_eql hl rfl rfl) ?_)
                              clear hl a; intro a hl
                              refine wl (wl_val hl rfl trivial (r_neq_bool hl rfl rfl Tryd.underlying4) ?_)
                              clear hl a; intro a hl
                              refine wl (wl_val hl rfl trivial (r_move hl rfl) ?_)
                              clear hl a; intro a hl
                              refine sl_split (t := 128) hl rfl ?_ ?_
                              · intro hg25; clear hl; intro hl
                                try simp only [decide_eq_true_eq, decide_eq_false_iff_not, Bool.not_eq_true', Bool.not_eq_false', Bool.not_eq_true, Bool.not_eq_false, Bool.and_eq_true, Bool.or_eq_true, Bool.and_eq_false_iff, Bool.or_eq_false_iff, Bool.not_not, ne_eq, Int.not_lt, Int.not_le, Decidable.not_not, beq_iff_eq, bne_iff_ne] at hg25
                                exfalso; first | contradiction | exact abs10a (by assumption) hT9 (fun h => (hF9 h).2) | exact absurd (hF9 (by simpa using by assumption)).2 (by assumption)
                              · intro hg25; clear hl; intro hl
                                try simp only [decide_eq_true_eq, decide_eq_false_iff_not, Bool.not_eq_true', Bool.not_eq_false', Bool.not_eq_true, Bool.not_eq_false, Bool.and_eq_true, Bool.or_eq_true, Bool.and_eq_false_iff, Bool.or_eq_false_iff, Bool.not_not, ne_eq, Int.not_lt, Int.not_le, Decidable.not_not, beq_iff_eq, bne_iff_ne] at hg25
                                refine wl (wl_val hl rfl ⟨_, _, rfl, rfl, rfl⟩ (r_move hl rfl) ?_)
                                clear hl a; intro a hl
                                refine wl (wl_val hl rfl ⟨_, _, rfl, rfl, rfl⟩ (r_not hl rfl) ?_)
                                clear hl a; intro a hl
                                refine wl (wl_val hl rfl ⟨_, _, rfl, rfl, rfl⟩ (r_move hl rfl) ?_)
                                clear hl a; intro a hl
                                refine sl_split (t := 131) hl rfl ?_ ?_
                                · intro hg26; clear hl; intro hl
                                  try simp only [decide_eq_true_eq, decide_eq_false_iff_not, Bool.not_eq_true', Bool.not_eq_false', Bool.not_eq_true, Bool.not_eq_false, Bool.and_eq_true, Bool.or_eq_true, Bool.and_eq_false_iff, Bool.or_eq_false_iff, Bool.not_not, ne_eq, Int.not_lt, Int.not_le, Decidable.not_not, beq_iff_eq, bne_iff_ne] at hg26
                                  refine wl (wl_val hl rfl ⟨_, _, rfl, rfl, rfl⟩ (r_move hl rfl) ?_)
                                  clear hl a; intro a hl
                                  refine wl (wl_val hl rfl ⟨_, _, rfl, rfl, rfl⟩ (r_neq hl rfl rfl) ?_)
                                  clear hl a; intro a hl
                                  refine wl (wl_val hl rfl ⟨_, _, rfl, rfl, rfl⟩ (r_pickT hl rfl rfl) ?_)
                                  clear hl a; intro a hl
                                  refine wl (wl_val hl rfl trivial (r_pickF hl rfl rfl) ?_)
                                  clear hl a; intro a hl
                                  refine w_nil ?_
                                  have hl2 := hl.add (t := 3) (hl.add (t := 6) (hl.add (t := 9) (hl.add (t := 17) (hl.add (t := 18) (hl.add (t := 19) (hl.add (t := 135) (hl.nil) rfl) rfl) rfl) rfl) rfl) rfl) rfl; clear hl; have hl := hl2; clear hl2
                                  refine then_normal ?_
                                  refine c_cond hl rfl ?_ ?_
                                  · intro hc2
                                    try simp only [decide_eq_true_eq, decide_eq_false_iff_not, Bool.not_eq_true', Bool.not_eq_false', Bool.not_eq_true, Bool.not_eq_false, Bool.and_eq_true, Bool.or_eq_true, Bool.and_eq_false_iff, Bool.or_eq_false_iff, Bool.not_not, ne_eq, Int.not_lt, Int.not_le, Decidable.not_not, beq_iff_eq, bne_iff_ne] at hc2
                                    exfalso; first | contradiction | exact abs10a (by assumption) hT9 (fun h => (hF9 h).2) | exact absurd (hF9 (by simpa using by assumption)).2 (by assumption)
                                  · intro hc2
                                    try simp only [decide_eq_true_eq, decide_eq_false_iff_not, Bool.not_eq_true', Bool.not_eq_false', Bool.not_eq_true, Bool.not_eq_false, Bool.and_eq_true, Bool.or_eq_true, Bool.and_eq_false_iff, Bool.or_eq_false_iff, Bool.not_not, ne_eq, Int.not_lt, Int.not_le, Decidable.not_not, beq_iff_eq, bne_iff_ne] at hc2
                                    refine wp_skip ?_
                                    refine then_normal ?_
                                    refine c_seq ?_
                                    refine c_region ?_
                                    refine wl (wl_val hl rfl trivial (r_move hl rfl) ?_)
                                    clear hl a; intro a hl
                                    refine wl (w_call hl hh rfl trivial rfl cal28 rfl (snap_spec hS9 bc (40 * ((z.i + 1 : Nat) : Int) + 1) (400 * ((z.i + 1 : Nat) : Int) + 4) ⟨by omega, by omega⟩ hG9) (by repeat (first | exact keeps_nil | apply keeps_cons (by repeat (first | exact find_head | apply find_tail | apply find_skip)) (by first  | rfl) | exact keeps_self | exact keeps_left | apply keeps_app | apply keeps_mv | apply keeps_skip)) (memK (E := sysL bc M9) hh (by repeat (first | exact keeps_nil | apply keeps_cons (by repeat (first | exact find_head | apply find_tail | apply find_skip)) (by first  | rfl) | exact keeps_self | exact keeps_left | apply keeps_app | apply keeps_mv | apply keeps_skip))) ?_)
                                    clear hl hh a w; intro vc Fc a w hR hl hh
                                    obtain ⟨ev9, bv9, Ee9, Eb9, rfl, hSn9, rfl⟩ := hR
                                    try simp only [List.cons_append, List.nil_append, List.append_assoc, List.append_nil] at hh
                                    refine wl (wl_val hl rfl trivial (r_move hl rfl) ?_)
                                    clear hl a; intro a hl
                                    refine wl (w_call hl hh rfl trivial rfl cal28 rfl (snap_spec hS2 bg (40 * ((z.i + 1 : Nat) : Int)) (400 * ((z.i + 1 : Nat) : Int)) ⟨by omega, by omega⟩ hG3) (by repeat (first | exact keeps_nil | apply keeps_cons (by repeat (first | exact find_head | apply find_tail | apply find_skip)) (by first  | rfl) | exact keeps_self | exact keeps_left | apply keeps_app | apply keeps_mv | apply keeps_skip)) (memK (E := sysL bg M2) hh (by repeat (first | exact keeps_nil | apply keeps_cons (by repeat (first | exact find_head | apply find_tail | apply find_skip)) (by first  | rfl) | exact keeps_self | exact keeps_left | apply keeps_app | apply keeps_mv | apply keeps_skip))) ?_)
                                    clear hl hh a w; intro vc Fc a w hR hl hh
                                    obtain ⟨ev2, bv2, Ee2, Eb2, rfl, hSn2, rfl⟩ := hR
                                    try simp only [List.cons_append, List.nil_append, List.append_assoc, List.append_nil] at hh
                                    refine wl (w_alloc hl hh rfl trivial zero75 rfl ?_)
                                    clear hl hh a w; intro k10 a w hl hh
                                    refine wl (w_alloc hl hh rfl trivial zero75 rfl ?_)
                                    clear hl hh a w; intro k11 a w hl hh
                                    refine wl (w_storeA hl hh trivial agg75 rfl rfl (by repeat (first | exact find_head | apply find_tail | apply find_skip)) (by exact snC_len _ _ _) (by first | exact Nat.le_of_eq (arrL_length _ _).symm | (rw [snC_len]; exact Nat.le_refl _)) (by first | exact snC_one hSn9 | exact snC_one hSn2) (by exact setL_whole (by first | rw [snC_len, arrL_length] | rw [snC_len, snC_len])) ?_)
                                    clear hh w; intro w hh
                                    refine wl (w_storeA hl hh trivial agg75 rfl rfl (by repeat (first | exact find_head | apply find_tail | apply find_skip)) (by exact snC_len _ _ _) (by first | exact Nat.le_of_eq (arrL_length _ _).symm | (rw [snC_len]; exact Nat.le_refl _)) (by first | exact snC_one hSn9 | exact snC_one hSn2) (by exact setL_whole (by first | rw [snC_len, arrL_length] | rw [snC_len, snC_len])) ?_)
                                    clear hh w; intro w hh
                                    refine w_nil ?_
                                    have hl2 := hl.add (t := 3) (hl.add (t := 9) (hl.add (t := 10) (hl.add (t := 11) (hl.add (t := 17) (hl.add (t := 18) (hl.add (t := 19) (hl.nil) rfl) rfl) rfl) rfl) rfl) rfl) rfl; clear hl; have hl := hl2; clear hl2
                                    refine then_normal ?_
                                    refine c_seq ?_
                                    refine c_region ?_
                                    refine wl (wl_val hl rfl trivial (r_move hl rfl) ?_)
                                    clear hl a; intro a hl
                                    refine wl (wl_val hl rfl trivial (r_not hl rfl) ?_)
                                    clear hl a; intro a hl
                                    refine wl (wl_val hl rfl trivial (r_move hl rfl) ?_)
                                    clear hl a; intro a hl
                                    refine sl_split (t := 142) hl rfl ?_ ?_
                                    · intro hg27; clear hl; intro hl
                                      try simp only [decide_eq_true_eq, decide_eq_false_iff_not, Bool.not_eq_true', Bool.not_eq_false', Bool.not_eq_true, Bool.not_eq_false, Bool.and_eq_true, Bool.or_eq_true, Bool.and_eq_false_iff, Bool.or_eq_false_iff, Bool.not_not, ne_eq, Int.not_lt, Int.not_le, Decidable.not_not, beq_iff_eq, bne_iff_ne] at hg27
                                      refine wl (w_call hl hh rfl ⟨_, _, rfl, rfl, rfl⟩ rfl cal29 rfl (eqState_spec (g := g2) (B := 40 * ((z.i + 1 : Nat) : Int)) (Q := 400 * ((z.i + 1 : Nat) : Int)) ⟨by omega, by omega⟩ hG3 k10 k11 ev9 bv9 ev2 bv2 Ee9 Eb9 Ee2 Eb2 ((hF9 (by simpa using by assumption)).1 ▸ hSn9) hSn2) (by repeat (first | exact keeps_nil | apply keeps_cons (by repeat (first | exact find_head | apply find_tail | apply find_skip)) (by first  | rfl) | exact keeps_self | exact keeps_left | apply keeps_app | apply keeps_mv | apply keeps_skip)) ⟨(hF9 (by simpa using by assumption)).1 ▸ (memK (E := snL k10 g9 ev9 bv9 Ee9 Eb9) hh (by repeat (first | exact keeps_nil | apply keeps_cons (by repeat (first | exact find_head | apply find_tail | apply find_skip)) (by first  | rfl) | exact keeps_self | exact keeps_left | apply keeps_app | apply keeps_mv | apply keeps_skip))), memK (E := snL k11 g2 ev2 bv2 Ee2 Eb2) hh (by repeat (first | exact keeps_nil | apply keeps_cons (by repeat (first | exact find_head | apply find_tail | apply find_skip)) (by first  | rfl) | exact keeps_self | exact keeps_left | apply keeps_app | apply keeps_mv | apply keeps_skip))⟩ ?_)
                                      clear hl hh a w; intro vc Fc a w hR hl hh
                                      obtain ⟨rfl, rfl⟩ := hR
                                      try simp only [List.cons_append, List.nil_append, List.append_assoc, List.append_nil] at hh
                                      refine wl (wl_val hl rfl ⟨_, _, rfl, rfl, rfl⟩ (r_not hl rfl) ?_)
                                      clear hl a; intro a hl
                                      refine wl (wl_val hl rfl trivial (r_pickT hl rfl rfl) ?_)
                                      clear hl a; intro a hl
                                      refine w_nil ?_
                                      have hl2 := hl.add (t := 3) (hl.add (t := 17) (hl.add (t := 18) (hl.add (t := 19) (hl.add (t := 145) (hl.nil) rfl) rfl) rfl) rfl) rfl; clear hl; have hl := hl2; clear hl2
                                      refine then_normal ?_
                                      refine c_cond hl rfl ?_ ?_
                                      · intro hc3
                                        try simp only [decide_eq_true_eq, decide_eq_false_iff_not, Bool.not_eq_true', Bool.not_eq_false', Bool.not_eq_true, Bool.not_eq_false, Bool.and_eq_true, Bool.or_eq_true, Bool.and_eq_false_iff, Bool.or_eq_false_iff, Bool.not_not, ne_eq, Int.not_lt, Int.not_le, Decidable.not_not, beq_iff_eq, bne_iff_ne] at hc3
                                        exfalso; first | contradiction | exact abs10a (by assumption) hT9 (fun h => (hF9 h).2) | exact absurd (hF9 (by simpa using by assumption)).2 (by assumption)
                                      · intro hc3
                                        try simp only [decide_eq_true_eq, decide_eq_false_iff_not, Bool.not_eq_true', Bool.not_eq_false', Bool.not_eq_true, Bool.not_eq_false, Bool.and_eq_true, Bool.or_eq_true, Bool.and_eq_false_iff, Bool.or_eq_false_iff, Bool.not_not, ne_eq, Int.not_lt, Int.not_le, Decidable.not_not, beq_iff_eq, bne_iff_ne] at hc3
                                        refine wp_skip ?_
                                        refine blk_normal ?_
                                        refine then_normal ?_
                                        refine c_region ?_
                                        first | refine wl (wl_val hl rfl trivial (r_add hl rfl rfl (by simp only [Fits]; omega)) ?_) | refine wl (wl_val hl rfl trivial (r_addW hl rfl rfl) ?_)
                                        clear hl a; intro a hl
                                        refine wl (wl_val hl rfl trivial (r_move hl rfl) ?_)
                                        clear hl a; intro a hl
                                        refine w_nil ?_
                                        have hl2 := hl.add (t := 3) (hl.add (t := 17) (hl.add (t := 18) (hl.add (t := 19) (hl.nil) rfl) rfl) rfl) rfl; clear hl; have hl := hl2; clear hl2
                                        refine then_normal ?_
                                        refine ⟨⟨g2, M2, z.i + 1⟩, (by simp only; omega), ⟨by simp only; omega, hS2, hG3⟩, hl.addE (t := 19) (hl.addE (t := 3) (hl.addE (t := 17) (hl.addE (t := 18) (hl.nil) rfl (by first | rfl | (congr 1; omega))) rfl (by first | rfl | (congr 1; omega))) rfl (by first | rfl | (congr 1; omega))) rfl (by first | rfl | (congr 1; omega)), hh.keep (by repeat (first | exact keeps_nil | apply keeps_cons (by repeat (first | exact find_head | apply find_tail | apply find_skip)) (by first  | rfl) | exact keeps_self | exact keeps_left | apply keeps_app | apply keeps_mv | apply keeps_skip))⟩
                                    · intro hg27; clear hl; intro hl
                                      try simp only [decide_eq_true_eq, decide_eq_false_iff_not, Bool.not_eq_true', Bool.not_eq_false', Bool.not_eq_true, Bool.not_eq_false, Bool.and_eq_true, Bool.or_eq_true, Bool.and_eq_false_iff, Bool.or_eq_false_iff, Bool.not_not, ne_eq, Int.not_lt, Int.not_le, Decidable.not_not, beq_iff_eq, bne_iff_ne] at hg27
                                      refine wl (wl_skip hl rfl ⟨_, _, rfl, rfl, rfl⟩ ?_)
                                      clear hl a; intro a hl
                                      refine wl (wl_skip hl rfl ⟨_, _, rfl, rfl, rfl⟩ ?_)
                                      clear hl a; intro a hl
                                      refine wl (wl_val hl rfl trivial (r_pickF hl rfl rfl) ?_)
                                      clear hl a; intro a hl
                                      refine w_nil ?_
                                      have hl2 := hl.add (t := 3) (hl.add (t := 17) (hl.add (t := 18) (hl.add (t := 19) (hl.add (t := 145) (hl.nil) rfl) rfl) rfl) rfl) rfl; clear hl; have hl := hl2; clear hl2
                                      refine then_normal ?_
                                      refine c_condF hl rfl ?_
                                      refine wp_skip ?_
                                      refine blk_normal ?_
                                      refine then_normal ?_
                                      refine c_region ?_
                                      first | refine wl (wl_val hl rfl trivial (r_add hl rfl rfl (by simp only [Fits]; omega)) ?_) | refine wl (wl_val hl rfl trivial (r_addW hl rfl rfl) ?_)
                                      clear hl a; intro a hl
                                      refine wl (wl_val hl rfl trivial (r_move hl rfl) ?_)
                                      clear hl a; intro a hl
                                      refine w_nil ?_
                                      have hl2 := hl.add (t := 3) (hl.add (t := 17) (hl.add (t := 18) (hl.add (t := 19) (hl.nil) rfl) rfl) rfl) rfl; clear hl; have hl := hl2; clear hl2
                                      refine then_normal ?_
                                      refine ⟨⟨g2, M2, z.i + 1⟩, (by simp only; omega), ⟨by simp only; omega, hS2, hG3⟩, hl.addE (t := 19) (hl.addE (t := 3) (hl.addE (t := 17) (hl.addE (t := 18) (hl.nil) rfl (by first | rfl | (congr 1; omega))) rfl (by first | rfl | (congr 1; omega))) rfl (by first | rfl | (congr 1; omega))) rfl (by first | rfl | (congr 1; omega)), hh.keep (by repeat (first | exact keeps_nil | apply keeps_cons (by repeat (first | exact find_head | apply find_tail | apply find_skip)) (by first  | rfl) | exact keeps_self | exact keeps_left | apply keeps_app | apply keeps_mv | apply keeps_skip))⟩
                                · intro hg26; clear hl; intro hl
                                  try simp only [decide_eq_true_eq, decide_eq_false_iff_not, Bool.not_eq_true', Bool.not_eq_false', Bool.not_eq_true, Bool.not_eq_false, Bool.and_eq_true, Bool.or_eq_true, Bool.and_eq_false_iff, Bool.or_eq_false_iff, Bool.not_not, ne_eq, Int.not_lt, Int.not_le, Decidable.not_not, beq_iff_eq, bne_iff_ne] at hg26
                                  refine wl (wl_skip hl rfl ⟨_, _, rfl, rfl, rfl⟩ ?_)
                                  clear hl a; intro a hl
                                  refine wl (wl_skip hl rfl ⟨_, _, rfl, rfl, rfl⟩ ?_)
                                  clear hl a; intro a hl
                                  refine wl (wl_val hl rfl ⟨_, _, rfl, rfl, rfl⟩ (r_pickF hl rfl rfl) ?_)
                                  clear hl a; intro a hl
                                  refine wl (wl_val hl rfl trivial (r_pickF hl rfl rfl) ?_)
                                  clear hl a; intro a hl
                                  refine w_nil ?_
                                  have hl2 := hl.add (t := 3) (hl.add (t := 6) (hl.add (t := 9) (hl.add (t := 17) (hl.add (t := 18) (hl.add (t := 19) (hl.add (t := 135) (hl.nil) rfl) rfl) rfl) rfl) rfl) rfl) rfl; clear hl; have hl := hl2; clear hl2
                                  refine then_normal ?_
                                  refine c_condF hl rfl ?_
                                  refine wp_skip ?_
                                  refine then_normal ?_
                                  refine c_seq ?_
                                  refine c_region ?_
                                  refine wl (wl_val hl rfl trivial (r_move hl rfl) ?_)
                                  clear hl a; intro a hl
                                  refine wl (w_call hl hh rfl trivial rfl cal28 rfl (snap_spec hS9 bc (40 * ((z.i + 1 : Nat) : Int) + 1) (400 * ((z.i + 1 : Nat) : Int) + 4) ⟨by omega, by omega⟩ hG9) (by repeat (first | exact keeps_nil | apply keeps_cons (by repeat (first | exact find_head | apply find_tail | apply find_skip)) (by first  | rfl) | exact keeps_self | exact keeps_left | apply keeps_app | apply keeps_mv | apply keeps_skip)) (memK (E := sysL bc M9) hh (by repeat (first | exact keeps_nil | apply keeps_cons (by repeat (first | exact find_head | apply find_tail | apply find_skip)) (by first  | rfl) | exact keeps_self | exact keeps_left | apply keeps_app | apply keeps_mv | apply keeps_skip))) ?_)
                                  clear hl hh a w; intro vc Fc a w hR hl hh
                                  obtain ⟨ev9, bv9, Ee9, Eb9, rfl, hSn9, rfl⟩ := hR
                                  try simp only [List.cons_append, List.nil_append, List.append_assoc, List.append_nil] at hh
                                  refine wl (wl_val hl rfl trivial (r_move hl rfl) ?_)
                                  clear hl a; intro a hl
                                  refine wl (w_call hl hh rfl trivial rfl cal28 rfl (snap_spec hS2 bg (40 * ((z.i + 1 : Nat) : Int)) (400 * ((z.i + 1 : Nat) : Int)) ⟨by omega, by omega⟩ hG3) (by repeat (first | exact keeps_nil | apply keeps_cons (by repeat (first | exact find_head | apply find_tail | apply find_skip)) (by first  | rfl) | exact keeps_self | exact keeps_left | apply keeps_app | apply keeps_mv | apply keeps_skip)) (memK (E := sysL bg M2) hh (by repeat (first | exact keeps_nil | apply keeps_cons (by repeat (first | exact find_head | apply find_tail | apply find_skip)) (by first  | rfl) | exact keeps_self | exact keeps_left | apply keeps_app | apply keeps_mv | apply keeps_skip))) ?_)
                                  clear hl hh a w; intro vc Fc a w hR hl hh
                                  obtain ⟨ev2, bv2, Ee2, Eb2, rfl, hSn2, rfl⟩ := hR
                                  try simp only [List.cons_append, List.nil_append, List.append_assoc, List.append_nil] at hh
                                  refine wl (w_alloc hl hh rfl trivial zero75 rfl ?_)
                                  clear hl hh a w; intro k10 a w hl hh
                                  refine wl (w_alloc hl hh rfl trivial zero75 rfl ?_)
                                  clear hl hh a w; intro k11 a w hl hh
                                  refine wl (w_storeA hl hh trivial agg75 rfl rfl (by repeat (first | exact find_head | apply find_tail | apply find_skip)) (by exact snC_len _ _ _) (by first | exact Nat.le_of_eq (arrL_length _ _).symm | (rw [snC_len]; exact Nat.le_refl _)) (by first | exact snC_one hSn9 | exact snC_one hSn2) (by exact setL_whole (by first | rw [snC_len, arrL_length] | rw [snC_len, snC_len])) ?_)
                                  clear hh w; intro w hh
                                  refine wl (w_storeA hl hh trivial agg75 rfl rfl (by repeat (first | exact find_head | apply find_tail | apply find_skip)) (by exact snC_len _ _ _) (by first | exact Nat.le_of_eq (arrL_length _ _).symm | (rw [snC_len]; exact Nat.le_refl _)) (by first | exact snC_one hSn9 | exact snC_one hSn2) (by exact setL_whole (by first | rw [snC_len, arrL_length] | rw [snC_len, snC_len])) ?_)
                                  clear hh w; intro w hh
                                  refine w_nil ?_
                                  have hl2 := hl.add (t := 3) (hl.add (t := 9) (hl.add (t := 10) (hl.add (t := 11) (hl.add (t := 17) (hl.add (t := 18) (hl.add (t := 19) (hl.nil) rfl) rfl) rfl) rfl) rfl) rfl) rfl; clear hl; have hl := hl2; clear hl2
                                  refine then_normal ?_
                                  refine c_seq ?_
                                  refine c_region ?_
                                  refine wl (wl_val hl rfl trivial (r_move hl rfl) ?_)
                                  clear hl a; intro a hl
                                  refine wl (wl_val hl rfl trivial (r_not hl rfl) ?_)
                                  clear hl a; intro a hl
                                  refine wl (wl_val hl rfl trivial (r_move hl rfl) ?_)
                                  clear hl a; intro a hl
                                  refine sl_split (t := 142) hl rfl ?_ ?_
                                  · intro hg28; clear hl; intro hl
                                    try simp only [decide_eq_true_eq, decide_eq_false_iff_not, Bool.not_eq_true', Bool.not_eq_false', Bool.not_eq_true, Bool.not_eq_false, Bool.and_eq_true, Bool.or_eq_true, Bool.and_eq_false_iff, Bool.or_eq_false_iff, Bool.not_not, ne_eq, Int.not_lt, Int.not_le, Decidable.not_not, beq_iff_eq, bne_iff_ne] at hg28
                                    refine wl (w_call hl hh rfl ⟨_, _, rfl, rfl, rfl⟩ rfl cal29 rfl (eqState_spec (g := g2) (B := 40 * ((z.i + 1 : Nat) : Int)) (Q := 400 * ((z.i + 1 : Nat) : Int)) ⟨by omega, by omega⟩ hG3 k10 k11 ev9 bv9 ev2 bv2 Ee9 Eb9 Ee2 Eb2 ((hF9 (by simpa using by assumption)).1 ▸ hSn9) hSn2) (by repeat (first | exact keeps_nil | apply keeps_cons (by repeat (first | exact find_head | apply find_tail | apply find_skip)) (by first  | rfl) | exact keeps_self | exact keeps_left | apply keeps_app | apply keeps_mv | apply keeps_skip)) ⟨(hF9 (by simpa using by assumption)).1 ▸ (memK (E := snL k10 g9 ev9 bv9 Ee9 Eb9) hh (by repeat (first | exact keeps_nil | apply keeps_cons (by repeat (first | exact find_head | apply find_tail | apply find_skip)) (by first  | rfl) | exact keeps_self | exact keeps_left | apply keeps_app | apply keeps_mv | apply keeps_skip))), memK (E := snL k11 g2 ev2 bv2 Ee2 Eb2) hh (by repeat (first | exact keeps_nil | apply keeps_cons (by repeat (first | exact find_head | apply find_tail | apply find_skip)) (by first  | rfl) | exact keeps_self | exact keeps_left | apply keeps_app | apply keeps_mv | apply keeps_skip))⟩ ?_)
                                    clear hl hh a w; intro vc Fc a w hR hl hh
                                    obtain ⟨rfl, rfl⟩ := hR
                                    try simp only [List.cons_append, List.nil_append, List.append_assoc, List.append_nil] at hh
                                    refine wl (wl_val hl rfl ⟨_, _, rfl, rfl, rfl⟩ (r_not hl rfl) ?_)
                                    clear hl a; intro a hl
                                    refine wl (wl_val hl rfl trivial (r_pickT hl rfl rfl) ?_)
                                    clear hl a; intro a hl
                                    refine w_nil ?_
                                    have hl2 := hl.add (t := 3) (hl.add (t := 17) (hl.add (t := 18) (hl.add (t := 19) (hl.add (t := 145) (hl.nil) rfl) rfl) rfl) rfl) rfl; clear hl; have hl := hl2; clear hl2
                                    refine then_normal ?_
                                    refine c_cond hl rfl ?_ ?_
                                    · intro hc3
                                      try simp only [decide_eq_true_eq, decide_eq_false_iff_not, Bool.not_eq_true', Bool.not_eq_false', Bool.not_eq_true, Bool.not_eq_false, Bool.and_eq_true, Bool.or_eq_true, Bool.and_eq_false_iff, Bool.or_eq_false_iff, Bool.not_not, ne_eq, Int.not_lt, Int.not_le, Decidable.not_not, beq_iff_eq, bne_iff_ne] at hc3
                                      exfalso; first | contradiction | exact abs10a (by assumption) hT9 (fun h => (hF9 h).2) | exact absurd (hF9 (by simpa using by assumption)).2 (by assumption)
                                    · intro hc3
                                      try simp only [decide_eq_true_eq, decide_eq_false_iff_not, Bool.not_eq_true', Bool.not_eq_false', Bool.not_eq_true, Bool.not_eq_false, Bool.and_eq_true, Bool.or_eq_true, Bool.and_eq_false_iff, Bool.or_eq_false_iff, Bool.not_not, ne_eq, Int.not_lt, Int.not_le, Decidable.not_not, beq_iff_eq, bne_iff_ne] at hc3
                                      refine wp_skip ?_
                                      refine blk_normal ?_
                                      refine then_normal ?_
                                      refine c_region ?_
                                      first | refine wl (wl_val hl rfl trivial (r_add hl rfl rfl (by simp only [Fits]; omega)) ?_) | refine wl (wl_val hl rfl trivial (r_addW hl rfl rfl) ?_)
                                      clear hl a; intro a hl
                                      refine wl (wl_val hl rfl trivial (r_move hl rfl) ?_)
                                      clear hl a; intro a hl
                                      refine w_nil ?_
                                      have hl2 := hl.add (t := 3) (hl.add (t := 17) (hl.add (t := 18) (hl.add (t := 19) (hl.nil) rfl) rfl) rfl) rfl; clear hl; have hl := hl2; clear hl2
                                      refine then_normal ?_
                                      refine ⟨⟨g2, M2, z.i + 1⟩, (by simp only; omega), ⟨by simp only; omega, hS2, hG3⟩, hl.addE (t := 19) (hl.addE (t := 3) (hl.addE (t := 17) (hl.addE (t := 18) (hl.nil) rfl (by first | rfl | (congr 1; omega))) rfl (by first | rfl | (congr 1; omega))) rfl (by first | rfl | (congr 1; omega))) rfl (by first | rfl | (congr 1; omega)), hh.keep (by repeat (first | exact keeps_nil | apply keeps_cons (by repeat (first | exact find_head | apply find_tail | apply find_skip)) (by first  | rfl) | exact keeps_self | exact keeps_left | apply keeps_app | apply keeps_mv | apply keeps_skip))⟩
                                  · intro hg28; clear hl; intro hl
                                    try simp only [decide_eq_true_eq, decide_eq_false_iff_not, Bool.not_eq_true', Bool.not_eq_false', Bool.not_eq_true, Bool.not_eq_false, Bool.and_eq_true, Bool.or_eq_true, Bool.and_eq_false_iff, Bool.or_eq_false_iff, Bool.not_not, ne_eq, Int.not_lt, Int.not_le, Decidable.not_not, beq_iff_eq, bne_iff_ne] at hg28
                                    refine wl (wl_skip hl rfl ⟨_, _, rfl, rfl, rfl⟩ ?_)
                                    clear hl a; intro a hl
                                    refine wl (wl_skip hl rfl ⟨_, _, rfl, rfl, rfl⟩ ?_)
                                    clear hl a; intro a hl
                                    refine wl (wl_val hl rfl trivial (r_pickF hl rfl rfl) ?_)
                                    clear hl a; intro a hl
                                    refine w_nil ?_
                                    have hl2 := hl.add (t := 3) (hl.add (t := 17) (hl.add (t := 18) (hl.add (t := 19) (hl.add (t := 145) (hl.nil) rfl) rfl) rfl) rfl) rfl; clear hl; have hl := hl2; clear hl2
                                    refine then_normal ?_
                                    refine c_condF hl rfl ?_
                                    refine wp_skip ?_
                                    refine blk_normal ?_
                                    refine then_normal ?_
                                    refine c_region ?_
                                    first | refine wl (wl_val hl rfl trivial (r_add hl rfl rfl (by simp only [Fits]; omega)) ?_) | refine wl (wl_val hl rfl trivial (r_addW hl rfl rfl) ?_)
                                    clear hl a; intro a hl
                                    refine wl (wl_val hl rfl trivial (r_move hl rfl) ?_)
                                    clear hl a; intro a hl
                                    refine w_nil ?_
                                    have hl2 := hl.add (t := 3) (hl.add (t := 17) (hl.add (t := 18) (hl.add (t := 19) (hl.nil) rfl) rfl) rfl) rfl; clear hl; have hl := hl2; clear hl2
                                    refine then_normal ?_
                                    refine ⟨⟨g2, M2, z.i + 1⟩, (by simp only; omega), ⟨by simp only; omega, hS2, hG3⟩, hl.addE (t := 19) (hl.addE (t := 3) (hl.addE (t := 17) (hl.addE (t := 18) (hl.nil) rfl (by first | rfl | (congr 1; omega))) rfl (by first | rfl | (congr 1; omega))) rfl (by first | rfl | (congr 1; omega))) rfl (by first | rfl | (congr 1; omega)), hh.keep (by repeat (first | exact keeps_nil | apply keeps_cons (by repeat (first | exact find_head | apply find_tail | apply find_skip)) (by first  | rfl) | exact keeps_self | exact keeps_left | apply keeps_app | apply keeps_mv | apply keeps_skip))⟩
                      · intro hg9; clear hl; intro hl
                        try simp only [decide_eq_true_eq, decide_eq_false_iff_not, Bool.not_eq_true', Bool.not_eq_false', Bool.not_eq_true, Bool.not_eq_false, Bool.and_eq_true, Bool.or_eq_true, Bool.and_eq_false_iff, Bool.or_eq_false_iff, Bool.not_not, ne_eq, Int.not_lt, Int.not_le, Decidable.not_not, beq_iff_eq, bne_iff_ne] at hg9
                        refine wl (wl_skip hl rfl ⟨_, _, rfl, rfl, rfl⟩ ?_)
                        clear hl a; intro a hl
                        refine wl (wl_skip hl rfl ⟨_, _, rfl, rfl, rfl⟩ ?_)
                        clear hl a; intro a hl
                        refine wl (wl_skip hl rfl ⟨_, _, rfl, rfl, rfl⟩ ?_)
                        clear hl a; intro a hl
                        refine wl (wl_val hl rfl ⟨_, _, rfl, rfl, rfl⟩ (r_pickF hl rfl rfl) ?_)
                        clear hl a; intro a hl
                        refine wl (wl_val hl rfl ⟨_, _, rfl, rfl, rfl⟩ (r_move hl rfl) ?_)
                        clear hl a; intro a hl
                        refine wl (wl_val hl rfl ⟨_, _, rfl, rfl, rfl⟩ (r_field hl rfl fld83_2) ?_)
                        clear hl a; intro a hl
                        refine wl (w_load hl hh rfl ⟨_, _, rfl, rfl, rfl⟩ one80 rfl (by repeat (first | exact find_head | apply find_tail | apply find_skip)) (by first | rfl) ?_)
                        clear hl a; intro a hl
                        refine wl (wl_val hl rfl ⟨_, _, rfl, rfl, rfl⟩ (r_eql hl rfl rfl) ?_)
                        clear hl a; intro a hl
                        refine wl (wl_val hl rfl ⟨_, _, rfl, rfl, rfl⟩ (r_move hl rfl) ?_)
                        clear hl a; intro a hl
                        refine sl_split (t := 112) hl rfl ?_ ?_
                        · intro hg29; clear hl; intro hl
                          try simp only [decide_eq_true_eq, decide_eq_false_iff_not, Bool.not_eq_true', Bool.not_eq_false', Bool.not_eq_true, Bool.not_eq_false, Bool.and_eq_true, Bool.or_eq_true, Bool.and_eq_false_iff, Bool.or_eq_false_iff, Bool.not_not, ne_eq, Int.not_lt, Int.not_le, Decidable.not_not, beq_iff_eq, bne_iff_ne] at hg29
                          refine wl (wl_skip hl rfl ⟨_, _, rfl, rfl, rfl⟩ ?_)
                          clear hl a; intro a hl
                          refine wl (wl_skip hl rfl ⟨_, _, rfl, rfl, rfl⟩ ?_)
                          clear hl a; intro a hl
                          refine wl (wl_skip hl rfl ⟨_, _, rfl, rfl, rfl⟩ ?_)
                          clear hl a; intro a hl
                          refine wl (wl_val hl rfl ⟨_, _, rfl, rfl, rfl⟩ (r_pickT hl rfl rfl) ?_)
                          clear hl a; intro a hl
                          refine wl (wl_val hl rfl ⟨_, _, rfl, rfl, rfl⟩ (r_move hl rfl) ?_)
                          clear hl a; intro a hl
                          refine wl (wl_val hl rfl ⟨_, _, rfl, rfl, rfl⟩ (r_field hl rfl fld32_3) ?_)
                          clear hl a; intro a hl
                          refine wl (w_load hl hh rfl ⟨_, _, rfl, rfl, rfl⟩ one2 rfl (by repeat (first | exact find_head | apply find_tail | apply find_skip)) (by first | rfl) ?_)
                          clear hl a; intro a hl
                          refine wl (wl_val hl rfl ⟨_, _, rfl, rfl, rfl⟩ (r_neq hl rfl rfl) ?_)
                          clear hl a; intro a hl
                          refine wl (wl_val hl rfl ⟨_, _, rfl, rfl, rfl⟩ (r_pickT hl rfl rfl) ?_)
                          clear hl a; intro a hl
                          refine wl (wl_val hl rfl ⟨_, _, rfl, rfl, rfl⟩ (r_pickF hl rfl rfl) ?_)
                          clear hl a; intro a hl
                          refine wl (wl_val hl rfl trivial (r_pickT hl rfl rfl) ?_)
                          clear hl a; intro a hl
                          refine wl (wl_val hl rfl trivial (r_assign hl rfl) ?_)
                          clear hl a; intro a hl
                          refine w_nil ?_
                          have hl2 := hl.add (t := 3) (hl.add (t := 6) (hl.add (t := 8) (hl.add (t := 9) (hl.add (t := 17) (hl.add (t := 18) (hl.add (t := 19) (hl.nil) rfl) rfl) rfl) rfl) rfl) rfl) rfl; clear hl; have hl := hl2; clear hl2
                          have hl9 := hl.addE (t := 9) hl rfl (congrArg Value.bool (dec10b hok (by unfold S10; first | (simp only [true_iff, Bool.false_eq_true, false_iff]; omega) | (rw [decide_eq_true_eq]; omega))))
                          rw [← hsd9] at hl9
                          clear hl
                          have hl := hl9
                          clear hl9
                          try clear hg1; try clear hg2
                          refine then_normal ?_
                          refine c_seq ?_
                          refine c_seq ?_
                          refine c_region ?_
                          refine wl (wl_val hl rfl trivial (r_move hl rfl) ?_)
                          clear hl a; intro a hl
                          refine wl (wl_val hl rfl trivial (r_move hl rfl) ?_)
                          clear hl a; intro a hl
                          refine wl (wl_val hl rfl trivial (r_eql hl rfl rfl) ?_)
                          clear hl a; intro a hl
                          refine wl (wl_val hl rfl trivial (r_neq_bool hl rfl rfl Tryd.underlying4) ?_)
                          clear hl a; intro a hl
                          refine wl (wl_val hl rfl trivial (r_move hl rfl) ?_)
                          clear hl a; intro a hl
                          refine sl_split (t := 128) hl rfl ?_ ?_
                          · intro hg30; clear hl; intro hl
                            try simp only [decide_eq_true_eq, decide_eq_false_iff_not, Bool.not_eq_true', Bool.not_eq_false', Bool.not_eq_true, Bool.not_eq_false, Bool.and_eq_true, Bool.or_eq_true, Bool.and_eq_false_iff, Bool.or_eq_false_iff, Bool.not_not, ne_eq, Int.not_lt, Int.not_le, Decidable.not_not, beq_iff_eq, bne_iff_ne] at hg30
                            exfalso; first | contradiction | exact abs10a (by assumption) hT9 (fun h => (hF9 h).2) | exact absurd (hF9 (by simpa using by assumption)).2 (by assumption)
                          · intro hg30; clear hl; intro hl
                            try simp only [decide_eq_true_eq, decide_eq_false_iff_not, Bool.not_eq_true', Bool.not_eq_false', Bool.not_eq_true, Bool.not_eq_false, Bool.and_eq_true, Bool.or_eq_true, Bool.and_eq_false_iff, Bool.or_eq_false_iff, Bool.not_not, ne_eq, Int.not_lt, Int.not_le, Decidable.not_not, beq_iff_eq, bne_iff_ne] at hg30
                            refine wl (wl_val hl rfl ⟨_, _, rfl, rfl, rfl⟩ (r_move hl rfl) ?_)
                            clear hl a; intro a hl
                            refine wl (wl_val hl rfl ⟨_, _, rfl, rfl, rfl⟩ (r_not hl rfl) ?_)
                            clear hl a; intro a hl
                            refine wl (wl_val hl rfl ⟨_, _, rfl, rfl, rfl⟩ (r_move hl rfl) ?_)
                            clear hl a; intro a hl
                            refine sl_split (t := 131) hl rfl ?_ ?_
                            · intro hg31; clear hl; intro hl
                              try simp only [decide_eq_true_eq, decide_eq_false_iff_not, Bool.not_eq_true', Bool.not_eq_false', Bool.not_eq_true, Bool.not_eq_false, Bool.and_eq_true, Bool.or_eq_true, Bool.and_eq_false_iff, Bool.or_eq_false_iff, Bool.not_not, ne_eq, Int.not_lt, Int.not_le, Decidable.not_not, beq_iff_eq, bne_iff_ne] at hg31
                              refine wl (wl_val hl rfl ⟨_, _, rfl, rfl, rfl⟩ (r_move hl rfl) ?_)
                              clear hl a; intro a hl
                              refine wl (wl_val hl rfl ⟨_, _, rfl, rfl, rfl⟩ (r_neq hl rfl rfl) ?_)
                              clear hl a; intro a hl
                              refine wl (wl_val hl rfl ⟨_, _, rfl, rfl, rfl⟩ (r_pickT hl rfl rfl) ?_)
                              clear hl a; intro a hl
                              refine wl (wl_val hl rfl trivial (r_pickF hl rfl rfl) ?_)
                              clear hl a; intro a hl
                              refine w_nil ?_
                              have hl2 := hl.add (t := 3) (hl.add (t := 6) (hl.add (t := 9) (hl.add (t := 17) (hl.add (t := 18) (hl.add (t := 19) (hl.add (t := 135) (hl.nil) rfl) rfl) rfl) rfl) rfl) rfl) rfl; clear hl; have hl := hl2; clear hl2
                              refine then_normal ?_
                              refine c_cond hl rfl ?_ ?_
                              · intro hc2
                                try simp only [decide_eq_true_eq, decide_eq_false_iff_not, Bool.not_eq_true', Bool.not_eq_false', Bool.not_eq_true, Bool.not_eq_false, Bool.and_eq_true, Bool.or_eq_true, Bool.and_eq_false_iff, Bool.or_eq_false_iff, Bool.not_not, ne_eq, Int.not_lt, Int.not_le, Decidable.not_not, beq_iff_eq, bne_iff_ne] at hc2
                                exfalso; first | contradiction | exact abs10a (by assumption) hT9 (fun h => (hF9 h).2) | exact absurd (hF9 (by simpa using by assumption)).2 (by assumption)
                              · intro hc2
                                try simp only [decide_eq_true_eq, decide_eq_false_iff_not, Bool.not_eq_true', Bool.not_eq_false', Bool.not_eq_true, Bool.not_eq_false, Bool.and_eq_true, Bool.or_eq_true, Bool.and_eq_false_iff, Bool.or_eq_false_iff, Bool.not_not, ne_eq, Int.not_lt, Int.not_le, Decidable.not_not, beq_iff_eq, bne_iff_ne] at hc2
                                refine wp_skip ?_
                                refine then_normal ?_
                                refine c_seq ?_
                                refine c_region ?_
                                refine wl (wl_val hl rfl trivial (r_move hl rfl) ?_)
                                clear hl a; intro a hl
                                refine wl (w_call hl hh rfl trivial rfl cal28 rfl (snap_spec hS9 bc (40 * ((z.i + 1 : Nat) : Int) + 1) (400 * ((z.i + 1 : Nat) : Int) + 4) ⟨by omega, by omega⟩ hG9) (by repeat (first | exact keeps_nil | apply keeps_cons (by repeat (first | exact find_head | apply find_tail | apply find_skip)) (by first  | rfl) | exact keeps_self | exact keeps_left | apply keeps_app | apply keeps_mv | apply keeps_skip)) (memK (E := sysL bc M9) hh (by repeat (first | exact keeps_nil | apply keeps_cons (by repeat (first | exact find_head | apply find_tail | apply find_skip)) (by first  | rfl) | exact keeps_self | exact keeps_left | apply keeps_app | apply keeps_mv | apply keeps_skip))) ?_)
                                clear hl hh a w; intro vc Fc a w hR hl hh
                                obtain ⟨ev9, bv9, Ee9, Eb9, rfl, hSn9, rfl⟩ := hR
                                try simp only [List.cons_append, List.nil_append, List.append_assoc, List.append_nil] at hh
                                refine wl (wl_val hl rfl trivial (r_move hl rfl) ?_)
                                clear hl a; intro a hl
                                refine wl (w_call hl hh rfl trivial rfl cal28 rfl (snap_spec hS2 bg (40 * ((z.i + 1 : Nat) : Int)) (400 * ((z.i + 1 : Nat) : Int)) ⟨by omega, by omega⟩ hG3) (by repeat (first | exact keeps_nil | apply keeps_cons (by repeat (first | exact find_head | apply find_tail | apply find_skip)) (by first  | rfl) | exact keeps_self | exact keeps_left | apply keeps_app | apply keeps_mv | apply keeps_skip)) (memK (E := sysL bg M2) hh (by repeat (first | exact keeps_nil | apply keeps_cons (by repeat (first | exact find_head | apply find_tail | apply find_skip)) (by first  | rfl) | exact keeps_self | exact keeps_left | apply keeps_app | apply keeps_mv | apply keeps_skip))) ?_)
                                clear hl hh a w; intro vc Fc a w hR hl hh
                                obtain ⟨ev2, bv2, Ee2, Eb2, rfl, hSn2, rfl⟩ := hR
                                try simp only [List.cons_append, List.nil_append, List.append_assoc, List.append_nil] at hh
                                refine wl (w_alloc hl hh rfl trivial zero75 rfl ?_)
                                clear hl hh a w; intro k10 a w hl hh
                                refine wl (w_alloc hl hh rfl trivial zero75 rfl ?_)
                                clear hl hh a w; intro k11 a w hl hh
                                refine wl (w_storeA hl hh trivial agg75 rfl rfl (by repeat (first | exact find_head | apply find_tail | apply find_skip)) (by exact snC_len _ _ _) (by first | exact Nat.le_of_eq (arrL_length _ _).symm | (rw [snC_len]; exact Nat.le_refl _)) (by first | exact snC_one hSn9 | exact snC_one hSn2) (by exact setL_whole (by first | rw [snC_len, arrL_length] | rw [snC_len, snC_len])) ?_)
                                clear hh w; intro w hh
                                refine wl (w_storeA hl hh trivial agg75 rfl rfl (by repeat (first | exact find_head | apply find_tail | apply find_skip)) (by exact snC_len _ _ _) (by first | exact Nat.le_of_eq (arrL_length _ _).symm | (rw [snC_len]; exact Nat.le_refl _)) (by first | exact snC_one hSn9 | exact snC_one hSn2) (by exact setL_whole (by first | rw [snC_len, arrL_length] | rw [snC_len, snC_len])) ?_)
                                clear hh w; intro w hh
                                refine w_nil ?_
                                have hl2 := hl.add (t := 3) (hl.add (t := 9) (hl.add (t := 10) (hl.add (t := 11) (hl.add (t := 17) (hl.add (t := 18) (hl.add (t := 19) (hl.nil) rfl) rfl) rfl) rfl) rfl) rfl) rfl; clear hl; have hl := hl2; clear hl2
                                refine then_normal ?_
                                refine c_seq ?_
                                refine c_region ?_
                                refine wl (wl_val hl rfl trivial (r_move hl rfl) ?_)
                                clear hl a; intro a hl
                                refine wl (wl_val hl rfl trivial (r_not hl rfl) ?_)
                                clear hl a; intro a hl
                                refine wl (wl_val hl rfl trivial (r_move hl rfl) ?_)
                                clear hl a; intro a hl
                                refine sl_split (t := 142) hl rfl ?_ ?_
                                · intro hg32; clear hl; intro hl
                                  try simp only [decide_eq_true_eq, decide_eq_false_iff_not, Bool.not_eq_true', Bool.not_eq_false', Bool.not_eq_true, Bool.not_eq_false, Bool.and_eq_true, Bool.or_eq_true, Bool.and_eq_false_iff, Bool.or_eq_false_iff, Bool.not_not, ne_eq, Int.not_lt, Int.not_le, Decidable.not_not, beq_iff_eq, bne_iff_ne] at hg32
                                  refine wl (w_call hl hh rfl ⟨_, _, rfl, rfl, rfl⟩ rfl cal29 rfl (eqState_spec (g := g2) (B := 40 * ((z.i + 1 : Nat) : Int)) (Q := 400 * ((z.i + 1 : Nat) : Int)) ⟨by omega, by omega⟩ hG3 k10 k11 ev9 bv9 ev2 bv2 Ee9 Eb9 Ee2 Eb2 ((hF9 (by simpa using by assumption)).1 ▸ hSn9) hSn2) (by repeat (first | exact keeps_nil | apply keeps_cons (by repeat (first | exact find_head | apply find_tail | apply find_skip)) (by first  | rfl) | exact keeps_self | exact keeps_left | apply keeps_app | apply keeps_mv | apply keeps_skip)) ⟨(hF9 (by simpa using by assumption)).1 ▸ (memK (E := snL k10 g9 ev9 bv9 Ee9 Eb9) hh (by repeat (first | exact keeps_nil | apply keeps_cons (by repeat (first | exact find_head | apply find_tail | apply find_skip)) (by first  | rfl) | exact keeps_self | exact keeps_left | apply keeps_app | apply keeps_mv | apply keeps_skip))), memK (E := snL k11 g2 ev2 bv2 Ee2 Eb2) hh (by repeat (first | exact keeps_nil | apply keeps_cons (by repeat (first | exact find_head | apply find_tail | apply find_skip)) (by first  | rfl) | exact keeps_self | exact keeps_left | apply keeps_app | apply keeps_mv | apply keeps_skip))⟩ ?_)
                                  clear hl hh a w; intro vc Fc a w hR hl hh
                                  obtain ⟨rfl, rfl⟩ := hR
                                  try simp only [List.cons_append, List.nil_append, List.append_assoc, List.append_nil] at hh
                                  refine wl (wl_val hl rfl ⟨_, _, rfl, rfl, rfl⟩ (r_not hl rfl) ?_)
                                  clear hl a; intro a hl
                                  refine wl (wl_val hl rfl trivial (r_pickT hl rfl rfl) ?_)
                                  clear hl a; intro a hl
                                  refine w_nil ?_
                                  have hl2 := hl.add (t := 3) (hl.add (t := 17) (hl.add (t := 18) (hl.add (t := 19) (hl.add (t := 145) (hl.nil) rfl) rfl) rfl) rfl) rfl; clear hl; have hl := hl2; clear hl2
                                  refine then_normal ?_
                                  refine c_cond hl rfl ?_ ?_
                                  · intro hc3
                                    try simp only [decide_eq_true_eq, decide_eq_false_iff_not, Bool.not_eq_true', Bool.not_eq_false', Bool.not_eq_true, Bool.not_eq_false, Bool.and_eq_true, Bool.or_eq_true, Bool.and_eq_false_iff, Bool.or_eq_false_iff, Bool.not_not, ne_eq, Int.not_lt, Int.not_le, Decidable.not_not, beq_iff_eq, bne_iff_ne] at hc3
                                    exfalso; first | contradiction | exact abs10a (by assumption) hT9 (fun h => (hF9 h).2) | exact absurd (hF9 (by simpa using by assumption)).2 (by assumption)
                                  · intro hc3
                                    try simp only [decide_eq_true_eq, decide_eq_false_iff_not, Bool.not_eq_true', Bool.not_eq_false', Bool.not_eq_true, Bool.not_eq_false, Bool.and_eq_true, Bool.or_eq_true, Bool.and_eq_false_iff, Bool.or_eq_false_iff, Bool.not_not, ne_eq, Int.not_lt, Int.not_le, Decidable.not_not, beq_iff_eq, bne_iff_ne] at hc3
                                    refine wp_skip ?_
                                    refine blk_normal ?_
                                    refine then_normal ?_
                                    refine c_region ?_
                                    first | refine wl (wl_val hl rfl trivial (r_add hl rfl rfl (by simp only [Fits]; omega)) ?_) | refine wl (wl_val hl rfl trivial (r_addW hl rfl rfl) ?_)
                                    clear hl a; intro a hl
                                    refine wl (wl_val hl rfl trivial (r_move hl rfl) ?_)
                                    clear hl a; intro a hl
                                    refine w_nil ?_
                                    have hl2 := hl.add (t := 3) (hl.add (t := 17) (hl.add (t := 18) (hl.add (t := 19) (hl.nil) rfl) rfl) rfl) rfl; clear hl; have hl := hl2; clear hl2
                                    refine then_normal ?_
                                    refine ⟨⟨g2, M2, z.i + 1⟩, (by simp only; omega), ⟨by simp only; omega, hS2, hG3⟩, hl.addE (t := 19) (hl.addE (t := 3) (hl.addE (t := 17) (hl.addE (t := 18) (hl.nil) rfl (by first | rfl | (congr 1; omega))) rfl (by first | rfl | (congr 1; omega))) rfl (by first | rfl | (congr 1; omega))) rfl (by first | rfl | (congr 1; omega)), hh.keep (by repeat (first | exact keeps_nil | apply keeps_cons (by repeat (first | exact find_head | apply find_tail | apply find_skip)) (by first  | rfl) | exact keeps_self | exact keeps_left | apply keeps_app | apply keeps_mv | apply keeps_skip))⟩
                                · intro hg32; clear hl; intro hl
                                  try simp only [decide_eq_true_eq, decide_eq_false_iff_not, Bool.not_eq_true', Bool.not_eq_false', Bool.not_eq_true, Bool.not_eq_false, Bool.and_eq_true, Bool.or_eq_true, Bool.and_eq_false_iff, Bool.or_eq_false_iff, Bool.not_not, ne_eq, Int.not_lt, Int.not_le, Decidable.not_not, beq_iff_eq, bne_iff_ne] at hg32
                                  refine wl (wl_skip hl rfl ⟨_, _, rfl, rfl, rfl⟩ ?_)
                                  clear hl a; intro a hl
                                  refine wl (wl_skip hl rfl ⟨_, _, rfl, rfl, rfl⟩ ?_)
                                  clear hl a; intro a hl
                                  refine wl (wl_val hl rfl trivial (r_pickF hl rfl rfl) ?_)
                                  clear hl a; intro a hl
                                  refine w_nil ?_
                                  have hl2 := hl.add (t := 3) (hl.add (t := 17) (hl.add (t := 18) (hl.add (t := 19) (hl.add (t := 145) (hl.nil) rfl) rfl) rfl) rfl) rfl; clear hl; have hl := hl2; clear hl2
                                  refine then_normal ?_
                                  refine c_condF hl rfl ?_
                                  refine wp_skip ?_
                                  refine blk_normal ?_
                                  refine then_normal ?_
                                  refine c_region ?_
                                  first | refine wl (wl_val hl rfl trivial (r_add hl rfl rfl (by simp only [Fits]; omega)) ?_) | refine wl (wl_val hl rfl trivial (r_addW hl rfl rfl) ?_)
                                  clear hl a; intro a hl
                                  refine wl (wl_val hl rfl trivial (r_move hl rfl) ?_)
                                  clear hl a; intro a hl
                                  refine w_nil ?_
                                  have hl2 := hl.add (t := 3) (hl.add (t := 17) (hl.add (t := 18) (hl.add (t := 19) (hl.nil) rfl) rfl) rfl) rfl; clear hl; have hl := hl2; clear hl2
                                  refine then_normal ?_
                                  refine ⟨⟨g2, M2, z.i + 1⟩, (by simp only; omega), ⟨by simp only; omega, hS2, hG3⟩, hl.addE (t := 19) (hl.addE (t := 3) (hl.addE (t := 17) (hl.addE (t := 18) (hl.nil) rfl (by first | rfl | (congr 1; omega))) rfl (by first | rfl | (congr 1; omega))) rfl (by first | rfl | (congr 1; omega))) rfl (by first | rfl | (congr 1; omega)), hh.keep (by repeat (first | exact keeps_nil | apply keeps_cons (by repeat (first | exact find_head | apply find_tail | apply find_skip)) (by first  | rfl) | exact keeps_self | exact keeps_left | apply keeps_app | apply keeps_mv | apply keeps_skip))⟩
                            · intro hg31; clear hl; intro hl
                              try simp only [decide_eq_true_eq, decide_eq_false_iff_not, Bool.not_eq_true', Bool.not_eq_false', Bool.not_eq_true, Bool.not_eq_false, Bool.and_eq_true, Bool.or_eq_true, Bool.and_eq_false_iff, Bool.or_eq_false_iff, Bool.not_not, ne_eq, Int.not_lt, Int.not_le, Decidable.not_not, beq_iff_eq, bne_iff_ne] at hg31
                              refine wl (wl_skip hl rfl ⟨_, _, rfl, rfl, rfl⟩ ?_)
                              clear hl a; intro a hl
                              refine wl (wl_skip hl rfl ⟨_, _, rfl, rfl, rfl⟩ ?_)
                              clear hl a; intro a hl
                              refine wl (wl_val hl rfl ⟨_, _, rfl, rfl, rfl⟩ (r_pickF hl rfl rfl) ?_)
                              clear hl a; intro a hl
                              refine wl (wl_val hl rfl trivial (r_pickF hl rfl rfl) ?_)
                              clear hl a; intro a hl
                              refine w_nil ?_
                              have hl2 := hl.add (t := 3) (hl.add (t := 6) (hl.add (t := 9) (hl.add (t := 17) (hl.add (t := 18) (hl.add (t := 19) (hl.add (t := 135) (hl.nil) rfl) rfl) rfl) rfl) rfl) rfl) rfl; clear hl; have hl := hl2; clear hl2
                              refine then_normal ?_
                              refine c_condF hl rfl ?_
                              refine wp_skip ?_
                              refine then_normal ?_
                              refine c_seq ?_
                              refine c_region ?_
                              refine wl (wl_val hl rfl trivial (r_move hl rfl) ?_)
                              clear hl a; intro a hl
                              refine wl (w_call hl hh rfl trivial rfl cal28 rfl (snap_spec hS9 bc (40 * ((z.i + 1 : Nat) : Int) + 1) (400 * ((z.i + 1 : Nat) : Int) + 4) ⟨by omega, by omega⟩ hG9) (by repeat (first | exact keeps_nil | apply keeps_cons (by repeat (first | exact find_head | apply find_tail | apply find_skip)) (by first  | rfl) | exact keeps_self | exact keeps_left | apply keeps_app | apply keeps_mv | apply keeps_skip)) (memK (E := sysL bc M9) hh (by repeat (first | exact keeps_nil | apply keeps_cons (by repeat (first | exact find_head | apply find_tail | apply find_skip)) (by first  | rfl) | exact keeps_self | exact keeps_left | apply keeps_app | apply keeps_mv | apply keeps_skip))) ?_)
                              clear hl hh a w; intro vc Fc a w hR hl hh
                              obtain ⟨ev9, bv9, Ee9, Eb9, rfl, hSn9, rfl⟩ := hR
                              try simp only [List.cons_append, List.nil_append, List.append_assoc, List.append_nil] at hh
                              refine wl (wl_val hl rfl trivial (r_move hl rfl) ?_)
                              clear hl a; intro a hl
                              refine wl (w_call hl hh rfl trivial rfl cal28 rfl (snap_spec hS2 bg (40 * ((z.i + 1 : Nat) : Int)) (400 * ((z.i + 1 : Nat) : Int)) ⟨by omega, by omega⟩ hG3) (by repeat (first | exact keeps_nil | apply keeps_cons (by repeat (first | exact find_head | apply find_tail | apply find_skip)) (by first  | rfl) | exact keeps_self | exact keeps_left | apply keeps_app | apply keeps_mv | apply keeps_skip)) (memK (E := sysL bg M2) hh (by repeat (first | exact keeps_nil | apply keeps_cons (by repeat (first | exact find_head | apply find_tail | apply find_skip)) (by first  | rfl) | exact keeps_self | exact keeps_left | apply keeps_app | apply keeps_mv | apply keeps_skip))) ?_)
                              clear hl hh a w; intro vc Fc a w hR hl hh
                              obtain ⟨ev2, bv2, Ee2, Eb2, rfl, hSn2, rfl⟩ := hR
                              try simp only [List.cons_append, List.nil_append, List.append_assoc, List.append_nil] at hh
                              refine wl (w_alloc hl hh rfl trivial zero75 rfl ?_)
                              clear hl hh a w; intro k10 a w hl hh
                              refine wl (w_alloc hl hh rfl trivial zero75 rfl ?_)
                              clear hl hh a w; intro k11 a w hl hh
                              refine wl (w_storeA hl hh trivial agg75 rfl rfl (by repeat (first | exact find_head | apply find_tail | apply find_skip)) (by exact snC_len _ _ _) (by first | exact Nat.le_of_eq (arrL_length _ _).symm | (rw [snC_len]; exact Nat.le_refl _)) (by first | exact snC_one hSn9 | exact snC_one hSn2) (by exact setL_whole (by first | rw [snC_len, arrL_length] | rw [snC_len, snC_len])) ?_)
                              clear hh w; intro w hh
                              refine wl (w_storeA hl hh trivial agg75 rfl rfl (by repeat (first | exact find_head | apply find_tail | apply find_skip)) (by exact snC_len _ _ _) (by first | exact Nat.le_of_eq (arrL_length _ _).symm | (rw [snC_len]; exact Nat.le_refl _)) (by first | exact snC_one hSn9 | exact snC_one hSn2) (by exact setL_whole (by first | rw [snC_len, arrL_length] | rw [snC_len, snC_len])) ?_)
                              clear hh w; intro w hh
                              refine w_nil ?_
                              have hl2 := hl.add (t := 3) (hl.add (t := 9) (hl.add (t := 10) (hl.add (t := 11) (hl.add (t := 17) (hl.add (t := 18) (hl.add (t := 19) (hl.nil) rfl) rfl) rfl) rfl) rfl) rfl) rfl; clear hl; have hl := hl2; clear hl2
                              refine then_normal ?_
                              refine c_seq ?_
                              refine c_region ?_
                              refine wl (wl_val hl rfl trivial (r_move hl rfl) ?_)
                              clear hl a; intro a hl
                              refine wl (wl_val hl rfl trivial (r_not hl rfl) ?_)
                              clear hl a; intro a hl
                              refine wl (wl_val hl rfl trivial (r_move hl rfl) ?_)
                              clear hl a; intro a hl
                              refine sl_split (t := 142) hl rfl ?_ ?_
                              · intro hg33; clear hl; intro hl
                                try simp only [decide_eq_true_eq, decide_eq_false_iff_not, Bool.not_eq_true', Bool.not_eq_false', Bool.not_eq_true, Bool.not_eq_false, Bool.and_eq_true, Bool.or_eq_true, Bool.and_eq_false_iff, Bool.or_eq_false_iff, Bool.not_not, ne_eq, Int.not_lt, Int.not_le, Decidable.not_not, beq_iff_eq, bne_iff_ne] at hg33
                                refine wl (w_call hl hh rfl ⟨_, _, rfl, rfl, rfl⟩ rfl cal29 rfl (eqState_spec (g := g2) (B := 40 * ((z.i + 1 : Nat) : Int)) (Q := 400 * ((z.i + 1 : Nat) : Int)) ⟨by omega, by omega⟩ hG3 k10 k11 ev9 bv9 ev2 bv2 Ee9 Eb9 Ee2 Eb2 ((hF9 (by simpa using by assumption)).1 ▸ hSn9) hSn2) (by repeat (first | exact keeps_nil | apply keeps_cons (by repeat (first | exact find_head | apply find_tail | apply find_skip)) (by first  | rfl) | exact keeps_self | exact keeps_left | apply keeps_app | apply keeps_mv | apply keeps_skip)) ⟨(hF9 (by simpa using by assumption)).1 ▸ (memK (E := snL k10 g9 ev9 bv9 Ee9 Eb9) hh (by repeat (first | exact keeps_nil | apply keeps_cons (by repeat (first | exact find_head | apply find_tail | apply find_skip)) (by first  | rfl) | exact keeps_self | exact keeps_left | apply keeps_app | apply keeps_mv | apply keeps_skip))), memK (E := snL k11 g2 ev2 bv2 Ee2 Eb2) hh (by repeat (first | exact keeps_nil | apply keeps_cons (by repeat (first | exact find_head | apply find_tail | apply find_skip)) (by first  | rfl) | exact keeps_self | exact keeps_left | apply keeps_app | apply keeps_mv | apply keeps_skip))⟩ ?_)
                                clear hl hh a w; intro vc Fc a w hR hl hh
                                obtain ⟨rfl, rfl⟩ := hR
                                try simp only [List.cons_append, List.nil_append, List.append_assoc, List.append_nil] at hh
                                refine wl (wl_val hl rfl ⟨_, _, rfl, rfl, rfl⟩ (r_not hl rfl) ?_)
                                clear hl a; intro a hl
                                refine wl (wl_val hl rfl trivial (r_pickT hl rfl rfl) ?_)
                                clear hl a; intro a hl
                                refine w_nil ?_
                                have hl2 := hl.add (t := 3) (hl.add (t := 17) (hl.add (t := 18) (hl.add (t := 19) (hl.add (t := 145) (hl.nil) rfl) rfl) rfl) rfl) rfl; clear hl; have hl := hl2; clear hl2
                                refine then_normal ?_
                                refine c_cond hl rfl ?_ ?_
                                · intro hc3
                                  try simp only [decide_eq_true_eq, decide_eq_false_iff_not, Bool.not_eq_true', Bool.not_eq_false', Bool.not_eq_true, Bool.not_eq_false, Bool.and_eq_true, Bool.or_eq_true, Bool.and_eq_false_iff, Bool.or_eq_false_iff, Bool.not_not, ne_eq, Int.not_lt, Int.not_le, Decidable.not_not, beq_iff_eq, bne_iff_ne] at hc3
                                  exfalso; first | contradiction | exact abs10a (by assumption) hT9 (fun h => (hF9 h).2) | exact absurd (hF9 (by simpa using by assumption)).2 (by assumption)
                                · intro hc3
                                  try simp only [decide_eq_true_eq, decide_eq_false_iff_not, Bool.not_eq_true', Bool.not_eq_false', Bool.not_eq_true, Bool.not_eq_false, Bool.and_eq_true, Bool.or_eq_true, Bool.and_eq_false_iff, Bool.or_eq_false_iff, Bool.not_not, ne_eq, Int.not_lt, Int.not_le, Decidable.not_not, beq_iff_eq, bne_iff_ne] at hc3
                                  refine wp_skip ?_
                                  refine blk_normal ?_
                                  refine then_normal ?_
                                  refine c_region ?_
                                  first | refine wl (wl_val hl rfl trivial (r_add hl rfl rfl (by simp only [Fits]; omega)) ?_) | refine wl (wl_val hl rfl trivial (r_addW hl rfl rfl) ?_)
                                  clear hl a; intro a hl
                                  refine wl (wl_val hl rfl trivial (r_move hl rfl) ?_)
                                  clear hl a; intro a hl
                                  refine w_nil ?_
                                  have hl2 := hl.add (t := 3) (hl.add (t := 17) (hl.add (t := 18) (hl.add (t := 19) (hl.nil) rfl) rfl) rfl) rfl; clear hl; have hl := hl2; clear hl2
                                  refine then_normal ?_
                                  refine ⟨⟨g2, M2, z.i + 1⟩, (by simp only; omega), ⟨by simp only; omega, hS2, hG3⟩, hl.addE (t := 19) (hl.addE (t := 3) (hl.addE (t := 17) (hl.addE (t := 18) (hl.nil) rfl (by first | rfl | (congr 1; omega))) rfl (by first | rfl | (congr 1; omega))) rfl (by first | rfl | (congr 1; omega))) rfl (by first | rfl | (congr 1; omega)), hh.keep (by repeat (first | exact keeps_nil | apply keeps_cons (by repeat (first | exact find_head | apply find_tail | apply find_skip)) (by first  | rfl) | exact keeps_self | exact keeps_left | apply keeps_app | apply keeps_mv | apply keeps_skip))⟩
                              · intro hg33; clear hl; intro hl
                                try simp only [decide_eq_true_eq, decide_eq_false_iff_not, Bool.not_eq_true', Bool.not_eq_false', Bool.not_eq_true, Bool.not_eq_false, Bool.and_eq_true, Bool.or_eq_true, Bool.and_eq_false_iff, Bool.or_eq_false_iff, Bool.not_not, ne_eq, Int.not_lt, Int.not_le, Decidable.not_not, beq_iff_eq, bne_iff_ne] at hg33
                                refine wl (wl_skip hl rfl ⟨_, _, rfl, rfl, rfl⟩ ?_)
                                clear hl a; intro a hl
                                refine wl (wl_skip hl rfl ⟨_, _, rfl, rfl, rfl⟩ ?_)
                                clear hl a; intro a hl
                                refine wl (wl_val hl rfl trivial (r_pickF hl rfl rfl) ?_)
                                clear hl a; intro a hl
                                refine w_nil ?_
                                have hl2 := hl.add (t := 3) (hl.add (t := 17) (hl.add (t := 18) (hl.add (t := 19) (hl.add (t := 145) (hl.nil) rfl) rfl) rfl) rfl) rfl; clear hl; have hl := hl2; clear hl2
                                refine then_normal ?_
                                refine c_condF hl rfl ?_
                                refine wp_skip ?_
                                refine blk_normal ?_
                                refine then_normal ?_
                                refine c_region ?_
                                first | refine wl (wl_val hl rfl trivial (r_add hl rfl rfl (by simp only [Fits]; omega)) ?_) | refine wl (wl_val hl rfl trivial (r_addW hl rfl rfl) ?_)
                                clear hl a; intro a hl
                                refine wl (wl_val hl rfl trivial (r_move hl rfl) ?_)
                                clear hl a; intro a hl
                                refine w_nil ?_
                                have hl2 := hl.add (t := 3) (hl.add (t := 17) (hl.add (t := 18) (hl.add (t := 19) (hl.nil) rfl) rfl) rfl) rfl; clear hl; have hl := hl2; clear hl2
                                refine then_normal ?_
                                refine ⟨⟨g2, M2, z.i + 1⟩, (by simp only; omega), ⟨by simp only; omega, hS2, hG3⟩, hl.addE (t := 19) (hl.addE (t := 3) (hl.addE (t := 17) (hl.addE (t := 18) (hl.nil) rfl (by first | rfl | (congr 1; omega))) rfl (by first | rfl | (congr 1; omega))) rfl (by first | rfl | (congr 1; omega))) rfl (by first | rfl | (congr 1; omega)), hh.keep (by repeat (first | exact keeps_nil | apply keeps_cons (by repeat (first | exact find_head | apply find_tail | apply find_skip)) (by first  | rfl) | exact keeps_self | exact keeps_left | apply keeps_app | apply keeps_mv | apply keeps_skip))⟩
                        · intro hg29; clear hl; intro hl
                          try simp only [decide_eq_true_eq, decide_eq_false_iff_not, Bool.not_eq_true', Bool.not_eq_false', Bool.not_eq_true, Bool.not_eq_false, Bool.and_eq_true, Bool.or_eq_true, Bool.and_eq_false_iff, Bool.or_eq_false_iff, Bool.not_not, ne_eq, Int.not_lt, Int.not_le, Decidable.not_not, beq_iff_eq, bne_iff_ne] at hg29
                          refine wl (wl_val hl rfl ⟨_, _, rfl, rfl, rfl⟩ (r_field hl rfl fld83_2) ?_)
                          clear hl a; intro a hl
                          refine wl (w_load hl hh rfl ⟨_, _, rfl, rfl, rfl⟩ one80 rfl (by repeat (first | exact find_head | apply find_tail | apply find_skip)) (by first | rfl) ?_)
                          clear hl a; intro a hl
                          refine wl (wl_val hl rfl ⟨_, _, rfl, rfl, rfl⟩ (r_eql hl rfl rfl) ?_)
                          clear hl a; intro a hl
                          refine wl (wl_val hl rfl ⟨_, _, rfl, rfl, rfl⟩ (r_pickF hl rfl rfl) ?_)
                          clear hl a; intro a hl
                          refine wl (wl_val hl rfl ⟨_, _, rfl, rfl, rfl⟩ (r_move hl rfl) ?_)
                          clear hl a; intro a hl
                          refine sl_split (t := 117) hl rfl ?_ ?_
                          · intro hg34; clear hl; intro hl
                            try simp only [decide_eq_true_eq, decide_eq_false_iff_not, Bool.not_eq_true', Bool.not_eq_false', Bool.not_eq_true, Bool.not_eq_false, Bool.and_eq_true, Bool.or_eq_true, Bool.and_eq_false_iff, Bool.or_eq_false_iff, Bool.not_not, ne_eq, Int.not_lt, Int.not_le, Decidable.not_not, beq_iff_eq, bne_iff_ne] at hg34
                            refine wl (wl_val hl rfl ⟨_, _, rfl, rfl, rfl⟩ (r_field hl rfl fld32_3) ?_)
                            clear hl a; intro a hl
                            refine wl (w_load hl hh rfl ⟨_, _, rfl, rfl, rfl⟩ one2 rfl (by repeat (first | exact find_head | apply find_tail | apply find_skip)) (by first | rfl) ?_)
                            clear hl a; intro a hl
                            refine wl (wl_val hl rfl ⟨_, _, rfl, rfl, rfl⟩ (r_neq hl rfl rfl) ?_)
                            clear hl a; intro a hl
                            refine wl (wl_val hl rfl ⟨_, _, rfl, rfl, rfl⟩ (r_pickT hl rfl rfl) ?_)
                            clear hl a; intro a hl
                            refine wl (wl_val hl rfl ⟨_, _, rfl, rfl, rfl⟩ (r_pickF hl rfl rfl) ?_)
                            clear hl a; intro a hl
                            refine wl (wl_val hl rfl trivial (r_pickT hl rfl rfl) ?_)
                            clear hl a; intro a hl
                            refine wl (wl_val hl rfl trivial (r_assign hl rfl) ?_)
                            clear hl a; intro a hl
                            refine w_nil ?_
                            have hl2 := hl.add (t := 3) (hl.add (t := 6) (hl.add (t := 8) (hl.add (t := 9) (hl.add (t := 17) (hl.add (t := 18) (hl.add (t := 19) (hl.nil) rfl) rfl) rfl) rfl) rfl) rfl) rfl; clear hl; have hl := hl2; clear hl2
                            have hl9 := hl.addE (t := 9) hl rfl (congrArg Value.bool (dec10b hok (by unfold S10; first | (simp only [true_iff, Bool.false_eq_true, false_iff]; omega) | (rw [decide_eq_true_eq]; omega))))
                            rw [← hsd9] at hl9
                            clear hl
                            have hl := hl9
                            clear hl9
                            try clear hg1; try clear hg2
                            refine then_normal ?_
                            refine c_seq ?_
                            refine c_seq ?_
                            refine c_region ?_
                            refine wl (wl_val hl rfl trivial (r_move hl rfl) ?_)
                            clear hl a; intro a hl
                            refine wl (wl_val hl rfl trivial (r_move hl rfl) ?_)
                            clear hl a; intro a hl
                            refine wl (wl_val hl rfl trivial (r_eql hl rfl rfl) ?_)
                            clear hl a; intro a hl
                            refine wl (wl_val hl rfl trivial (r_neq_bool hl rfl rfl Tryd.underlying4) ?_)
                            clear hl a; intro a hl
                            refine wl (wl_val hl rfl trivial (r_move hl rfl) ?_)
                            clear hl a; intro a hl
                            refine sl_split (t := 128) hl rfl ?_ ?_
                            · intro hg35; clear hl; intro hl
                              try simp only [decide_eq_true_eq, decide_eq_false_iff_not, Bool.not_eq_true', Bool.not_eq_false', Bool.not_eq_true, Bool.not_eq_false, Bool.and_eq_true, Bool.or_eq_true, Bool.and_eq_false_iff, Bool.or_eq_false_iff, Bool.not_not, ne_eq, Int.not_lt, Int.not_le, Decidable.not_not, beq_iff_eq, bne_iff_ne] at hg35
                              exfalso; first | contradiction | exact abs10a (by assumption) hT9 (fun h => (hF9 h).2) | exact absurd (hF9 (by simpa using by assumption)).2 (by assumption)
                            · intro hg35; clear hl; intro hl
                              try simp only [decide_eq_true_eq, decide_eq_false_iff_not, Bool.not_eq_true', Bool.not_eq_false', Bool.not_eq_true, Bool.not_eq_false, Bool.and_eq_true, Bool.or_eq_true, Bool.and_eq_false_iff, Bool.or_eq_false_iff, Bool.not_not, ne_eq, Int.not_lt, Int.not_le, Decidable.not_not, beq_iff_eq, bne_iff_ne] at hg35
                              refine wl (wl_val hl rfl ⟨_, _, rfl, rfl, rfl⟩ (r_move hl rfl) ?_)
                              clear hl a; intro a hl
                              refine wl (wl_val hl rfl ⟨_, _, rfl, rfl, rfl⟩ (r_not hl rfl) ?_)
                              clear hl a; intro a hl
                              refine wl (wl_val hl rfl ⟨_, _, rfl, rfl, rfl⟩ (r_move hl rfl) ?_)
                              clear hl a; intro a hl
                              refine sl_split (t := 131) hl rfl ?_ ?_
                              · intro hg36; clear hl; intro hl
                                try simp only [decide_eq_true_eq, decide_eq_false_iff_not, Bool.not_eq_true', Bool.not_eq_false', Bool.not_eq_true, Bool.not_eq_false, Bool.and_eq_true, Bool.or_eq_true, Bool.and_eq_false_iff, Bool.or_eq_false_iff, Bool.not_not, ne_eq, Int.not_lt, Int.not_le, Decidable.not_not, beq_iff_eq, bne_iff_ne] at hg36
                                refine wl (wl_val hl rfl ⟨_, _, rfl, rfl, rfl⟩ (r_move hl rfl) ?_)
                                clear hl a; intro a hl
                                refine wl (wl_val hl rfl ⟨_, _, rfl, rfl, rfl⟩ (r_neq hl rfl rfl) ?_)
                                clear hl a; intro a hl
                                refine wl (wl_val hl rfl ⟨_, _, rfl, rfl, rfl⟩ (r_pickT hl rfl rfl) ?_)
                                clear hl a; intro a hl
                                refine wl (wl_val hl rfl trivial (r_pickF hl rfl rfl) ?_)
                                clear hl a; intro a hl
                                refine w_nil ?_
                                have hl2 := hl.add (t := 3) (hl.add (t := 6) (hl.add (t := 9) (hl.add (t := 17) (hl.add (t := 18) (hl.add (t := 19) (hl.add (t := 135) (hl.nil) rfl) rfl) rfl) rfl) rfl) rfl) rfl; clear hl; have hl := hl2; clear hl2
                                refine then_normal ?_
                                refine c_cond hl rfl ?_ ?_
                                · intro hc2
                                  try simp only [decide_eq_true_eq, decide_eq_false_iff_not, Bool.not_eq_true', Bool.not_eq_false', Bool.not_eq_true, Bool.not_eq_false, Bool.and_eq_true, Bool.or_eq_true, Bool.and_eq_false_iff, Bool.or_eq_false_iff, Bool.not_not, ne_eq, Int.not_lt, Int.not_le, Decidable.not_not, beq_iff_eq, bne_iff_ne] at hc2
                                  exfalso; first | contradiction | exact abs10a (by assumption) hT9 (fun h => (hF9 h).2) | exact absurd (hF9 (by simpa using by assumption)).2 (by assumption)
                                · intro hc2
                                  try simp only [decide_eq_true_eq, decide_eq_false_iff_not, Bool.not_eq_true', Bool.not_eq_false', Bool.not_eq_true, Bool.not_eq_false, Bool.and_eq_true, Bool.or_eq_true, Bool.and_eq_false_iff, Bool.or_eq_false_iff, Bool.not_not, ne_eq, Int.not_lt, Int.not_le, Decidable.not_not, beq_iff_eq, bne_iff_ne] at hc2
                                  refine wp_skip ?_
                                  refine then_normal ?_
                                  refine c_seq ?_
                                  refine c_region ?_
                                  refine wl (wl_val hl rfl trivial (r_move hl rfl) ?_)
                                  clear hl a; intro a hl
                                  refine wl (w_call hl hh rfl trivial rfl cal28 rfl (snap_spec hS9 bc (40 * ((z.i + 1 : Nat) : Int) + 1) (400 * ((z.i + 1 : Nat) : Int) + 4) ⟨by omega, by omega⟩ hG9) (by repeat (first | exact keeps_nil | apply keeps_cons (by repeat (first | exact find_head | apply find_tail | apply find_skip)) (by first  | rfl) | exact keeps_self | exact keeps_left | apply keeps_app | apply keeps_mv | apply keeps_skip)) (memK (E := sysL bc M9) hh (by repeat (first | exact keeps_nil | apply keeps_cons (by repeat (first | exact find_head | apply find_tail | apply find_skip)) (by first  | rfl) | exact keeps_self | exact keeps_left | apply keeps_app | apply keeps_mv | apply keeps_skip))) ?_)
                                  clear hl hh a w; intro vc Fc a w hR hl hh
                                  obtain ⟨ev9, bv9, Ee9, Eb9, rfl, hSn9, rfl⟩ := hR
                                  try simp only [List.cons_append, List.nil_append, List.append_assoc, List.append_nil] at hh
                                  refine wl (wl_val hl rfl trivial (r_move hl rfl) ?_)
                                  clear hl a; intro a hl
                                  refine wl (w_call hl hh rfl trivial rfl cal28 rfl (snap_spec hS2 bg (40 * ((z.i + 1 : Nat) : Int)) (400 * ((z.i + 1 : Nat) : Int)) ⟨by omega, by omega⟩ hG3) (by repeat (first | exact keeps_nil | apply keeps_cons (by repeat (first | exact find_head | apply find_tail | apply find_skip)) (by first  | rfl) | exact keeps_self | exact keeps_left | apply keeps_app | apply keeps_mv | apply keeps_skip)) (memK (E := sysL bg M2) hh (by repeat (first | exact keeps_nil | apply keeps_cons (by repeat (first | exact find_head | apply find_tail | apply find_skip)) (by first  | rfl) | exact keeps_self | exact keeps_left | apply keeps_app | apply keeps_mv | apply keeps_skip))) ?_)
                                  clear hl hh a w; intro vc Fc a w hR hl hh
                                  obtain ⟨ev2, bv2, Ee2, Eb2, rfl, hSn2, rfl⟩ := hR
                                  try simp only [List.cons_append, List.nil_append, List.append_assoc, List.append_nil] at hh
                                  refine wl (w_alloc hl hh rfl trivial zero75 rfl ?_)
                                  clear hl hh a w; intro k10 a w hl hh
                                  refine wl (w_alloc hl hh rfl trivial zero75 rfl ?_)
                                  clear hl hh a w; intro k11 a w hl hh
                                  refine wl (w_storeA hl hh trivial agg75 rfl rfl (by repeat (first | exact find_head | apply find_tail | apply find_skip)) (by exact snC_len _ _ _) (by first | exact Nat.le_of_eq (arrL_length _ _).symm | (rw [snC_len]; exact Nat.le_refl _)) (by first | exact snC_one hSn9 | exact snC_one hSn2) (by exact setL_whole (by first | rw [snC_len, arrL_length] | rw [snC_len, snC_len])) ?_)
                                  clear hh w; intro w hh
                                  refine wl (w_storeA hl hh trivial agg75 rfl rfl (by repeat (first | exact find_head | apply find_tail | apply find_skip)) (by exact snC_len _ _ _) (by first | exact Nat.le_of_eq (arrL_length _ _).symm | (rw [snC_len]; exact Nat.le_refl _)) (by first | exact snC_one hSn9 | exact snC_one hSn2) (by exact setL_whole (by first | rw [snC_len, arrL_length] | rw [snC_len, snC_len])) ?_)
                                  clear hh w; intro w hh
                                  refine w_nil ?_
                                  have hl2 := hl.add (t := 3) (hl.add (t := 9) (hl.add (t := 10) (hl.add (t := 11) (hl.add (t := 17) (hl.add (t := 18) (hl.add (t := 19) (hl.nil) rfl) rfl) rfl) rfl) rfl) rfl) rfl; clear hl; have hl := hl2; clear hl2
                                  refine then_normal ?_
                                  refine c_seq ?_
                                  refine c_region ?_
                                  refine wl (wl_val hl rfl trivial (r_move hl rfl) ?_)
                                  clear hl a; intro a hl
                                  refine wl (wl_val hl rfl trivial (r_not hl rfl) ?_)
                                  clear hl a; intro a hl
                                  refine wl (wl_val hl rfl trivial (r_move hl rfl) ?_)
                                  clear hl a; intro a hl
                                  refine sl_split (t := 142) hl rfl ?_ ?_
                                  · intro hg37; clear hl; intro hl
                                    try simp only [decide_eq_true_eq, decide_eq_false_iff_not, Bool.not_eq_true', Bool.not_eq_false', Bool.not_eq_true, Bool.not_eq_false, Bool.and_eq_true, Bool.or_eq_true, Bool.and_eq_false_iff, Bool.or_eq_false_iff, Bool.not_not, ne_eq, Int.not_lt, Int.not_le, Decidable.not_not, beq_iff_eq, bne_iff_ne] at hg37
                                    refine wl (w_call hl hh rfl ⟨_, _, rfl, rfl, rfl⟩ rfl cal29 rfl (eqState_spec (g := g2) (B := 40 * ((z.i + 1 : Nat) : Int)) (Q := 400 * ((z.i + 1 : Nat) : Int)) ⟨by omega, by omega⟩ hG3 k10 k11 ev9 bv9 ev2 bv2 Ee9 Eb9 Ee2 Eb2 ((hF9 (by simpa using by assumption)).1 ▸ hSn9) hSn2) (by repeat (first | exact keeps_nil | apply keeps_cons (by repeat (first | exact find_head | apply find_tail | apply find_skip)) (by first  | rfl) | exact keeps_self | exact keeps_left | apply keeps_app | apply keeps_mv | apply keeps_skip)) ⟨(hF9 (by simpa using by assumption)).1 ▸ (memK (E := snL k10 g9 ev9 bv9 Ee9 Eb9) hh (by repeat (first | exact keeps_nil | apply keeps_cons (by repeat (first | exact find_head | apply find_tail | apply find_skip)) (by first  | rfl) | exact keeps_self | exact keeps_left | apply keeps_app | apply keeps_mv | apply keeps_skip))), memK (E := snL k11 g2 ev2 bv2 Ee2 Eb2) hh (by repeat (first | exact keeps_nil | apply keeps_cons (by repeat (first | exact find_head | apply find_tail | apply find_skip)) (by first  | rfl) | exact keeps_self | exact keeps_left | apply keeps_app | apply keeps_mv | apply keeps_skip))⟩ ?_)
                                    clear hl hh a w; intro vc Fc a w hR hl hh
                                    obtain ⟨rfl, rfl⟩ := hR
                                    try simp only [List.cons_append, List.nil_append, List.append_assoc, List.append_nil] at hh
                                    refine wl (wl_val hl rfl ⟨_, _, rfl, rfl, rfl⟩ (r_not hl rfl) ?_)
                                    clear hl a; intro a hl
                                    refine wl (wl_val hl rfl trivial (r_pickT hl rfl rfl) ?_)
                                    clear hl a; intro a hl
                                    refine w_nil ?_
                                    have hl2 := hl.add (t := 3) (hl.add (t := 17) (hl.add (t := 18) (hl.add (t := 19) (hl.add (t := 145) (hl.nil) rfl) rfl) rfl) rfl) rfl; clear hl; have hl := hl2; clear hl2
                                    refine then_normal ?_
                                    refine c_cond hl rfl ?_ ?_
                                    · intro hc3
                                      try simp only [decide_eq_true_eq, decide_eq_false_iff_not, Bool.not_eq_true', Bool.not_eq_false', Bool.not_eq_true, Bool.not_eq_false, Bool.and_eq_true, Bool.or_eq_true, Bool.and_eq_false_iff, Bool.or_eq_false_iff, Bool.not_not, ne_eq, Int.not_lt, Int.not_le, Decidable.not_not, beq_iff_eq, bne_iff_ne] at hc3
                                      exfalso; first | contradiction | exact abs10a (by assumption) hT9 (fun h => (hF9 h).2) | exact absurd (hF9 (by simpa using by assumption)).2 (by assumption)
                                    · intro hc3
                                      try simp only [decide_eq_true_eq, decide_eq_false_iff_not, Bool.not_eq_true', Bool.not_eq_false', Bool.not_eq_true, Bool.not_eq_false, Bool.and_eq_true, Bool.or_eq_true, Bool.and_eq_false_iff, Bool.or_eq_false_iff, Bool.not_not, ne_eq, Int.not_lt, Int.not_le, Decidable.not_not, beq_iff_eq, bne_iff_ne] at hc3
                                      refine wp_skip ?_
                                      refine blk_normal ?_
                                      refine then_normal ?_
                                      refine c_region ?_
                                      first | refine wl (wl_val hl rfl trivial (r_add hl rfl rfl (by simp only [Fits]; omega)) ?_) | refine wl (wl_val hl rfl trivial (r_addW hl rfl rfl) ?_)
                                      clear hl a; intro a hl
                                      refine wl (wl_val hl rfl trivial (r_move hl rfl) ?_)
                                      clear hl a; intro a hl
                                      refine w_nil ?_
                                      have hl2 := hl.add (t := 3) (hl.add (t := 17) (hl.add (t := 18) (hl.add (t := 19) (hl.nil) rfl) rfl) rfl) rfl; clear hl; have hl := hl2; clear hl2
                                      refine then_normal ?_
                                      refine ⟨⟨g2, M2, z.i + 1⟩, (by simp only; omega), ⟨by simp only; omega, hS2, hG3⟩, hl.addE (t := 19) (hl.addE (t := 3) (hl.addE (t := 17) (hl.addE (t := 18) (hl.nil) rfl (by first | rfl | (congr 1; omega))) rfl (by first | rfl | (congr 1; omega))) rfl (by first | rfl | (congr 1; omega))) rfl (by first | rfl | (congr 1; omega)), hh.keep (by repeat (first | exact keeps_nil | apply keeps_cons (by repeat (first | exact find_head | apply find_tail | apply find_skip)) (by first  | rfl) | exact keeps_self | exact keeps_left | apply keeps_app | apply keeps_mv | apply keeps_skip))⟩
                                  · intro hg37; clear hl; intro hl
                                    try simp only [decide_eq_true_eq, decide_eq_false_iff_not, Bool.not_eq_true', Bool.not_eq_false', Bool.not_eq_true, Bool.not_eq_false, Bool.and_eq_true, Bool.or_eq_true, Bool.and_eq_false_iff, Bool.or_eq_false_iff, Bool.not_not, ne_eq, Int.not_lt, Int.not_le, Decidable.not_not, beq_iff_eq, bne_iff_ne] at hg37
                                    refine wl (wl_skip hl rfl ⟨_, _, rfl, rfl, rfl⟩ ?_)
                                    clear hl a; intro a hl
                                    refine wl (wl_skip hl rfl ⟨_, _, rfl, rfl, rfl⟩ ?_)
                                    clear hl a; intro a hl
                                    refine wl (wl_val hl rfl trivial (r_pickF hl rfl rfl) ?_)
                                    clear hl a; intro a hl
                                    refine w_nil ?_
                                    have hl2 := hl.add (t := 3) (hl.add (t := 17) (hl.add (t := 18) (hl.add (t := 19) (hl.add (t := 145) (hl.nil) rfl) rfl) rfl) rfl) rfl; clear hl; have hl := hl2; clear hl2
                                    refine then_normal ?_
                                    refine c_condF hl rfl ?_
                                    refine wp_skip ?_
                                    refine blk_normal ?_
                                    refine then_normal ?_
                                    refine c_region ?_
                                    first | refine wl (wl_val hl rfl trivial (r_add hl rfl rfl (by simp only [Fits]; omega)) ?_) | refine wl (wl_val hl rfl trivial (r_addW hl rfl rfl) ?_)
                                    clear hl a; intro a hl
                                    refine wl (wl_val hl rfl trivial (r_move hl rfl) ?_)
                                    clear hl a; intro a hl
                                    refine w_nil ?_
                                    have hl2 := hl.add (t := 3) (hl.add (t := 17) (hl.add (t := 18) (hl.add (t := 19) (hl.nil) rfl) rfl) rfl) rfl; clear hl; have hl := hl2; clear hl2
                                    refine then_normal ?_
                                    refine ⟨⟨g2, M2, z.i + 1⟩, (by simp only; omega), ⟨by simp only; omega, hS2, hG3⟩, hl.addE (t := 19) (hl.addE (t := 3) (hl.addE (t := 17) (hl.addE (t := 18) (hl.nil) rfl (by first | rfl | (congr 1; omega))) rfl (by first | rfl | (congr 1; omega))) rfl (by first | rfl | (congr 1; omega))) rfl (by first | rfl | (congr 1; omega)), hh.keep (by repeat (first | exact keeps_nil | apply keeps_cons (by repeat (first | exact find_head | apply find_tail | apply find_skip)) (by first  | rfl) | exact keeps_self | exact keeps_left | apply keeps_app | apply keeps_mv | apply keeps_skip))⟩
                              · intro hg36; clear hl; intro hl
                                try simp only [decide_eq_true_eq, decide_eq_false_iff_not, Bool.not_eq_true', Bool.not_eq_false', Bool.not_eq_true, Bool.not_eq_false, Bool.and_eq_true, Bool.or_eq_true, Bool.and_eq_false_iff, Bool.or_eq_false_iff, Bool.not_not, ne_eq, Int.not_lt, Int.not_le, Decidable.not_not, beq_iff_eq, bne_iff_ne] at hg36
                                refine wl (wl_skip hl rfl ⟨_, _, rfl, rfl, rfl⟩ ?_)
                                clear hl a; intro a hl
                                refine wl (wl_skip hl rfl ⟨_, _, rfl, rfl, rfl⟩ ?_)
                                clear hl a; intro a hl
                                refine wl (wl_val hl rfl ⟨_, _, rfl, rfl, rfl⟩ (r_pickF hl rfl rfl) ?_)
                                clear hl a; intro a hl
                                refine wl (wl_val hl rfl trivial (r_pickF hl rfl rfl) ?_)
                                clear hl a; intro a hl
                                refine w_nil ?_
                                have hl2 := hl.add (t := 3) (hl.add (t := 6) (hl.add (t := 9) (hl.add (t := 17) (hl.add (t := 18) (hl.add (t := 19) (hl.add (t := 135) (hl.nil) rfl) rfl) rfl) rfl) rfl) rfl) rfl; clear hl; have hl := hl2; clear hl2
                                refine then_normal ?_
                                refine c_condF hl rfl ?_
                                refine wp_skip ?_
                                refine then_normal ?_
                                refine c_seq ?_
                                refine c_region ?_
                                refine wl (wl_val hl rfl trivial (r_move hl rfl) ?_)
                                clear hl a; intro a hl
                                refine wl (w_call hl hh rfl trivial rfl cal28 rfl (snap_spec hS9 bc (40 * ((z.i + 1 : Nat) : Int) + 1) (400 * ((z.i + 1 : Nat) : Int) + 4) ⟨by omega, by omega⟩ hG9) (by repeat (first | exact keeps_nil | apply keeps_cons (by repeat (first | exact find_head | apply find_tail | apply find_skip)) (by first  | rfl) | exact keeps_self | exact keeps_left | apply keeps_app | apply keeps_mv | apply keeps_skip)) (memK (E := sysL bc M9) hh (by repeat (first | exact keeps_nil | apply keeps_cons (by repeat (first | exact find_head | apply find_tail | apply find_skip)) (by first  | rfl) | exact keeps_self | exact keeps_left | apply keeps_app | apply keeps_mv | apply keeps_skip))) ?_)
                                clear hl hh a w; intro vc Fc a w hR hl hh
                                obtain ⟨ev9, bv9, Ee9, Eb9, rfl, hSn9, rfl⟩ := hR
                                try simp only [List.cons_append, List.nil_append, List.append_assoc, List.append_nil] at hh
                                refine wl (wl_val hl rfl trivial (r_move hl rfl) ?_)
                                clear hl a; intro a hl
                                refine wl (w_call hl hh rfl trivial rfl cal28 rfl (snap_spec hS2 bg (40 * ((z.i + 1 : Nat) : Int)) (400 * ((z.i + 1 : Nat) : Int)) ⟨by omega, by omega⟩ hG3) (by repeat (first | exact keeps_nil | apply keeps_cons (by repeat (first | exact find_head | apply find_tail | apply find_skip)) (by first  | rfl) | exact keeps_self | exact keeps_left | apply keeps_app | apply keeps_mv | apply keeps_skip)) (memK (E := sysL bg M2) hh (by repeat (first | exact keeps_nil | apply keeps_cons (by repeat (first | exact find_head | apply find_tail | apply find_skip)) (by first  | rfl) | exact keeps_self | exact keeps_left | apply keeps_app | apply keeps_mv | apply keeps_skip))) ?_)
                                clear hl hh a w; intro vc Fc a w hR hl hh
                                obtain ⟨ev2, bv2, Ee2, Eb2, rfl, hSn2, rfl⟩ := hR
                                try simp only [List.cons_append, List.nil_append, List.append_assoc, List.append_nil] at hh
                                refine wl (w_alloc hl hh rfl trivial zero75 rfl ?_)
                                clear hl hh a w; intro k10 a w hl hh
                                refine wl (w_alloc hl hh rfl trivial zero75 rfl ?_)
                                clear hl hh a w; intro k11 a w hl hh
                                refine wl (w_storeA hl hh trivial agg75 rfl rfl (by repeat (first | exact find_head | apply find_tail | apply find_skip)) (by exact snC_len _ _ _) (by first | exact Nat.le_of_eq (arrL_length _ _).symm | (rw [snC_len]; exact Nat.le_refl _)) (by first | exact snC_one hSn9 | exact snC_one hSn2) (by exact setL_whole (by first | rw [snC_len, arrL_length] | rw [snC_len, snC_len])) ?_)
                                clear hh w; intro w hh
                                refine wl (w_storeA hl hh trivial agg75 rfl rfl (by repeat (first | exact find_head | apply find_tail | apply find_skip)) (by exact snC_len _ _ _) (by first | exact Nat.le_of_eq (arrL_length _ _).symm | (rw [snC_len]; exact Nat.le_refl _)) (by first | exact snC_one hSn9 | exact snC_one hSn2) (by exact setL_whole (by first | rw [snC_len, arrL_length] | rw [snC_len, snC_len])) ?_)
                                clear hh w; intro w hh
                                refine w_nil ?_
                                have hl2 := hl.add (t := 3) (hl.add (t := 9) (hl.add (t := 10) (hl.add (t := 11) (hl.add (t := 17) (hl.add (t := 18) (hl.add (t := 19) (hl.nil) rfl) rfl) rfl) rfl) rfl) rfl) rfl; clear hl; have hl := hl2; clear hl2
                                refine then_normal ?_
                                refine c_seq ?_
                                refine c_region ?_
                                refine wl (wl_val hl rfl trivial (r_move hl rfl) ?_)
                                clear hl a; intro a hl
                                refine wl (wl_val hl rfl trivial (r_not hl rfl) ?_)
                                clear hl a; intro a hl
                                refine wl (wl_val hl rfl trivial (r_move hl rfl) ?_)
                                clear hl a; intro a hl
                                refine sl_split (t := 142) hl rfl ?_ ?_
                                · intro hg38; clear hl; intro hl
                                  try simp only [decide_eq_true_eq, decide_eq_false_iff_not, Bool.not_eq_true', Bool.not_eq_false', Bool.not_eq_true, Bool.not_eq_false, Bool.and_eq_true, Bool.or_eq_true, Bool.and_eq_false_iff, Bool.or_eq_false_iff, Bool.not_not, ne_eq, Int.not_lt, Int.not_le, Decidable.not_not, beq_iff_eq, bne_iff_ne] at hg38
                                  refine wl (w_call hl hh rfl ⟨_, _, rfl, rfl, rfl⟩ rfl cal29 rfl (eqState_spec (g := g2) (B := 40 * ((z.i + 1 : Nat) : Int)) (Q := 400 * ((z.i + 1 : Nat) : Int)) ⟨by omega, by omega⟩ hG3 k10 k11 ev9 bv9 ev2 bv2 Ee9 Eb9 Ee2 Eb2 ((hF9 (by simpa using by assumption)).1 ▸ hSn9) hSn2) (by repeat (first | exact keeps_nil | apply keeps_cons (by repeat (first | exact find_head | apply find_tail | apply find_skip)) (by first  | rfl) | exact keeps_self | exact keeps_left | apply keeps_app | apply keeps_mv | apply keeps_skip)) ⟨(hF9 (by simpa using by assumption)).1 ▸ (memK (E := snL k10 g9 ev9 bv9 Ee9 Eb9) hh (by repeat (first | exact keeps_nil | apply keeps_cons (by repeat (first | exact find_head | apply find_tail | apply find_skip)) (by first  | rfl) | exact keeps_self | exact keeps_left | apply keeps_app | apply keeps_mv | apply keeps_skip))), memK (E := snL k11 g2 ev2 bv2 Ee2 Eb2) hh (by repeat (first | exact keeps_nil | apply keeps_cons (by repeat (first | exact find_head | apply find_tail | apply find_skip)) (by first  | rfl) | exact keeps_self | exact keeps_left | apply keeps_app | apply keeps_mv | apply keeps_skip))⟩ ?_)
                                  clear hl hh a w; intro vc Fc a w hR hl hh
                                  obtain ⟨rfl, rfl⟩ := hR
                                  try simp only [List.cons_append, List.nil_append, List.append_assoc, List.append_nil] at hh
                                  refine wl (wl_val hl rfl ⟨_, _, rfl, rfl, rfl⟩ (r_not hl rfl) ?_)
                                  clear hl a; intro a hl
                                  refine wl (wl_val hl rfl trivial (r_pickT hl rfl rfl) ?_)
                                  clear hl a; intro a hl
                                  refine w_nil ?_
                                  have hl2 := hl.add (t := 3) (hl.add (t := 17) (hl.add (t := 18) (hl.add (t := 19) (hl.add (t := 145) (hl.nil) rfl) rfl) rfl) rfl) rfl; clear hl; have hl := hl2; clear hl2
                                  refine then_normal ?_
                                  refine c_cond hl rfl ?_ ?_
                                  · intro hc3
                                    try simp only [decide_eq_true_eq, decide_eq_false_iff_not, Bool.not_eq_true', Bool.not_eq_false', Bool.not_eq_true, Bool.not_eq_false, Bool.and_eq_true, Bool.or_eq_true, Bool.and_eq_false_iff, Bool.or_eq_false_iff, Bool.not_not, ne_eq, Int.not_lt, Int.not_le, Decidable.not_not, beq_iff_eq, bne_iff_ne] at hc3
                                    exfalso; first | contradiction | exact abs10a (by assumption) hT9 (fun h => (hF9 h).2) | exact absurd (hF9 (by simpa using by assumption)).2 (by assumption)
                                  · intro hc3
                                    try simp only [decide_eq_true_eq, decide_eq_false_iff_not, Bool.not_eq_true', Bool.not_eq_false', Bool.not_eq_true, Bool.not_eq_false, Bool.and_eq_true, Bool.or_eq_true, Bool.and_eq_false_iff, Bool.or_eq_false_iff, Bool.not_not, ne_eq, Int.not_lt, Int.not_le, Decidable.not_not, beq_iff_eq, bne_iff_ne] at hc3
                                    refine wp_skip ?_
                                    refine blk_normal ?_
                                    refine then_normal ?_
                                    refine c_region ?_
                                    first | refine wl (wl_val hl rfl trivial (r_add hl rfl rfl (by simp only [Fits]; omega)) ?_) | refine wl (wl_val hl rfl trivial (r_addW hl rfl rfl) ?_)
                                    clear hl a; intro a hl
                                    refine wl (wl_val hl rfl trivial (r_move hl rfl) ?_)
                                    clear hl a; intro a hl
                                    refine w_nil ?_
                                    have hl2 := hl.add (t := 3) (hl.add (t := 17) (hl.add (t := 18) (hl.add (t := 19) (hl.nil) rfl) rfl) rfl) rfl; clear hl; have hl := hl2; clear hl2
                                    refine then_normal ?_
                                    refine ⟨⟨g2, M2, z.i + 1⟩, (by simp only; omega), ⟨by simp only; omega, hS2, hG3⟩, hl.addE (t := 19) (hl.addE (t := 3) (hl.addE (t := 17) (hl.addE (t := 18) (hl.nil) rfl (by first | rfl | (congr 1; omega))) rfl (by first | rfl | (congr 1; omega))) rfl (by first | rfl | (congr 1; omega))) rfl (by first | rfl | (congr 1; omega)), hh.keep (by repeat (first | exact keeps_nil | apply keeps_cons (by repeat (first | exact find_head | apply find_tail | apply find_skip)) (by first  | rfl) | exact keeps_self | exact keeps_left | apply keeps_app | apply keeps_mv | apply keeps_skip))⟩
                                · intro hg38; clear hl; intro hl
                                  try simp only [decide_eq_true_eq, decide_eq_false_iff_not, Bool.not_eq_true', Bool.not_eq_false', Bool.not_eq_true, Bool.not_eq_false, Bool.and_eq_true, Bool.or_eq_true, Bool.and_eq_false_iff, Bool.or_eq_false_iff, Bool.not_not, ne_eq, Int.not_lt, Int.not_le, Decidable.not_not, beq_iff_eq, bne_iff_ne] at hg38
                                  refine wl (wl_skip hl rfl ⟨_, _, rfl, rfl, rfl⟩ ?_)
                                  clear hl a; intro a hl
                                  refine wl (wl_skip hl rfl ⟨_, _, rfl, rfl, rfl⟩ ?_)
                                  clear hl a; intro a hl
                                  refine wl (wl_val hl rfl trivial (r_pickF hl rfl rfl) ?_)
                                  clear hl a; intro a hl
                                  refine w_nil ?_
                                  have hl2 := hl.add (t := 3) (hl.add (t := 17) (hl.add (t := 18) (hl.add (t := 19) (hl.add (t := 145) (hl.nil) rfl) rfl) rfl) rfl) rfl; clear hl; have hl := hl2; clear hl2
                                  refine then_normal ?_
                                  refine c_condF hl rfl ?_
                                  refine wp_skip ?_
                                  refine blk_normal ?_
                                  refine then_normal ?_
                                  refine c_region ?_
                                  first | refine wl (wl_val hl rfl trivial (r_add hl rfl rfl (by simp only [Fits]; omega)) ?_) | refine wl (wl_val hl rfl trivial (r_addW hl rfl rfl) ?_)
                                  clear hl a; intro a hl
                                  refine wl (wl_val hl rfl trivial (r_move hl rfl) ?_)
                                  clear hl a; intro a hl
                                  refine w_nil ?_
                                  have hl2 := hl.add (t := 3) (hl.add (t := 17) (hl.add (t := 18) (hl.add (t := 19) (hl.nil) rfl) rfl) rfl) rfl; clear hl; have hl := hl2; clear hl2
                                  refine then_normal ?_
                                  refine ⟨⟨g2, M2, z.i + 1⟩, (by simp only; omega), ⟨by simp only; omega, hS2, hG3⟩, hl.addE (t := 19) (hl.addE (t := 3) (hl.addE (t := 17) (hl.addE (t := 18) (hl.nil) rfl (by first | rfl | (congr 1; omega))) rfl (by first | rfl | (congr 1; omega))) rfl (by first | rfl | (congr 1; omega))) rfl (by first | rfl | (congr 1; omega)), hh.keep (by repeat (first | exact keeps_nil | apply keeps_cons (by repeat (first | exact find_head | apply find_tail | apply find_skip)) (by first  | rfl) | exact keeps_self | exact keeps_left | apply keeps_app | apply keeps_mv | apply keeps_skip))⟩
                          · intro hg34; clear hl; intro hl
                            try simp only [decide_eq_true_eq, decide_eq_false_iff_not, Bool.not_eq_true', Bool.not_eq_false', Bool.not_eq_true, Bool.not_eq_false, Bool.and_eq_true, Bool.or_eq_true, Bool.and_eq_false_iff, Bool.or_eq_false_iff, Bool.not_not, ne_eq, Int.not_lt, Int.not_le, Decidable.not_not, beq_iff_eq, bne_iff_ne] at hg34
                            refine wl (wl_skip hl rfl ⟨_, _, rfl, rfl, rfl⟩ ?_)
                            clear hl a; intro a hl
                            refine wl (wl_skip hl rfl ⟨_, _, rfl, rfl, rfl⟩ ?_)
                            clear hl a; intro a hl
                            refine wl (wl_skip hl rfl ⟨_, _, rfl, rfl, rfl⟩ ?_)
                            clear hl a; intro a hl
                            refine wl (wl_val hl rfl ⟨_, _, rfl, rfl, rfl⟩ (r_pickF hl rfl rfl) ?_)
                            clear hl a; intro a hl
                            refine wl (wl_val hl rfl ⟨_, _, rfl, rfl, rfl⟩ (r_pickF hl rfl rfl) ?_)
                            clear hl a; intro a hl
                            refine wl (wl_val hl rfl trivial (r_pickT hl rfl rfl) ?_)
                            clear hl a; intro a hl
                            refine wl (wl_val hl rfl trivial (r_assign hl rfl) ?_)
                            clear hl a; intro a hl
                            refine w_nil ?_
                            have hl2 := hl.add (t := 3) (hl.add (t := 6) (hl.add (t := 8) (hl.add (t := 9) (hl.add (t := 17) (hl.add (t := 18) (hl.add (t := 19) (hl.nil) rfl) rfl) rfl) rfl) rfl) rfl) rfl; clear hl; have hl := hl2; clear hl2
                            have hl9 := hl.addE (t := 9) hl rfl (congrArg Value.bool (dec10b hok (by unfold S10; first | (simp only [true_iff, Bool.false_eq_true, false_iff]; omega) | (rw [decide_eq_true_eq]; omega))))
                            rw [← hsd9] at hl9
                            clear hl
                            have hl := hl9
                            clear hl9
                            try clear hg1; try clear hg2
                            refine then_normal ?_
                            refine c_seq ?_
                            refine c_seq ?_
                            refine c_region ?_
                            refine wl (wl_val hl rfl trivial (r_move hl rfl) ?_)
                            clear hl a; intro a hl
                            refine wl (wl_val hl rfl trivial (r_move hl rfl) ?_)
                            clear hl a; intro a hl
                            refine wl (wl_val hl rfl trivial (r_eql hl rfl rfl) ?_)
                            clear hl a; intro a hl
                            refine wl (wl_val hl rfl trivial (r_neq_bool hl rfl rfl Tryd.underlying4) ?_)
                            clear hl a; intro a hl
                            refine wl (wl_val hl rfl trivial (r_move hl rfl) ?_)
                            clear hl a; intro a hl
                            refine sl_split (t := 128) hl rfl ?_ ?_
                            · intro hg39; clear hl; intro hl
                              try simp only [decide_eq_true_eq, decide_eq_false_iff_not, Bool.not_eq_true', Bool.not_eq_false', Bool.not_eq_true, Bool.not_eq_false, Bool.and_eq_true, Bool.or_eq_true, Bool.and_eq_false_iff, Bool.or_eq_false_iff, Bool.not_not, ne_eq, Int.not_lt, Int.not_le, Decidable.not_not, beq_iff_eq, bne_iff_ne] at hg39
                              exfalso; first | contradiction | exact abs10a (by assumption) hT9 (fun h => (hF9 h).2) | exact absurd (hF9 (by simpa using by assumption)).2 (by assumption)
                            · intro hg39; clear hl; intro hl
                              try simp only [decide_eq_true_eq, decide_eq_false_iff_not, Bool.not_eq_true', Bool.not_eq_false', Bool.not_eq_true, Bool.not_eq_false, Bool.and_eq_true, Bool.or_eq_true, Bool.and_eq_false_iff, Bool.or_eq_false_iff, Bool.not_not, ne_eq, Int.not_lt, Int.not_le, Decidable.not_not, beq_iff_eq, bne_iff_ne] at hg39
                              refine wl (wl_val hl rfl ⟨_, _, rfl, rfl, rfl⟩ (r_move hl rfl) ?_)
                              clear hl a; intro a hl
                              refine wl (wl_val hl rfl ⟨_, _, rfl, rfl, rfl⟩ (r_not hl rfl) ?_)
                              clear hl a; intro a hl
                              refine wl (wl_val hl rfl ⟨_, _, rfl, rfl, rfl⟩ (r_move hl rfl) ?_)
                              clear hl a; intro a hl
                              refine sl_split (t := 131) hl rfl ?_ ?_
                              · intro hg40; clear hl; intro hl
                                try simp only [decide_eq_true_eq, decide_eq_false_iff_not, Bool.not_eq_true', Bool.not_eq_false', Bool.not_eq_true, Bool.not_eq_false, Bool.and_eq_true, Bool.or_eq_true, Bool.and_eq_false_iff, Bool.or_eq_false_iff, Bool.not_not, ne_eq, Int.not_lt, Int.not_le, Decidable.not_not, beq_iff_eq, bne_iff_ne] at hg40
                                refine wl (wl_val hl rfl ⟨_, _, rfl, rfl, rfl⟩ (r_move hl rfl) ?_)
                                clear hl a; intro a hl
                                refine wl (wl_val hl rfl ⟨_, _, rfl, rfl, rfl⟩ (r_neq hl rfl rfl) ?_)
                                clear hl a; intro a hl
                                refine wl (wl_val hl rfl ⟨_, _, rfl, rfl, rfl⟩ (r_pickT hl rfl rfl) ?_)
                                clear hl a; intro a hl
                                refine wl (wl_val hl rfl trivial (r_pickF hl rfl rfl) ?_)
                                clear hl a; intro a hl
                                refine w_nil ?_
                                have hl2 := hl.add (t := 3) (hl.add (t := 6) (hl.add (t := 9) (hl.add (t := 17) (hl.add (t := 18) (hl.add (t := 19) (hl.add (t := 135) (hl.nil) rfl) rfl) rfl) rfl) rfl) rfl) rfl; clear hl; have hl := hl2; clear hl2
                                refine then_normal ?_
                                refine c_cond hl rfl ?_ ?_
                                · intro hc2
                                  try simp only [decide_eq_true_eq, decide_eq_false_iff_not, Bool.not_eq_true', Bool.not_eq_false', Bool.not_eq_true, Bool.not_eq_false, Bool.and_eq_true, Bool.or_eq_true, Bool.and_eq_false_iff, Bool.or_eq_false_iff, Bool.not_not, ne_eq, Int.not_lt, Int.not_le, Decidable.not_not, beq_iff_eq, bne_iff_ne] at hc2
                                  exfalso; first | contradiction | exact abs10a (by assumption) hT9 (fun h => (hF9 h).2) | exact absurd (hF9 (by simpa using by assumption)).2 (by assumption)
                                · intro hc2
                                  try simp only [decide_eq_true_eq, decide_eq_false_iff_not, Bool.not_eq_true', Bool.not_eq_false', Bool.not_eq_true, Bool.not_eq_false, Bool.and_eq_true, Bool.or_eq_true, Bool.and_eq_false_iff, Bool.or_eq_false_iff, Bool.not_not, ne_eq, Int.not_lt, Int.not_le, Decidable.not_not, beq_iff_eq, bne_iff_ne] at hc2
                                  refine wp_skip ?_
                                  refine then_normal ?_
                                  refine c_seq ?_
                                  refine c_region ?_
                                  refine wl (wl_val hl rfl trivial (r_move hl rfl) ?_)
                                  clear hl a; intro a hl
                                  refine wl (w_call hl hh rfl trivial rfl cal28 rfl (snap_spec hS9 bc (40 * ((z.i + 1 : Nat) : Int) + 1) (400 * ((z.i + 1 : Nat) : Int) + 4) ⟨by omega, by omega⟩ hG9) (by repeat (first | exact keeps_nil | apply keeps_cons (by repeat (first | exact find_head | apply find_tail | apply find_skip)) (by first  | rfl) | exact keeps_self | exact keeps_left | apply keeps_app | apply keeps_mv | apply keeps_skip)) (memK (E := sysL bc M9) hh (by repeat (first | exact keeps_nil | apply keeps_cons (by repeat (first | exact find_head | apply find_tail | apply find_skip)) (by first  | rfl) | exact keeps_self | exact keeps_left | apply keeps_app | apply keeps_mv | apply keeps_skip))) ?_)
                                  clear hl hh a w; intro vc Fc a w hR hl hh
                                  obtain ⟨ev9, bv9, Ee9, Eb9, rfl, hSn9, rfl⟩ := hR
                                  try simp only [List.cons_append, List.nil_append, List.append_assoc, List.append_nil] at hh
                                  refine wl (wl_val hl rfl trivial (r_move hl rfl) ?_)
                                  clear hl a; intro a hl
                                  refine wl (w_call hl hh rfl trivial rfl cal28 rfl (snap_spec hS2 bg (40 * ((z.i + 1 : Nat) : Int)) (400 * ((z.i + 1 : Nat) : Int)) ⟨by omega, by omega⟩ hG3) (by repeat (first | exact keeps_nil | apply keeps_cons (by repeat (first | exact find_head | apply find_tail | apply find_skip)) (by first  | rfl) | exact keeps_self | exact keeps_left | apply keeps_app | apply keeps_mv | apply keeps_skip)) (memK (E := sysL bg M2) hh (by repeat (first | exact keeps_nil | apply keeps_cons (by repeat (first | exact find_head | apply find_tail | apply find_skip)) (by first  | rfl) | exact keeps_self | exact keeps_left | apply keeps_app | apply keeps_mv | apply keeps_skip))) ?_)
                                  clear hl hh a w; intro vc Fc a w hR hl hh
                                  obtain ⟨ev2, bv2, Ee2, Eb2, rfl, hSn2, rfl⟩ := hR
                                  try simp only [List.cons_append, List.nil_append, List.append_assoc, List.append_nil] at hh
                                  refine wl (w_alloc hl hh rfl trivial zero75 rfl ?_)
                                  clear hl hh a w; intro k10 a w hl hh
                                  refine wl (w_alloc hl hh rfl trivial zero75 rfl ?_)
                                  clear hl hh a w; intro k11 a w hl hh
                                  refine wl (w_storeA hl hh trivial agg75 rfl rfl (by repeat (first | exact find_head | apply find_tail | apply find_skip)) (by exact snC_len _ _ _) (by first | exact Nat.le_of_eq (arrL_length _ _).symm | (rw [snC_len]; exact Nat.le_refl _)) (by first | exact snC_one hSn9 | exact snC_one hSn2) (by exact setL_whole (by first | rw [snC_len, arrL_length] | rw [snC_len, snC_len])) ?_)
                                  clear hh w; intro w hh
                                  refine wl (w_storeA hl hh trivial agg75 rfl rfl (by repeat (first | exact find_head | apply find_tail | apply find_skip)) (by exact snC_len _ _ _) (by first | exact Nat.le_of_eq (arrL_length _ _).symm | (rw [snC_len]; exact Nat.le_refl _)) (by first | exact snC_one hSn9 | exact snC_one hSn2) (by exact setL_whole (by first | rw [snC_len, arrL_length] | rw [snC_len, snC_len])) ?_)
                                  clear hh w; intro w hh
                                  refine w_nil ?_
                                  have hl2 := hl.add (t := 3) (hl.add (t := 9) (hl.add (t := 10) (hl.add (t := 11) (hl.add (t := 17) (hl.add (t := 18) (hl.add (t := 19) (hl.nil) rfl) rfl) rfl) rfl) rfl) rfl) rfl; clear hl; have hl := hl2; clear hl2
                                  refine then_normal ?_
                                  refine c_seq ?_
                                  refine c_region ?_
                                  refine wl (wl_val hl rfl trivial (r_move hl rfl) ?_)
                                  clear hl a; intro a hl
                                  refine wl (wl_val hl rfl trivial (r_not hl rfl) ?_)
                                  clear hl a; intro a hl
                                  refine wl (wl_val hl rfl trivial (r_move hl rfl) ?_)
                                  clear hl a; intro a hl
                                  refine sl_split (t := 142) hl rfl ?_ ?_
                                  · intro hg41; clear hl; intro hl
                                    try simp only [decide_eq_true_eq, decide_eq_false_iff_not, Bool.not_eq_true', Bool.not_eq_false', Bool.not_eq_true, Bool.not_eq_false, Bool.and_eq_true, Bool.or_eq_true, Bool.and_eq_false_iff, Bool.or_eq_false_iff, Bool.not_not, ne_eq, Int.not_lt, Int.not_le, Decidable.not_not, beq_iff_eq, bne_iff_ne] at hg41
                                    refine wl (w_call hl hh rfl ⟨_, _, rfl, rfl, rfl⟩ rfl cal29 rfl (eqState_spec (g := g2) (B := 40 * ((z.i + 1 : Nat) : Int)) (Q := 400 * ((z.i + 1 : Nat) : Int)) ⟨by omega, by omega⟩ hG3 k10 k11 ev9 bv9 ev2 bv2 Ee9 Eb9 Ee2 Eb2 ((hF9 (by simpa using by assumption)).1 ▸ hSn9) hSn2) (by repeat (first | exact keeps_nil | apply keeps_cons (by repeat (first | exact find_head | apply find_tail | apply find_skip)) (by first  | rfl) | exact keeps_self | exact keeps_left | apply keeps_app | apply keeps_mv | apply keeps_skip)) ⟨(hF9 (by simpa using by assumption)).1 ▸ (memK (E := snL k10 g9 ev9 bv9 Ee9 Eb9) hh (by repeat (first | exact keeps_nil | apply keeps_cons (by repeat (first | exact find_head | apply find_tail | apply find_skip)) (by first  | rfl) | exact keeps_self | exact keeps_left | apply keeps_app | apply keeps_mv | apply keeps_skip))), memK (E := snL k11 g2 ev2 bv2 Ee2 Eb2) hh (by repeat (first | exact keeps_nil | apply keeps_cons (by repeat (first | exact find_head | apply find_tail | apply find_skip)) (by first  | rfl) | exact keeps_self | exact keeps_left | apply keeps_app | apply keeps_mv | apply keeps_skip))⟩ ?_)
                                    clear hl hh a w; intro vc Fc a w hR hl hh
                                    obtain ⟨rfl, rfl⟩ := hR
                                    try simp only [List.cons_append, List.nil_append, List.append_assoc, List.append_nil] at hh
                                    refine wl (wl_val hl rfl ⟨_, _, rfl, rfl, rfl⟩ (r_not hl rfl) ?_)
                                    clear hl a; intro a hl
                                    refine wl (wl_val hl rfl trivial (r_pickT hl rfl rfl) ?_)
                                    clear hl a; intro a hl
                                    refine w_nil ?_
                                    have hl2 := hl.add (t := 3) (hl.add (t := 17) (hl.add (t := 18) (hl.add (t := 19) (hl.add (t := 145) (hl.nil) rfl) rfl) rfl) rfl) rfl; clear hl; have hl := hl2; clear hl2
                                    refine then_normal ?_
                                    refine c_cond hl rfl ?_ ?_
                                    · intro hc3
                                      try simp only [decide_eq_true_eq, decide_eq_false_iff_not, Bool.not_eq_true', Bool.not_eq_false', Bool.not_eq_true, Bool.not_eq_false, Bool.and_eq_true, Bool.or_eq_true, Bool.and_eq_false_iff, Bool.or_eq_false_iff, Bool.not_not, ne_eq, Int.not_lt, Int.not_le, Decidable.not_not, beq_iff_eq, bne_iff_ne] at hc3
                                      exfalso; first | contradiction | exact abs10a (by assumption) hT9 (fun h => (hF9 h).2) | exact absurd (hF9 (by simpa using by assumption)).2 (by assumption)
                                    · intro hc3
                                      try simp only [decide_eq_true_eq, decide_eq_false_iff_not, Bool.not_eq_true', Bool.not_eq_false', Bool.not_eq_true, Bool.not_eq_false, Bool.and_eq_true, Bool.or_eq_true, Bool.and_eq_false_iff, Bool.or_eq_false_iff, Bool.not_not, ne_eq, Int.not_lt, Int.not_le, Decidable.not_not, beq_iff_eq, bne_iff_ne] at hc3
                                      refine wp_skip ?_
                                      refine blk_normal ?_
                                      refine then_normal ?_
                                      refine c_region ?_
                                      first | refine wl (wl_val hl rfl trivial (r_add hl rfl rfl (by simp only [Fits]; omega)) ?_) | refine wl (wl_val hl rfl trivial (r_addW hl rfl rfl) ?_)
                                      clear hl a; intro a hl
                                      refine wl (wl_val hl rfl trivial (r_move hl rfl) ?_)
                                      clear hl a; intro a hl
                                      refine w_nil ?_
                                      have hl2 := hl.add (t := 3) (hl.add (t := 17) (hl.add (t := 18) (hl.add (t := 19) (hl.nil) rfl) rfl) rfl) rfl; clear hl; have hl := hl2; clear hl2
                                      refine then_normal ?_
                                      refine ⟨⟨g2, M2, z.i + 1⟩, (by simp only; omega), ⟨by simp only; omega, hS2, hG3⟩, hl.addE (t := 19) (hl.addE (t := 3) (hl.addE (t := 17) (hl.addE (t := 18) (hl.nil) rfl (by first | rfl | (congr 1; omega))) rfl (by first | rfl | (congr 1; omega))) rfl (by first | rfl | (congr 1; omega))) rfl (by first | rfl | (congr 1; omega)), hh.keep (by repeat (first | exact keeps_nil | apply keeps_cons (by repeat (first | exact find_head | apply find_tail | apply find_skip)) (by first  | rfl) | exact keeps_self | exact keeps_left | apply keeps_app | apply keeps_mv | apply keeps_skip))⟩
                                  · intro hg41; clear hl; intro hl
                                    try simp only [decide_eq_true_eq, decide_eq_false_iff_not, Bool.not_eq_true', Bool.not_eq_false', Bool.not_eq_true, Bool.not_eq_false, Bool.and_eq_true, Bool.or_eq_true, Bool.and_eq_false_iff, Bool.or_eq_false_iff, Bool.not_not, ne_eq, Int.not_lt, Int.not_le, Decidable.not_not, beq_iff_eq, bne_iff_ne] at hg41
                                    refine wl (wl_skip hl rfl ⟨_, _, rfl, rfl, rfl⟩ ?_)
                                    clear hl a; intro a hl
                                    refine wl (wl_skip hl rfl ⟨_, _, rfl, rfl, rfl⟩ ?_)
                                    clear hl a; intro a hl
                                    refine wl (wl_val hl rfl trivial (r_pickF hl rfl rfl) ?_)
                                    clear hl a; intro a hl
                                    refine w_nil ?_
                                    have hl2 := hl.add (t := 3) (hl.add (t := 17) (hl.add (t := 18) (hl.add (t := 19) (hl.add (t := 145) (hl.nil) rfl) rfl) rfl) rfl) rfl; clear hl; have hl := hl2; clear hl2
                                    refine then_normal ?_
                                    refine c_condF hl rfl ?_
                                    refine wp_skip ?_
                                    refine blk_normal ?_
                                    refine then_normal ?_
                                    refine c_region ?_
                                    first | refine wl (wl_val hl rfl trivial (r_add hl rfl rfl (by simp only [Fits]; omega)) ?_) | refine wl (wl_val hl rfl trivial (r_addW hl rfl rfl) ?_)
                                    clear hl a; intro a hl
                                    refine wl (wl_val hl rfl trivial (r_move hl rfl) ?_)
                                    clear hl a; intro a hl
                                    refine w_nil ?_
                                    have hl2 := hl.add (t := 3) (hl.add (t := 17) (hl.add (t := 18) (hl.add (t := 19) (hl.nil) rfl) rfl) rfl) rfl; clear hl; have hl := hl2; clear hl2
                                    refine then_normal ?_
                                    refine ⟨⟨g2, M2, z.i + 1⟩, (by simp only; omega), ⟨by simp only; omega, hS2, hG3⟩, hl.addE (t := 19) (hl.addE (t := 3) (hl.addE (t := 17) (hl.addE (t := 18) (hl.nil) rfl (by first | rfl | (congr 1; omega))) rfl (by first | rfl | (congr 1; omega))) rfl (by first | rfl | (congr 1; omega))) rfl (by first | rfl | (congr 1; omega)), hh.keep (by repeat (first | exact keeps_nil | apply keeps_cons (by repeat (first | exact find_head | apply find_tail | apply find_skip)) (by first  | rfl) | exact keeps_self | exact keeps_left | apply keeps_app | apply keeps_mv | apply keeps_skip))⟩
                              · intro hg40; clear hl; intro hl
                                try simp only [decide_eq_true_eq, decide_eq_false_iff_not, Bool.not_eq_true', Bool.not_eq_false', Bool.not_eq_true, Bool.not_eq_false, Bool.and_eq_true, Bool.or_eq_true, Bool.and_eq_false_iff, Bool.or_eq_false_iff, Bool.not_not, ne_eq, Int.not_lt, Int.not_le, Decidable.not_not, beq_iff_eq, bne_iff_ne] at hg40
                                refine wl (wl_skip hl rfl ⟨_, _, rfl, rfl, rfl⟩ ?_)
                                clear hl a; intro a hl
                                refine wl (wl_skip hl rfl ⟨_, _, rfl, rfl, rfl⟩ ?_)
                                clear hl a; intro a hl
                                refine wl (wl_val hl rfl ⟨_, _, rfl, rfl, rfl⟩ (r_pickF hl rfl rfl) ?_)
                                clear hl a; intro a hl
                                refine wl (wl_val hl rfl trivial (r_pickF hl rfl rfl) ?_)
                                clear hl a; intro a hl
                                refine w_nil ?_
                                have hl2 := hl.add (t := 3) (hl.add (t := 6) (hl.add (t := 9) (hl.add (t := 17) (hl.add (t := 18) (hl.add (t := 19) (hl.add (t := 135) (hl.nil) rfl) rfl) rfl) rfl) rfl) rfl) rfl; clear hl; have hl := hl2; clear hl2
                                refine then_normal ?_
                                refine c_condF hl rfl ?_
                                refine wp_skip ?_
                                refine then_normal ?_
                                refine c_seq ?_
                                refine c_region ?_
                                refine wl (wl_val hl rfl trivial (r_move hl rfl) ?_)
                                clear hl a; intro a hl
                                refine wl (w_call hl hh rfl trivial rfl cal28 rfl (snap_spec hS9 bc (40 * ((z.i + 1 : Nat) : Int) + 1) (400 * ((z.i + 1 : Nat) : Int) + 4) ⟨by omega, by omega⟩ hG9) (by repeat (first | exact keeps_nil | apply keeps_cons (by repeat (first | exact find_head | apply find_tail | apply find_skip)) (by first  | rfl) | exact keeps_self | exact keeps_left | apply keeps_app | apply keeps_mv | apply keeps_skip)) (memK (E := sysL bc M9) hh (by repeat (first | exact keeps_nil | apply keeps_cons (by repeat (first | exact find_head | apply find_tail | apply find_skip)) (by first  | rfl) | exact keeps_self | exact keeps_left | apply keeps_app | apply keeps_mv | apply keeps_skip))) ?_)
                                clear hl hh a w; intro vc Fc a w hR hl hh
                                obtain ⟨ev9, bv9, Ee9, Eb9, rfl, hSn9, rfl⟩ := hR
                                try simp only [List.cons_append, List.nil_append, List.append_assoc, List.append_nil] at hh
                                refine wl (wl_val hl rfl trivial (r_move hl rfl) ?_)
                                clear hl a; intro a hl
                                refine wl (w_call hl hh rfl trivial rfl cal28 rfl (snap_spec hS2 bg (40 * ((z.i + 1 : Nat) : Int)) (400 * ((z.i + 1 : Nat) : Int)) ⟨by omega, by omega⟩ hG3) (by repeat (first | exact keeps_nil | apply keeps_cons (by repeat (first | exact find_head | apply find_tail | apply find_skip)) (by first  | rfl) | exact keeps_self | exact keeps_left | apply keeps_app | apply keeps_mv | apply keeps_skip)) (memK (E := sysL bg M2) hh (by repeat (first | exact keeps_nil | apply keeps_cons (by repeat (first | exact find_head | apply find_tail | apply find_skip)) (by first  | rfl) | exact keeps_self | exact keeps_left | apply keeps_app | apply keeps_mv | apply keeps_skip))) ?_)
                                clear hl hh a w; intro vc Fc a w hR hl hh
                                obtain ⟨ev2, bv2, Ee2, Eb2, rfl, hSn2, rfl⟩ := hR
                                try simp only [List.cons_append, List.nil_append, List.append_assoc, List.append_nil] at hh
                                refine wl (w_alloc hl hh rfl trivial zero75 rfl ?_)
                                clear hl hh a w; intro k10 a w hl hh
                                refine wl (w_alloc hl hh rfl trivial zero75 rfl ?_)
                                clear hl hh a w; intro k11 a w hl hh
                                refine wl (w_storeA hl hh trivial agg75 rfl rfl (by repeat (first | exact find_head | apply find_tail | apply find_skip)) (by exact snC_len _ _ _) (by first | exact Nat.le_of_eq (arrL_length _ _).symm | (rw [snC_len]; exact Nat.le_refl _)) (by first | exact snC_one hSn9 | exact snC_one hSn2) (by exact setL_whole (by first | rw [snC_len, arrL_length] | rw [snC_len, snC_len])) ?_)
                                clear hh w; intro w hh
                                refine wl (w_storeA hl hh trivial agg75 rfl rfl (by repeat (first | exact find_head | apply find_tail | apply find_skip)) (by exact snC_len _ _ _) (by first | exact Nat.le_of_eq (arrL_length _ _).symm | (rw [snC_len]; exact Nat.le_refl _)) (by first | exact snC_one hSn9 | exact snC_one hSn2) (by exact setL_whole (by first | rw [snC_len, arrL_length] | rw [snC_len, snC_len])) ?_)
                                clear hh w; intro w hh
                                refine w_nil ?_
                                have hl2 := hl.add (t := 3) (hl.add (t := 9) (hl.add (t := 10) (hl.add (t := 11) (hl.add (t := 17) (hl.add (t := 18) (hl.add (t := 19) (hl.nil) rfl) rfl) rfl) rfl) rfl) rfl) rfl; clear hl; have hl := hl2; clear hl2
                                refine then_normal ?_
                                refine c_seq ?_
                                refine c_region ?_
                                refine wl (wl_val hl rfl trivial (r_move hl rfl) ?_)
                                clear hl a; intro a hl
                                refine wl (wl_val hl rfl trivial (r_not hl rfl) ?_)
                                clear hl a; intro a hl
                                refine wl (wl_val hl rfl trivial (r_move hl rfl) ?_)
                                clear hl a; intro a hl
                                refine sl_split (t := 142) hl rfl ?_ ?_
                                · intro hg42; clear hl; intro hl
                                  try simp only [decide_eq_true_eq, decide_eq_false_iff_not, Bool.not_eq_true', Bool.not_eq_false', Bool.not_eq_true, Bool.not_eq_false, Bool.and_eq_true, Bool.or_eq_true, Bool.and_eq_false_iff, Bool.or_eq_false_iff, Bool.not_not, ne_eq, Int.not_lt, Int.not_le, Decidable.not_not, beq_iff_eq, bne_iff_ne] at hg42
                                  refine wl (w_call hl hh rfl ⟨_, _, rfl, rfl, rfl⟩ rfl cal29 rfl (eqState_spec (g := g2) (B := 40 * ((z.i + 1 : Nat) : Int)) (Q := 400 * ((z.i + 1 : Nat) : Int)) ⟨by omega, by omega⟩ hG3 k10 k11 ev9 bv9 ev2 bv2 Ee9 Eb9 Ee2 Eb2 ((hF9 (by simpa using by assumption)).1 ▸ hSn9) hSn2) (by repeat (first | exact keeps_nil | apply keeps_cons (by repeat (first | exact find_head | apply find_tail | apply find_skip)) (by first  | rfl) | exact keeps_self | exact keeps_left | apply keeps_app | apply keeps_mv | apply keeps_skip)) ⟨(hF9 (by simpa using by assumption)).1 ▸ (memK (E := snL k10 g9 ev9 bv9 Ee9 Eb9) hh (by repeat (first | exact keeps_nil | apply keeps_cons (by repeat (first | exact find_head | apply find_tail | apply find_skip)) (by first  | rfl) | exact keeps_self | exact keeps_left | apply keeps_app | apply keeps_mv | apply keeps_skip))), memK (E := snL k11 g2 ev2 bv2 Ee2 Eb2) hh (by repeat (first | exact keeps_nil | apply keeps_cons (by repeat (first | exact find_head | apply find_tail | apply find_skip)) (by first  | rfl) | exact keeps_self | exact keeps_left | apply keeps_app | apply keeps_mv | apply keeps_skip))⟩ ?_)
                                  clear hl hh a w; intro vc Fc a w hR hl hh
                                  obtain ⟨rfl, rfl⟩ := hR
                                  try simp only [List.cons_append, List.nil_append, List.append_assoc, List.append_nil] at hh
                                  refine wl (wl_val hl rfl ⟨_, _, rfl, rfl, rfl⟩ (r_not hl rfl) ?_)
                                  clear hl a; intro a hl
                                  refine wl (wl_val hl rfl trivial (r_pickT hl rfl rfl) ?_)
                                  clear hl a; intro a hl
                                  refine w_nil ?_
                                  have hl2 := hl.add (t := 3) (hl.add (t := 17) (hl.add (t := 18) (hl.add (t := 19) (hl.add (t := 145) (hl.nil) rfl) rfl) rfl) rfl) rfl; clear hl; have hl := hl2; clear hl2
                                  refine then_normal ?_
                                  refine c_cond hl rfl ?_ ?_
                                  · intro hc3
                                    try simp only [decide_eq_true_eq, decide_eq_false_iff_not, Bool.not_eq_true', Bool.not_eq_false', Bool.not_eq_true, Bool.not_eq_false, Bool.and_eq_true, Bool.or_eq_true, Bool.and_eq_false_iff, Bool.or_eq_false_iff, Bool.not_not, ne_eq, Int.not_lt, Int.not_le, Decidable.not_not, beq_iff_eq, bne_iff_ne] at hc3
                                    exfalso; first | contradiction | exact abs10a (by assumption) hT9 (fun h => (hF9 h).2) | exact absurd (hF9 (by simpa using by assumption)).2 (by assumption)
                                  · intro hc3
                                    try simp only [decide_eq_true_eq, decide_eq_false_iff_not, Bool.not_eq_true', Bool.not_eq_false', Bool.not_eq_true, Bool.not_eq_false, Bool.and_eq_true, Bool.or_eq_true, Bool.and_eq_false_iff, Bool.or_eq_false_iff, Bool.not_not, ne_eq, Int.not_lt, Int.not_le, Decidable.not_not, beq_iff_eq, bne_iff_ne] at hc3
                                    refine wp_skip ?_
                                    refine blk_normal ?_
                                    refine then_normal ?_
                                    refine c_region ?_
                                    first | refine wl (wl_val hl rfl trivial (r_add hl rfl rfl (by simp only [Fits]; omega)) ?_) | refine wl (wl_val hl rfl trivial (r_addW hl rfl rfl) ?_)
                                    clear hl a; intro a hl
                                    refine wl (wl_val hl rfl trivial (r_move hl rfl) ?_)
                                    clear hl a; intro a hl
                                    refine w_nil ?_
                                    have hl2 := hl.add (t := 3) (hl.add (t := 17) (hl.add (t := 18) (hl.add (t := 19) (hl.nil) rfl) rfl) rfl) rfl; clear hl; have hl := hl2; clear hl2
                                    refine then_normal ?_
                                    refine ⟨⟨g2, M2, z.i + 1⟩, (by simp only; omega), ⟨by simp only; omega, hS2, hG3⟩, hl.addE (t := 19) (hl.addE (t := 3) (hl.addE (t := 17) (hl.addE (t := 18) (hl.nil) rfl (by first | rfl | (congr 1; omega))) rfl (by first | rfl | (congr 1; omega))) rfl (by first | rfl | (congr 1; omega))) rfl (by first | rfl | (congr 1; omega)), hh.keep (by repeat (first | exact keeps_nil | apply keeps_cons (by repeat (first | exact find_head | apply find_tail | apply find_skip)) (by first  | rfl) | exact keeps_self | exact keeps_left | apply keeps_app | apply keeps_mv | apply keeps_skip))⟩
                                · intro hg42; clear hl; intro hl
                                  try simp only [decide_eq_true_eq, decide_eq_false_iff_not, Bool.not_eq_true', Bool.not_eq_false', Bool.not_eq_true, Bool.not_eq_false, Bool.and_eq_true, Bool.or_eq_true, Bool.and_eq_false_iff, Bool.or_eq_false_iff, Bool.not_not, ne_eq, Int.not_lt, Int.not_le, Decidable.not_not, beq_iff_eq, bne_iff_ne] at hg42
                                  refine wl (wl_skip hl rfl ⟨_, _, rfl, rfl, rfl⟩ ?_)
                                  clear hl a; intro a hl
                                  refine wl (wl_skip hl rfl ⟨_, _, rfl, rfl, rfl⟩ ?_)
                                  clear hl a; intro a hl
                                  refine wl (wl_val hl rfl trivial (r_pickF hl rfl rfl) ?_)
                                  clear hl a; intro a hl
                                  refine w_nil ?_
                                  have hl2 := hl.add (t := 3) (hl.add (t := 17) (hl.add (t := 18) (hl.add (t := 19) (hl.add (t := 145) (hl.nil) rfl) rfl) rfl) rfl) rfl; clear hl; have hl := hl2; clear hl2
                                  refine then_normal ?_
                                  refine c_condF hl rfl ?_
                                  refine wp_skip ?_
                                  refine blk_normal ?_
                                  refine then_normal ?_
                                  refine c_region ?_
                                  first | refine wl (wl_val hl rfl trivial (r_add hl rfl rfl (by simp only [Fits]; omega)) ?_) | refine wl (wl_val hl rfl trivial (r_addW hl rfl rfl) ?_)
                                  clear hl a; intro a hl
                                  refine wl (wl_val hl rfl trivial (r_move hl rfl) ?_)
                                  clear hl a; intro a hl
                                  refine w_nil ?_
                                  have hl2 := hl.add (t := 3) (hl.add (t := 17) (hl.add (t := 18) (hl.add (t := 19) (hl.nil) rfl) rfl) rfl) rfl; clear hl; have hl := hl2; clear hl2
                                  refine then_normal ?_
                                  refine ⟨⟨g2, M2, z.i + 1⟩, (by simp only; omega), ⟨by simp only; omega, hS2, hG3⟩, hl.addE (t := 19) (hl.addE (t := 3) (hl.addE (t := 17) (hl.addE (t := 18) (hl.nil) rfl (by first | rfl | (congr 1; omega))) rfl (by first | rfl | (congr 1; omega))) rfl (by first | rfl | (congr 1; omega))) rfl (by first | rfl | (congr 1; omega)), hh.keep (by repeat (first | exact keeps_nil | apply keeps_cons (by repeat (first | exact find_head | apply find_tail | apply find_skip)) (by first  | rfl) | exact keeps_self | exact keeps_left | apply keeps_app | apply keeps_mv | apply keeps_skip))⟩
                    · intro hg8; clear hl; intro hl
                      try simp only [decide_eq_true_eq, decide_eq_false_iff_not, Bool.not_eq_true', Bool.not_eq_false', Bool.not_eq_true, Bool.not_eq_false, Bool.and_eq_true, Bool.or_eq_true, Bool.and_eq_false_iff, Bool.or_eq_false_iff, Bool.not_not, ne_eq, Int.not_lt, Int.not_le, Decidable.not_not, beq_iff_eq, bne_iff_ne] at hg8
                      refine wl (wl_skip hl rfl ⟨_, _, rfl, rfl, rfl⟩ ?_)
                      clear hl a; intro a hl
                      refine wl (wl_skip hl rfl ⟨_, _, rfl, rfl, rfl⟩ ?_)
                      clear hl a; intro a hl
                      refine wl (wl_skip hl rfl ⟨_, _, rfl, rfl, rfl⟩ ?_)
                      clear hl a; intro a hl
                      refine wl (wl_skip hl rfl ⟨_, _, rfl, rfl, rfl⟩ ?_)
                      clear hl a; intro a hl
                      refine wl (wl_skipU hl rfl ⟨_, _, rfl, rfl, rfl⟩ ?_)
                      clear hl a; intro a hl
                      refine wl (wl_skipU hl rfl ⟨_, _, rfl, rfl, rfl⟩ ?_)
                      clear hl a; intro a hl
                      refine wl (wl_skipU hl rfl ⟨_, _, rfl, rfl, rfl⟩ ?_)
                      clear hl a; intro a hl
                      refine wl (wl_skip hl rfl ⟨_, _, rfl, rfl, rfl⟩ ?_)
                      clear hl a; intro a hl
                      refine wl (wl_skip hl rfl ⟨_, _, rfl, rfl, rfl⟩ ?_)
                      clear hl a; intro a hl
                      refine wl (wl_skipU hl rfl ⟨_, _, rfl, rfl, rfl⟩ ?_)
                      clear hl a; intro a hl
                      refine wl (wl_skipU hl rfl ⟨_, _, rfl, rfl, rfl⟩ ?_)
                      clear hl a; intro a hl
                      refine wl (wl_skipU hl rfl ⟨_, _, rfl, rfl, rfl⟩ ?_)
                      clear hl a; intro a hl
                      refine wl (wl_skipU hl rfl ⟨_, _, rfl, rfl, rfl⟩ ?_)
                      clear hl a; intro a hl
                      refine wl (wl_skipU hl rfl ⟨_, _, rfl, rfl, rfl⟩ ?_)
                      clear hl a; intro a hl
                      refine wl (wl_skipU hl rfl ⟨_, _, rfl, rfl, rfl⟩ ?_)
                      clear hl a; intro a hl
                      refine wl (wl_skipU hl rfl ⟨_, _, rfl, rfl, rfl⟩ ?_)
                      clear hl a; intro a hl
                      refine wl (wl_skipU hl rfl ⟨_, _, rfl, rfl, rfl⟩ ?_)
                      clear hl a; intro a hl
                      refine wl (wl_skipU hl rfl ⟨_, _, rfl, rfl, rfl⟩ ?_)
                      clear hl a; intro a hl
                      refine wl (wl_skipU hl rfl ⟨_, _, rfl, rfl, rfl⟩ ?_)
                      clear hl a; intro a hl
                      refine wl (wl_skipU hl rfl ⟨_, _, rfl, rfl, rfl⟩ ?_)
                      clear hl a; intro a hl
                      refine wl (wl_skipU hl rfl ⟨_, _, rfl, rfl, rfl⟩ ?_)
                      clear hl a; intro a hl
                      refine wl (wl_skipU hl rfl ⟨_, _, rfl, rfl, rfl⟩ ?_)
                      clear hl a; intro a hl
                      refine wl (wl_skip hl rfl ⟨_, _, rfl, rfl, rfl⟩ ?_)
                      clear hl a; intro a hl
                      refine wl (wl_val hl rfl trivial (r_pickF hl rfl rfl) ?_)
                      clear hl a; intro a hl
                      refine wl (wl_val hl rfl trivial (r_assign hl rfl) ?_)
                      clear hl a; intro a hl
                      refine w_nil ?_
                      have hl2 := hl.add (t := 3) (hl.add (t := 6) (hl.add (t := 8) (hl.add (t := 9) (hl.add (t := 17) (hl.add (t := 18) (hl.add (t := 19) (hl.nil) rfl) rfl) rfl) rfl) rfl) rfl) rfl; clear hl; have hl := hl2; clear hl2
                      have hl9 := hl.addE (t := 9) hl rfl (congrArg Value.bool (dec10b hok (by unfold S10; first | (simp only [true_iff, Bool.false_eq_true, false_iff]; omega) | (rw [decide_eq_true_eq]; omega))))
                      rw [← hsd9] at hl9
                      clear hl
                      have hl := hl9
                      clear hl9
                      try clear hg1; try clear hg2
                      refine then_normal ?_
                      refine c_seq ?_
                      refine c_seq ?_
                      refine c_region ?_
                      refine wl (wl_val hl rfl trivial (r_move hl rfl) ?_)
                      clear hl a; intro a hl
                      refine wl (wl_val hl rfl trivial (r_move hl rfl) ?_)
                      clear hl a; intro a hl
                      refine wl (wl_val hl rfl trivial (r_eql hl rfl rfl) ?_)
                      clear hl a; intro a hl
                      refine wl (wl_val hl rfl trivial (r_neq_bool hl rfl rfl Tryd.underlying4) ?_)
                      clear hl a; intro a hl
                      refine wl (wl_val hl rfl trivial (r_move hl rfl) ?_)
                      clear hl a; intro a hl
                      refine sl_split (t := 128) hl rfl ?_ ?_
                      · intro hg43; clear hl; intro hl
                        try simp only [decide_eq_true_eq, decide_eq_false_iff_not, Bool.not_eq_true', Bool.not_eq_false', Bool.not_eq_true, Bool.not_eq_false, Bool.and_eq_true, Bool.or_eq_true, Bool.and_eq_false_iff, Bool.or_eq_false_iff, Bool.not_not, ne_eq, Int.not_lt, Int.not_le, Decidable.not_not, beq_iff_eq, bne_iff_ne] at hg43
                        exfalso; first | contradiction | exact abs10a (by assumption) hT9 (fun h => (hF9 h).2) | exact absurd (hF9 (by simpa using by assumption)).2 (by assumption)
                      · intro hg43; clear hl; intro hl
                        try simp only [decide_eq_true_eq, decide_eq_false_iff_not, Bool.not_eq_true', Bool.not_eq_false', Bool.not_eq_true, Bool.not_eq_false, Bool.and_eq_true, Bool.or_eq_true, Bool.and_eq_false_iff, Bool.or_eq_false_iff, Bool.not_not, ne_eq, Int.not_lt, Int.not_le, Decidable.not_not, beq_iff_eq, bne_iff_ne] at hg43
                        refine wl (wl_val hl rfl ⟨_, _, rfl, rfl, rfl⟩ (r_move hl rfl) ?_)
                        clear hl a; intro a hl
                        refine wl (wl_val hl rfl ⟨_, _, rfl, rfl, rfl⟩ (r_not hl rfl) ?_)
                        clear hl a; intro a hl
                        refine wl (wl_val hl rfl ⟨_, _, rfl, rfl, rfl⟩ (r_move hl rfl) ?_)
                        clear hl a; intro a hl
                        refine sl_split (t := 131) hl rfl ?_ ?_
                        · intro hg44; clear hl; intro hl
                          try simp only [decide_eq_true_eq, decide_eq_false_iff_not, Bool.not_eq_true', Bool.not_eq_false', Bool.not_eq_true, Bool.not_eq_false, Bool.and_eq_true, Bool.or_eq_true, Bool.and_eq_false_iff, Bool.or_eq_false_iff, Bool.not_not, ne_eq, Int.not_lt, Int.not_le, Decidable.not_not, beq_iff_eq, bne_iff_ne] at hg44
                          refine wl (wl_val hl rfl ⟨_, _, rfl, rfl, rfl⟩ (r_move hl rfl) ?_)
                          clear hl a; intro a hl
                          refine wl (wl_val hl rfl ⟨_, _, rfl, rfl, rfl⟩ (r_neq hl rfl rfl) ?_)
                          clear hl a; intro a hl
                          refine wl (wl_val hl rfl ⟨_, _, rfl, rfl, rfl⟩ (r_pickT hl rfl rfl) ?_)
                          clear hl a; intro a hl
                          refine wl (wl_val hl rfl trivial (r_pickF hl rfl rfl) ?_)
                          clear hl a; intro a hl
                          refine w_nil ?_
                          have hl2 := hl.add (t := 3) (hl.add (t := 6) (hl.add (t := 9) (hl.add (t := 17) (hl.add (t := 18) (hl.add (t := 19) (hl.add (t := 135) (hl.nil) rfl) rfl) rfl) rfl) rfl) rfl) rfl; clear hl; have hl := hl2; clear hl2
                          refine then_normal ?_
                          refine c_cond hl rfl ?_ ?_
                          · intro hc2
                            try simp only [decide_eq_true_eq, decide_eq_false_iff_not, Bool.not_eq_true', Bool.not_eq_false', Bool.not_eq_true, Bool.not_eq_false, Bool.and_eq_true, Bool.or_eq_true, Bool.and_eq_false_iff, Bool.or_eq_false_iff, Bool.not_not, ne_eq, Int.not_lt, Int.not_le, Decidable.not_not, beq_iff_eq, bne_iff_ne] at hc2
                            exfalso; first | contradiction | exact abs10a (by assumption) hT9 (fun h => (hF9 h).2) | exact absurd (hF9 (by simpa using by assumption)).2 (by assumption)
                          · intro hc2
                            try simp only [decide_eq_true_eq, decide_eq_false_iff_not, Bool.not_eq_true', Bool.not_eq_false', Bool.not_eq_true, Bool.not_eq_false, Bool.and_eq_true, Bool.or_eq_true, Bool.and_eq_false_iff, Bool.or_eq_false_iff, Bool.not_not, ne_eq, Int.not_lt, Int.not_le, Decidable.not_not, beq_iff_eq, bne_iff_ne] at hc2
                            refine wp_skip ?_
                            refine then_normal ?_
                            refine c_seq ?_
                            refine c_region ?_
                            refine wl (wl_val hl rfl trivial (r_move hl rfl) ?_)
                            clear hl a; intro a hl
                            refine wl (w_call hl hh rfl trivial rfl cal28 rfl (snap_spec hS9 bc (40 * ((z.i + 1 : Nat) : Int) + 1) (400 * ((z.i + 1 : Nat) : Int) + 4) ⟨by omega, by omega⟩ hG9) (by repeat (first | exact keeps_nil | apply keeps_cons (by repeat (first | exact find_head | apply find_tail | apply find_skip)) (by first  | rfl) | exact keeps_self | exact keeps_left | apply keeps_app | apply keeps_mv | apply keeps_skip)) (memK (E := sysL bc M9) hh (by repeat (first | exact keeps_nil | apply keeps_cons (by repeat (first | exact find_head | apply find_tail | apply find_skip)) (by first  | rfl) | exact keeps_self | exact keeps_left | apply keeps_app | apply keeps_mv | apply keeps_skip))) ?_)
                            clear hl hh a w; intro vc Fc a w hR hl hh
                            obtain ⟨ev9, bv9, Ee9, Eb9, rfl, hSn9, rfl⟩ := hR
                            try simp only [List.cons_append, List.nil_append, List.append_assoc, List.append_nil] at hh
                            refine wl (wl_val hl rfl trivial (r_move hl rfl) ?_)
                            clear hl a; intro a hl
                            refine wl (w_call hl hh rfl trivial rfl cal28 rfl (snap_spec hS2 bg (40 * ((z.i + 1 : Nat) : Int)) (400 * ((z.i + 1 : Nat) : Int)) ⟨by omega, by omega⟩ hG3) (by repeat (first | exact keeps_nil | apply keeps_cons (by repeat (first | exact find_head | apply find_tail | apply find_skip)) (by first  | rfl) | exact keeps_self | exact keeps_left | apply keeps_app | apply keeps_mv | apply keeps_skip)) (memK (E := sysL bg M2) hh (by repeat (first | exact keeps_nil | apply keeps_cons (by repeat (first | exact find_head | apply find_tail | apply find_skip)) (by first  | rfl) | exact keeps_self | exact keeps_left | apply keeps_app | apply keeps_mv | apply keeps_skip))) ?_)
                            clear hl hh a w; intro vc Fc a w hR hl hh
                            obtain ⟨ev2, bv2, Ee2, Eb2, rfl, hSn2, rfl⟩ := hR
                            try simp only [List.cons_append, List.nil_append, List.append_assoc, List.append_nil] at hh
                            refine wl (w_alloc hl hh rfl trivial zero75 rfl ?_)
                            clear hl hh a w; intro k10 a w hl hh
                            refine wl (w_alloc hl hh rfl trivial zero75 rfl ?_)
                            clear hl hh a w; intro k11 a w hl hh
                            refine wl (w_storeA hl hh trivial agg75 rfl rfl (by repeat (first | exact find_head | apply find_tail | apply find_skip)) (by exact snC_len _ _ _) (by first | exact Nat.le_of_eq (arrL_length _ _).symm | (rw [snC_len]; exact Nat.le_refl _)) (by first | exact snC_one hSn9 | exact snC_one hSn2) (by exact setL_whole (by first | rw [snC_len, arrL_length] | rw [snC_len, snC_len])) ?_)
                            clear hh w; intro w hh
                            refine wl (w_storeA hl hh trivial agg75 rfl rfl (by repeat (first | exact find_head | apply find_tail | apply find_skip)) (by exact snC_len _ _ _) (by first | exact Nat.le_of_eq (arrL_length _ _).symm | (rw [snC_len]; exact Nat.le_refl _)) (by first | exact snC_one hSn9 | exact snC_one hSn2) (by exact setL_whole (by first | rw [snC_len, arrL_length] | rw [snC_len, snC_len])) ?_)
                            clear hh w; intro w hh
                            refine w_nil ?_
                            have hl2 := hl.add (t := 3) (hl.add (t := 9) (hl.add (t := 10) (hl.add (t := 11) (hl.add (t := 17) (hl.add (t := 18) (hl.add (t := 19) (hl.nil) rfl) rfl) rfl) rfl) rfl) rfl) rfl; clear hl; have hl := hl2; clear hl2
                            refine then_normal ?_
                            refine c_seq ?_
                            refine c_region ?_
                            refine wl (wl_val hl rfl trivial (r_move hl rfl) ?_)
                            clear hl a; intro a hl
                            refine wl (wl_val hl rfl trivial (r_not hl rfl) ?_)
                            clear hl a; intro a hl
                            refine wl (wl_val hl rfl trivial (r_move hl rfl) ?_)
                            clear hl a; intro a hl
                            refine sl_split (t := 142) hl rfl ?_ ?_
                            · intro hg45; clear hl; intro hl
                              try simp only [decide_eq_true_eq, decide_eq_false_iff_not, Bool.not_eq_true', Bool.not_eq_false', Bool.not_eq_true, Bool.not_eq_false, Bool.and_eq_true, Bool.or_eq_true, Bool.and_eq_false_iff, Bool.or_eq_false_iff, Bool.not_not, ne_eq, Int.not_lt, Int.not_le, Decidable.not_not, beq_iff_eq, bne_iff_ne] at hg45
                              refine wl (w_call hl hh rfl ⟨_, _, rfl, rfl, rfl⟩ rfl cal29 rfl (eqState_spec (g := g2) (B := 40 * ((z.i + 1 : Nat) : Int)) (Q := 400 * ((z.i + 1 : Nat) : Int)) ⟨by omega, by omega⟩ hG3 k10 k11 ev9 bv9 ev2 bv2 Ee9 Eb9 Ee2 Eb2 ((hF9 (by simpa using by assumption)).1 ▸ hSn9) hSn2) (by repeat (first | exact keeps_nil | apply keeps_cons (by repeat (first | exact find_head | apply find_tail | apply find_skip)) (by first  | rfl) | exact keeps_self | exact keeps_left | apply keeps_app | apply keeps_mv | apply keeps_skip)) ⟨(hF9 (by simpa using by assumption)).1 ▸ (memK (E := snL k10 g9 ev9 bv9 Ee9 Eb9) hh (by repeat (first | exact keeps_nil | apply keeps_cons (by repeat (first | exact find_head | apply find_tail | apply find_skip)) (by first  | rfl) | exact keeps_self | exact keeps_left | apply keeps_app | apply keeps_mv | apply keeps_skip))), memK (E := snL k11 g2 ev2 bv2 Ee2 Eb2) hh (by repeat (first | exact keeps_nil | apply keeps_cons (by repeat (first | exact find_head | apply find_tail | apply find_skip)) (by first  | rfl) | exact keeps_self | exact keeps_left | apply keeps_app | apply keeps_mv | apply keeps_skip))⟩ ?_)
                              clear hl hh a w; intro vc Fc a w hR hl hh
                              obtain ⟨rfl, rfl⟩ := hR
                              try simp only [List.cons_append, List.nil_append, List.append_assoc, List.append_nil] at hh
                              refine wl (wl_val hl rfl ⟨_, _, rfl, rfl, rfl⟩ (r_not hl rfl) ?_)
                              clear hl a; intro a hl
                              refine wl (wl_val hl rfl trivial (r_pickT hl rfl rfl) ?_)
                              clear hl a; intro a hl
                              refine w_nil ?_
                              have hl2 := hl.add (t := 3) (hl.add (t := 17) (hl.add (t := 18) (hl.add (t := 19) (hl.add (t := 145) (hl.nil) rfl) rfl) rfl) rfl) rfl; clear hl; have hl := hl2; clear hl2
                              refine then_normal ?_
                              refine c_cond hl rfl ?_ ?_
                              · intro hc3
                                try simp only [decide_eq_true_eq, decide_eq_false_iff_not, Bool.not_eq_true', Bool.not_eq_false', Bool.not_eq_true, Bool.not_eq_false, Bool.and_eq_true, Bool.or_eq_true, Bool.and_eq_false_iff, Bool.or_eq_false_iff, Bool.not_not, ne_eq, Int.not_lt, Int.not_le, Decidable.not_not, beq_iff_eq, bne_iff_ne] at hc3
                                exfalso; first | contradiction | exact abs10a (by assumption) hT9 (fun h => (hF9 h).2) | exact absurd (hF9 (by simpa using by assumption)).2 (by assumption)
                              · intro hc3
                                try simp only [decide_eq_true_eq, decide_eq_false_iff_not, Bool.not_eq_true', Bool.not_eq_false', Bool.not_eq_true, Bool.not_eq_false, Bool.and_eq_true, Bool.or_eq_true, Bool.and_eq_false_iff, Bool.or_eq_false_iff, Bool.not_not, ne_eq, Int.not_lt, Int.not_le, Decidable.not_not, beq_iff_eq, bne_iff_ne] at hc3
                                refine wp_skip ?_
                                refine blk_normal ?_
                                refine then_normal ?_
                                refine c_region ?_
                                first | refine wl (wl_val hl rfl trivial (r_add hl rfl rfl (by simp only [Fits]; omega)) ?_) | refine wl (wl_val hl rfl trivial (r_addW hl rfl rfl) ?_)
                                clear hl a; intro a hl
                                refine wl (wl_val hl rfl trivial (r_move hl rfl) ?_)
                                clear hl a; intro a hl
                                refine w_nil ?_
                                have hl2 := hl.add (t := 3) (hl.add (t := 17) (hl.add (t := 18) (hl.add (t := 19) (hl.nil) rfl) rfl) rfl) rfl; clear hl; have hl := hl2; clear hl2
                                refine then_normal ?_
                                refine ⟨⟨g2, M2, z.i + 1⟩, (by simp only; omega), ⟨by simp only; omega, hS2, hG3⟩, hl.addE (t := 19) (hl.addE (t := 3) (hl.addE (t := 17) (hl.addE (t := 18) (hl.nil) rfl (by first | rfl | (congr 1; omega))) rfl (by first | rfl | (congr 1; omega))) rfl (by first | rfl | (congr 1; omega))) rfl (by first | rfl | (congr 1; omega)), hh.keep (by repeat (first | exact keeps_nil | apply keeps_cons (by repeat (first | exact find_head | apply find_tail | apply find_skip)) (by first  | rfl) | exact keeps_self | exact keeps_left | apply keeps_app | apply keeps_mv | apply keeps_skip))⟩
                            · intro hg45; clear hl; intro hl
                              try simp only [decide_eq_true_eq, decide_eq_false_iff_not, Bool.not_eq_true', Bool.not_eq_false', Bool.not_eq_true, Bool.not_eq_false, Bool.and_eq_true, Bool.or_eq_true, Bool.and_eq_false_iff, Bool.or_eq_false_iff, Bool.not_not, ne_eq, Int.not_lt, Int.not_le, Decidable.not_not, beq_iff_eq, bne_iff_ne] at hg45
                              refine wl (wl_skip hl rfl ⟨_, _, rfl, rfl, rfl⟩ ?_)
                              clear hl a; intro a hl
                              refine wl (wl_skip hl rfl ⟨_, _, rfl, rfl, rfl⟩ ?_)
                              clear hl a; intro a hl
                              refine wl (wl_val hl rfl trivial (r_pickF hl rfl rfl) ?_)
                              clear hl a; intro a hl
                              refine w_nil ?_
                              have hl2 := hl.add (t := 3) (hl.add (t := 17) (hl.add (t := 18) (hl.add (t := 19) (hl.add (t := 145) (hl.nil) rfl) rfl) rfl) rfl) rfl; clear hl; have hl := hl2; clear hl2
                              refine then_normal ?_
                              refine c_condF hl rfl ?_
                              refine wp_skip ?_
                              refine blk_normal ?_
                              refine then_normal ?_
                              refine c_region ?_
                              first | refine wl (wl_val hl rfl trivial (r_add hl rfl rfl (by simp only [Fits]; omega)) ?_) | refine wl (wl_val hl rfl trivial (r_addW hl rfl rfl) ?_)
                              clear hl a; intro a hl
                              refine wl (wl_val hl rfl trivial (r_move hl rfl) ?_)
                              clear hl a; intro a hl
                              refine w_nil ?_
                              have hl2 := hl.add (t := 3) (hl.add (t := 17) (hl.add (t := 18) (hl.add (t := 19) (hl.nil) rfl) rfl) rfl) rfl; clear hl; have hl := hl2; clear hl2
                              refine then_normal ?_
                              refine ⟨⟨g2, M2, z.i + 1⟩, (by simp only; omega), ⟨by simp only; omega, hS2, hG3⟩, hl.addE (t := 19) (hl.addE (t := 3) (hl.addE (t := 17) (hl.addE (t := 18) (hl.nil) rfl (by first | rfl | (congr 1; omega))) rfl (by first | rfl | (congr 1; omega))) rfl (by first | rfl | (congr 1; omega))) rfl (by first | rfl | (congr 1; omega)), hh.keep (by repeat (first | exact keeps_nil | apply keeps_cons (by repeat (first | exact find_head | apply find_tail | apply find_skip)) (by first  | rfl) | exact keeps_self | exact keeps_left | apply keeps_app | apply keeps_mv | apply keeps_skip))⟩
                        · intro hg44; clear hl; intro hl
                          try simp only [decide_eq_true_eq, decide_eq_false_iff_not, Bool.not_eq_true', Bool.not_eq_false', Bool.not_eq_true, Bool.not_eq_false, Bool.and_eq_true, Bool.or_eq_true, Bool.and_eq_false_iff, Bool.or_eq_false_iff, Bool.not_not, ne_eq, Int.not_lt, Int.not_le, Decidable.not_not, beq_iff_eq, bne_iff_ne] at hg44
                          refine wl (wl_skip hl rfl ⟨_, _, rfl, rfl, rfl⟩ ?_)
                          clear hl a; intro a hl
                          refine wl (wl_skip hl rfl ⟨_, _, rfl, rfl, rfl⟩ ?_)
                          clear hl a; intro a hl
                          refine wl (wl_val hl rfl ⟨_, _, rfl, rfl, rfl⟩ (r_pickF hl rfl rfl) ?_)
                          clear hl a; intro a hl
                          refine wl (wl_val hl rfl trivial (r_pickF hl rfl rfl) ?_)
                          clear hl a; intro a hl
                          refine w_nil ?_
                          have hl2 := hl.add (t := 3) (hl.add (t := 6) (hl.add (t := 9) (hl.add (t := 17) (hl.add (t := 18) (hl.add (t := 19) (hl.add (t := 135) (hl.nil) rfl) rfl) rfl) rfl) rfl) rfl) rfl; clear hl; have hl := hl2; clear hl2
                          refine then_normal ?_
                          refine c_condF hl rfl ?_
                          refine wp_skip ?_
                          refine then_normal ?_
                          refine c_seq ?_
                          refine c_region ?_
                          refine wl (wl_val hl rfl trivial (r_move hl rfl) ?_)
                          clear hl a; intro a hl
                          refine wl (w_call hl hh rfl trivial rfl cal28 rfl (snap_spec hS9 bc (40 * ((z.i + 1 : Nat) : Int) + 1) (400 * ((z.i + 1 : Nat) : Int) + 4) ⟨by omega, by omega⟩ hG9) (by repeat (first | exact keeps_nil | apply keeps_cons (by repeat (first | exact find_head | apply find_tail | apply find_skip)) (by first  | rfl) | exact keeps_self | exact keeps_left | apply keeps_app | apply keeps_mv | apply keeps_skip)) (memK (E := sysL bc M9) hh (by repeat (first | exact keeps_nil | apply keeps_cons (by repeat (first | exact find_head | apply find_tail | apply find_skip)) (by first  | rfl) | exact keeps_self | exact keeps_left | apply keeps_app | apply keeps_mv | apply keeps_skip))) ?_)
                          clear hl hh a w; intro vc Fc a w hR hl hh
                          obtain ⟨ev9, bv9, Ee9, Eb9, rfl, hSn9, rfl⟩ := hR
                          try simp only [List.cons_append, List.nil_append, List.append_assoc, List.append_nil] at hh
                          refine wl (wl_val hl rfl trivial (r_move hl rfl) ?_)
                          clear hl a; intro a hl
                          refine wl (w_call hl hh rfl trivial rfl cal28 rfl (snap_spec hS2 bg (40 * ((z.i + 1 : Nat) : Int)) (400 * ((z.i + 1 : Nat) : Int)) ⟨by omega, by omega⟩ hG3) (by repeat (first | exact keeps_nil | apply keeps_cons (by repeat (first | exact find_head | apply find_tail | apply find_skip)) (by first  | rfl) | exact keeps_self | exact keeps_left | apply keeps_app | apply keeps_mv | apply keeps_skip)) (memK (E := sysL bg M2) hh (by repeat (first | exact keeps_nil | apply keeps_cons (by repeat (first | exact find_head | apply find_tail | apply find_skip)) (by first  | rfl) | exact keeps_self | exact keeps_left | apply keeps_app | apply keeps_mv | apply keeps_skip))) ?_)
                          clear hl hh a w; intro vc Fc a w hR hl hh
                          obtain ⟨ev2, bv2, Ee2, Eb2, rfl, hSn2, rfl⟩ := hR
                          try simp only [List.cons_append, List.nil_append, List.append_assoc, List.append_nil] at hh
                          refine wl (w_alloc hl hh rfl trivial zero75 rfl ?_)
                          clear hl hh a w; intro k10 a w hl hh
                          refine wl (w_alloc hl hh rfl trivial zero75 rfl ?_)
                          clear hl hh a w; intro k11 a w hl hh
                          refine wl (w_storeA hl hh trivial agg75 rfl rfl (by repeat (first | exact find_head | apply find_tail | apply find_skip)) (by exact snC_len _ _ _) (by first | exact Nat.le_of_eq (arrL_length _ _).symm | (rw [snC_len]; exact Nat.le_refl _)) (by first | exact snC_one hSn9 | exact snC_one hSn2) (by exact setL_whole (by first | rw [snC_len, arrL_length] | rw [snC_len, snC_len])) ?_)
                          clear hh w; intro w hh
                          refine wl (w_storeA hl hh trivial agg75 rfl rfl (by repeat (first | exact find_head | apply find_tail | apply find_skip)) (by exact snC_len _ _ _) (by first | exact Nat.le_of_eq (arrL_length _ _).symm | (rw [snC_len]; exact Nat.le_refl _)) (by first | exact snC_one hSn9 | exact snC_one hSn2) (by exact setL_whole (by first | rw [snC_len, arrL_length] | rw [snC_len, snC_len])) ?_)
                          clear hh w; intro w hh
                          refine w_nil ?_
                          have hl2 := hl.add (t := 3) (hl.add (t := 9) (hl.add (t := 10) (hl.add (t := 11) (hl.add (t := 17) (hl.add (t := 18) (hl.add (t := 19) (hl.nil) rfl) rfl) rfl) rfl) rfl) rfl) rfl; clear hl; have hl := hl2; clear hl2
                          refine then_normal ?_
                          refine c_seq ?_
                          refine c_region ?_
                          refine wl (wl_val hl rfl trivial (r_move hl rfl) ?_)
                          clear hl a; intro a hl
                          refine wl (wl_val hl rfl trivial (r_not hl rfl) ?_)
                          clear hl a; intro a hl
                          refine wl (wl_val hl rfl trivial (r_move hl rfl) ?_)
                          clear hl a; intro a hl
                          refine sl_split (t := 142) hl rfl ?_ ?_
                          · intro hg46; clear hl; intro hl
                            try simp only [decide_eq_true_eq, decide_eq_false_iff_not, Bool.not_eq_true', Bool.not_eq_false', Bool.not_eq_true, Bool.not_eq_false, Bool.and_eq_true, Bool.or_eq_true, Bool.and_eq_false_iff, Bool.or_eq_false_iff, Bool.not_not, ne_eq, Int.not_lt, Int.not_le, Decidable.not_not, beq_iff_eq, bne_iff_ne] at hg46
                            refine wl (w_call hl hh rfl ⟨_, _, rfl, rfl, rfl⟩ rfl cal29 rfl (eqState_spec (g := g2) (B := 40 * ((z.i + 1 : Nat) : Int)) (Q := 400 * ((z.i + 1 : Nat) : Int)) ⟨by omega, by omega⟩ hG3 k10 k11 ev9 bv9 ev2 bv2 Ee9 Eb9 Ee2 Eb2 ((hF9 (by simpa using by assumption)).1 ▸ hSn9) hSn2) (by repeat (first | exact keeps_nil | apply keeps_cons (by repeat (first | exact find_head | apply find_tail | apply find_skip)) (by first  | rfl) | exact keeps_self | exact keeps_left | apply keeps_app | apply keeps_mv | apply keeps_skip)) ⟨(hF9 (by simpa using by assumption)).1 ▸ (memK (E := snL k10 g9 ev9 bv9 Ee9 Eb9) hh (by repeat (first | exact keeps_nil | apply keeps_cons (by repeat (first | exact find_head | apply find_tail | apply find_skip)) (by first  | rfl) | exact keeps_self | exact keeps_left | apply keeps_app | apply keeps_mv | apply keeps_skip))), memK (E := snL k11 g2 ev2 bv2 Ee2 Eb2) hh (by repeat (first | exact keeps_nil | apply keeps_cons (by repeat (first | exact find_head | apply find_tail | apply find_skip)) (by first  | rfl) | exact keeps_self | exact keeps_left | apply keeps_app | apply keeps_mv | apply keeps_skip))⟩ ?_)
                            clear hl hh a w; intro vc Fc a w hR hl hh
                            obtain ⟨rfl, rfl⟩ := hR
                            try simp only [List.cons_append, List.nil_append, List.append_assoc, List.append_nil] at hh
                            refine wl (wl_val hl rfl ⟨_, _, rfl, rfl, rfl⟩ (r_not hl rfl) ?_)
                            clear hl a; intro a hl
                            refine wl (wl_val hl rfl trivial (r_pickT hl rfl rfl) ?_)
                            clear hl a; intro a hl
                            refine w_nil ?_
                            have hl2 := hl.add (t := 3) (hl.add (t := 17) (hl.add (t := 18) (hl.add (t := 19) (hl.add (t := 145) (hl.nil) rfl) rfl) rfl) rfl) rfl; clear hl; have hl := hl2; clear hl2
                            refine then_normal ?_
                            refine c_cond hl rfl ?_ ?_
                            · intro hc3
                              try simp only [decide_eq_true_eq, decide_eq_false_iff_not, Bool.not_eq_true', Bool.not_eq_false', Bool.not_eq_true, Bool.not_eq_false, Bool.and_eq_true, Bool.or_eq_true, Bool.and_eq_false_iff, Bool.or_eq_false_iff, Bool.not_not, ne_eq, Int.not_lt, Int.not_le, Decidable.not_not, beq_iff_eq, bne_iff_ne] at hc3
                              exfalso; first | contradiction | exact abs10a (by assumption) hT9 (fun h => (hF9 h).2) | exact absurd (hF9 (by simpa using by assumption)).2 (by assumption)
                            · intro hc3
                              try simp only [decide_eq_true_eq, decide_eq_false_iff_not, Bool.not_eq_true', Bool.not_eq_false', Bool.not_eq_true, Bool.not_eq_false, Bool.and_eq_true, Bool.or_eq_true, Bool.and_eq_false_iff, Bool.or_eq_false_iff, Bool.not_not, ne_eq, Int.not_lt, Int.not_le, Decidable.not_not, beq_iff_eq, bne_iff_ne] at hc3
                              refine wp_skip ?_
                              refine blk_normal ?_
                              refine then_normal ?_
                              refine c_region ?_
                              first | refine wl (wl_val hl rfl trivial (r_add hl rfl rfl (by simp only [Fits]; omega)) ?_) | refine wl (wl_val hl rfl trivial (r_addW hl rfl rfl) ?_)
                              clear hl a; intro a hl
                              refine wl (wl_val hl rfl trivial (r_move hl rfl) ?_)
                              clear hl a; intro a hl
                              refine w_nil ?_
                              have hl2 := hl.add (t := 3) (hl.add (t := 17) (hl.add (t := 18) (hl.add (t := 19) (hl.nil) rfl) rfl) rfl) rfl; clear hl; have hl := hl2; clear hl2
                              refine then_normal ?_
                              refine ⟨⟨g2, M2, z.i + 1⟩, (by simp only; omega), ⟨by simp only; omega, hS2, hG3⟩, hl.addE (t := 19) (hl.addE (t := 3) (hl.addE (t := 17) (hl.addE (t := 18) (hl.nil) rfl (by first | rfl | (congr 1; omega))) rfl (by first | rfl | (congr 1; omega))) rfl (by first | rfl | (congr 1; omega))) rfl (by first | rfl | (congr 1; omega)), hh.keep (by repeat (first | exact keeps_nil | apply keeps_cons (by repeat (first | exact find_head | apply find_tail | apply find_skip)) (by first  | rfl) | exact keeps_self | exact keeps_left | apply keeps_app | apply keeps_mv | apply keeps_skip))⟩
                          · intro hg46; clear hl; intro hl
                            try simp only [decide_eq_true_eq, decide_eq_false_iff_not, Bool.not_eq_true', Bool.not_eq_false', Bool.not_eq_true, Bool.not_eq_false, Bool.and_eq_true, Bool.or_eq_true, Bool.and_eq_false_iff, Bool.or_eq_false_iff, Bool.not_not, ne_eq, Int.not_lt, Int.not_le, Decidable.not_not, beq_iff_eq, bne_iff_ne] at hg46
                            refine wl (wl_skip hl rfl ⟨_, _, rfl, rfl, rfl⟩ ?_)
                            clear hl a; intro a hl
                            refine wl (wl_skip hl rfl ⟨_, _, rfl, rfl, rfl⟩ ?_)
                            clear hl a; intro a hl
                            refine wl (wl_val hl rfl trivial (r_pickF hl rfl rfl) ?_)
                            clear hl a; intro a hl
                            refine w_nil ?_
                            have hl2 := hl.add (t := 3) (hl.add (t := 17) (hl.add (t := 18) (hl.add (t := 19) (hl.add (t := 145) (hl.nil) rfl) rfl) rfl) rfl) rfl; clear hl; have hl := hl2; clear hl2
                            refine then_normal ?_
                            refine c_condF hl rfl ?_
                            refine wp_skip ?_
                            refine blk_normal ?_
                            refine then_normal ?_
                            refine c_region ?_
                            first | refine wl (wl_val hl rfl trivial (r_add hl rfl rfl (by simp only [Fits]; omega)) ?_) | refine wl (wl_val hl rfl trivial (r_addW hl rfl rfl) ?_)
                            clear hl a; intro a hl
                            refine wl (wl_val hl rfl trivial (r_move hl rfl) ?_)
                            clear hl a; intro a hl
                            refine w_nil ?_
                            have hl2 := hl.add (t := 3) (hl.add (t := 17) (hl.add (t := 18) (hl.add (t := 19) (hl.nil) rfl) rfl) rfl) rfl; clear hl; have hl := hl2; clear hl2
                            refine then_normal ?_
                            refine ⟨⟨g2, M2, z.i + 1⟩, (by simp only; omega), ⟨by simp only; omega, hS2, hG3⟩, hl.addE (t := 19) (hl.addE (t := 3) (hl.addE (t := 17) (hl.addE (t := 18) (hl.nil) rfl (by first | rfl | (congr 1; omega))) rfl (by first | rfl | (congr 1; omega))) rfl (by first | rfl | (congr 1; omega))) rfl (by first | rfl | (congr 1; omega)), hh.keep (by repeat (first | exact keeps_nil | apply keeps_cons (by repeat (first | exact find_head | apply find_tail | apply find_skip)) (by first  | rfl) | exact keeps_self | exact keeps_left | apply keeps_app | apply keeps_mv | apply keeps_skip))⟩
                  · intro hg7; clear hl; intro hl
                    try simp only [decide_eq_true_eq, decide_eq_false_iff_not, Bool.not_eq_true', Bool.not_eq_false', Bool.not_eq_true, Bool.not_eq_false, Bool.and_eq_true, Bool.or_eq_true, Bool.and_eq_false_iff, Bool.or_eq_false_iff, Bool.not_not, ne_eq, Int.not_lt, Int.not_le, Decidable.not_not, beq_iff_eq, bne_iff_ne] at hg7
                    refine wl (wl_skip hl rfl ⟨_, _, rfl, rfl, rfl⟩ ?_)
                    clear hl a; intro a hl
                    refine wl (wl_skip hl rfl ⟨_, _, rfl, rfl, rfl⟩ ?_)
                    clear hl a; intro a hl
                    refine wl (wl_skip hl rfl ⟨_, _, rfl, rfl, rfl⟩ ?_)
                    clear hl a; intro a hl
                    refine wl (wl_skip hl rfl ⟨_, _, rfl, rfl, rfl⟩ ?_)
                    clear hl a; intro a hl
                    refine wl (wl_skip hl rfl ⟨_, _, rfl, rfl, rfl⟩ ?_)
                    clear hl a; intro a hl
                    refine wl (wl_skip hl rfl ⟨_, _, rfl, rfl, rfl⟩ ?_)
                    clear hl a; intro a hl
                    refine wl (wl_skip hl rfl ⟨_, _, rfl, rfl, rfl⟩ ?_)
                    clear hl a; intro a hl
                    refine wl (wl_skip hl rfl ⟨_, _, rfl, rfl, rfl⟩ ?_)
                    clear hl a; intro a hl
                    refine wl (wl_val hl rfl trivial (r_pickF hl rfl rfl) ?_)
                    clear hl a; intro a hl
                    refine wl (wl_val hl rfl trivial (r_move hl rfl) ?_)
                    clear hl a; intro a hl
                    refine wl (wl_skip hl rfl ⟨_, _, rfl, rfl, rfl⟩ ?_)
                    clear hl a; intro a hl
                    refine wl (wl_skip hl rfl ⟨_, _, rfl, rfl, rfl⟩ ?_)
                    clear hl a; intro a hl
                    refine wl (wl_skip hl rfl ⟨_, _, rfl, rfl, rfl⟩ ?_)
                    clear hl a; intro a hl
                    refine wl (wl_skip hl rfl ⟨_, _, rfl, rfl, rfl⟩ ?_)
                    clear hl a; intro a hl
                    refine wl (wl_skipU hl rfl ⟨_, _, rfl, rfl, rfl⟩ ?_)
                    clear hl a; intro a hl
                    refine wl (wl_skipU hl rfl ⟨_, _, rfl, rfl, rfl⟩ ?_)
                    clear hl a; intro a hl
                    refine wl (wl_skipU hl rfl ⟨_, _, rfl, rfl, rfl⟩ ?_)
                    clear hl a; intro a hl
                    refine wl (wl_skip hl rfl ⟨_, _, rfl, rfl, rfl⟩ ?_)
                    clear hl a; intro a hl
                    refine wl (wl_skip hl rfl ⟨_, _, rfl, rfl, rfl⟩ ?_)
                    clear hl a; intro a hl
                    refine wl (wl_skipU hl rfl ⟨_, _, rfl, rfl, rfl⟩ ?_)
                    clear hl a; intro a hl
                    refine wl (wl_skipU hl rfl ⟨_, _, rfl, rfl, rfl⟩ ?_)
                    clear hl a; intro a hl
                    refine wl (wl_skipU hl rfl ⟨_, _, rfl, rfl, rfl⟩ ?_)
                    clear hl a; intro a hl
                    refine wl (wl_skipU hl rfl ⟨_, _, rfl, rfl, rfl⟩ ?_)
                    clear hl a; intro a hl
                    refine wl (wl_skipU hl rfl ⟨_, _, rfl, rfl, rfl⟩ ?_)
                    clear hl a; intro a hl
                    refine wl (wl_skipU hl rfl ⟨_, _, rfl, rfl, rfl⟩ ?_)
                    clear hl a; intro a hl
                    refine wl (wl_skipU hl rfl ⟨_, _, rfl, rfl, rfl⟩ ?_)
                    clear hl a; intro a hl
                    refine wl (wl_skipU hl rfl ⟨_, _, rfl, rfl, rfl⟩ ?_)
                    clear hl a; intro a hl
                    refine wl (wl_skipU hl rfl ⟨_, _, rfl, rfl, rfl⟩ ?_)
                    clear hl a; intro a hl
                    refine wl (wl_skipU hl rfl ⟨_, _, rfl, rfl, rfl⟩ ?_)
                    clear hl a; intro a hl
                    refine wl (wl_skipU hl rfl ⟨_, _, rfl, rfl, rfl⟩ ?_)
                    clear hl a; intro a hl
                    refine wl (wl_skipU hl rfl ⟨_, _, rfl, rfl, rfl⟩ ?_)
                    clear hl a; intro a hl
                    refine wl (wl_skipU hl rfl ⟨_, _, rfl, rfl, rfl⟩ ?_)
                    clear hl a; intro a hl
                    refine wl (wl_skip hl rfl ⟨_, _, rfl, rfl, rfl⟩ ?_)
                    clear hl a; intro a hl
                    refine wl (wl_val hl rfl trivial (r_pickF hl rfl rfl) ?_)
                    clear hl a; intro a hl
                    refine wl (wl_val hl rfl trivial (r_assign hl rfl) ?_)
                    clear hl a; intro a hl
                    refine w_nil ?_
                    have hl2 := hl.add (t := 3) (hl.add (t := 6) (hl.add (t := 8) (hl.add (t := 9) (hl.add (t := 17) (hl.add (t := 18) (hl.add (t := 19) (hl.nil) rfl) rfl) rfl) rfl) rfl) rfl) rfl; clear hl; have hl := hl2; clear hl2
                    have hl9 := hl.addE (t := 9) hl rfl (congrArg Value.bool (dec10b hok (by unfold S10; first | (simp only [true_iff, Bool.false_eq_true, false_iff]; omega) | (rw [decide_eq_true_eq]; omega))))
                    rw [← hsd9] at hl9
                    clear hl
                    have hl := hl9
                    clear hl9
                    try clear hg1; try clear hg2
                    refine then_normal ?_
                    refine c_seq ?_
                    refine c_seq ?_
                    refine c_region ?_
                    refine wl (wl_val hl rfl trivial (r_move hl rfl) ?_)
                    clear hl a; intro a hl
                    refine wl (wl_val hl rfl trivial (r_move hl rfl) ?_)
                    clear hl a; intro a hl
                    refine wl (wl_val hl rfl trivial (r_eql hl rfl rfl) ?_)
                    clear hl a; intro a hl
                    refine wl (wl_val hl rfl trivial (r_neq_bool hl rfl rfl Tryd.underlying4) ?_)
                    clear hl a; intro a hl
                    refine wl (wl_val hl rfl trivial (r_move hl rfl) ?_)
                    clear hl a; intro a hl
                    refine sl_split (t := 128) hl rfl ?_ ?_
                    · intro hg47; clear hl; intro hl
                      try simp only [decide_eq_true_eq, decide_eq_false_iff_not, Bool.not_eq_true', Bool.not_eq_false', Bool.not_eq_true, Bool.not_eq_false, Bool.and_eq_true, Bool.or_eq_true, Bool.and_eq_false_iff, Bool.or_eq_false_iff, Bool.not_not, ne_eq, Int.not_lt, Int.not_le, Decidable.not_not, beq_iff_eq, bne_iff_ne] at hg47
                      exfalso; first | contradiction | exact abs10a (by assumption) hT9 (fun h => (hF9 h).2) | exact absurd (hF9 (by simpa using by assumption)).2 (by assumption)
                    · intro hg47; clear hl; intro hl
                      try simp only [decide_eq_true_eq, decide_eq_false_iff_not, Bool.not_eq_true', Bool.not_eq_false', Bool.not_eq_true, Bool.not_eq_false, Bool.and_eq_true, Bool.or_eq_true, Bool.and_eq_false_iff, Bool.or_eq_false_iff, Bool.not_not, ne_eq, Int.not_lt, Int.not_le, Decidable.not_not, beq_iff_eq, bne_iff_ne] at hg47
                      refine wl (wl_val hl rfl ⟨_, _, rfl, rfl, rfl⟩ (r_move hl rfl) ?_)
                      clear hl a; intro a hl
                      refine wl (wl_val hl rfl ⟨_, _, rfl, rfl, rfl⟩ (r_not hl rfl) ?_)
                      clear hl a; intro a hl
                      refine wl (wl_val hl rfl ⟨_, _, rfl, rfl, rfl⟩ (r_move hl rfl) ?_)
                      clear hl a; intro a hl
                      refine sl_split (t := 131) hl rfl ?_ ?_
                      · intro hg48; clear hl; intro hl
                        try simp only [decide_eq_true_eq, decide_eq_false_iff_not, Bool.not_eq_true', Bool.not_eq_false', Bool.not_eq_true, Bool.not_eq_false, Bool.and_eq_true, Bool.or_eq_true, Bool.and_eq_false_iff, Bool.or_eq_false_iff, Bool.not_not, ne_eq, Int.not_lt, Int.not_le, Decidable.not_not, beq_iff_eq, bne_iff_ne] at hg48
                        refine wl (wl_val hl rfl ⟨_, _, rfl, rfl, rfl⟩ (r_move hl rfl) ?_)
                        clear hl a; intro a hl
                        refine wl (wl_val hl rfl ⟨_, _, rfl, rfl, rfl⟩ (r_neq hl rfl rfl) ?_)
                        clear hl a; intro a hl
                        refine wl (wl_val hl rfl ⟨_, _, rfl, rfl, rfl⟩ (r_pickT hl rfl rfl) ?_)
                        clear hl a; intro a hl
                        refine wl (wl_val hl rfl trivial (r_pickF hl rfl rfl) ?_)
                        clear hl a; intro a hl
                        refine w_nil ?_
                        have hl2 := hl.add (t := 3) (hl.add (t := 6) (hl.add (t := 9) (hl.add (t := 17) (hl.add (t := 18) (hl.add (t := 19) (hl.add (t := 135) (hl.nil) rfl) rfl) rfl) rfl) rfl) rfl) rfl; clear hl; have hl := hl2; clear hl2
                        refine then_normal ?_
                        refine c_cond hl rfl ?_ ?_
                        · intro hc2
                          try simp only [decide_eq_true_eq, decide_eq_false_iff_not, Bool.not_eq_true', Bool.not_eq_false', Bool.not_eq_true, Bool.not_eq_false, Bool.and_eq_true, Bool.or_eq_true, Bool.and_eq_false_iff, Bool.or_eq_false_iff, Bool.not_not, ne_eq, Int.not_lt, Int.not_le, Decidable.not_not, beq_iff_eq, bne_iff_ne] at hc2
                          exfalso; first | contradiction | exact abs10a (by assumption) hT9 (fun h => (hF9 h).2) | exact absurd (hF9 (by simpa using by assumption)).2 (by assumption)
                        · intro hc2
                          try simp only [decide_eq_true_eq, decide_eq_false_iff_not, Bool.not_eq_true', Bool.not_eq_false', Bool.not_eq_true, Bool.not_eq_false, Bool.and_eq_true, Bool.or_eq_true, Bool.and_eq_false_iff, Bool.or_eq_false_iff, Bool.not_not, ne_eq, Int.not_lt, Int.not_le, Decidable.not_not, beq_iff_eq, bne_iff_ne] at hc2
                          refine wp_skip ?_
                          refine then_normal ?_
                          refine c_seq ?_
                          refine c_region ?_
                          refine wl (wl_val hl rfl trivial (r_move hl rfl) ?_)
                          clear hl a; intro a hl
                          refine wl (w_call hl hh rfl trivial rfl cal28 rfl (snap_spec hS9 bc (40 * ((z.i + 1 : Nat) : Int) + 1) (400 * ((z.i + 1 : Nat) : Int) + 4) ⟨by omega, by omega⟩ hG9) (by repeat (first | exact keeps_nil | apply keeps_cons (by repeat (first | exact find_head | apply find_tail | apply find_skip)) (by first  | rfl) | exact keeps_self | exact keeps_left | apply keeps_app | apply keeps_mv | apply keeps_skip)) (memK (E := sysL bc M9) hh (by repeat (first | exact keeps_nil | apply keeps_cons (by repeat (first | exact find_head | apply find_tail | apply find_skip)) (by first  | rfl) | exact keeps_self | exact keeps_left | apply keeps_app | apply keeps_mv | apply keeps_skip))) ?_)
                          clear hl hh a w; intro vc Fc a w hR hl hh
                          obtain ⟨ev9, bv9, Ee9, Eb9, rfl, hSn9, rfl⟩ := hR
                          try simp only [List.cons_append, List.nil_append, List.append_assoc, List.append_nil] at hh
                          refine wl (wl_val hl rfl trivial (r_move hl rfl) ?_)
                          clear hl a; intro a hl
                          refine wl (w_call hl hh rfl trivial rfl cal28 rfl (snap_spec hS2 bg (40 * ((z.i + 1 : Nat) : Int)) (400 * ((z.i + 1 : Nat) : Int)) ⟨by omega, by omega⟩ hG3) (by repeat (first | exact keeps_nil | apply keeps_cons (by repeat (first | exact find_head | apply find_tail | apply find_skip)) (by first  | rfl) | exact keeps_self | exact keeps_left | apply keeps_app | apply keeps_mv | apply keeps_skip)) (memK (E := sysL bg M2) hh (by repeat (first | exact keeps_nil | apply keeps_cons (by repeat (first | exact find_head | apply find_tail | apply find_skip)) (by first  | rfl) | exact keeps_self | exact keeps_left | apply keeps_app | apply keeps_mv | apply keeps_skip))) ?_)
                          clear hl hh a w; intro vc Fc a w hR hl hh
                          obtain ⟨ev2, bv2, Ee2, Eb2, rfl, hSn2, rfl⟩ := hR
                          try simp only [List.cons_append, List.nil_append, List.append_assoc, List.append_nil] at hh
                          refine wl (w_alloc hl hh rfl trivial zero75 rfl ?_)
                          clear hl hh a w; intro k10 a w hl hh
                          refine wl (w_alloc hl hh rfl trivial zero75 rfl ?_)
                          clear hl hh a w; intro k11 a w hl hh
                          refine wl (w_storeA hl hh trivial agg75 rfl rfl (by repeat (first | exact find_head | apply find_tail | apply find_skip)) (by exact snC_len _ _ _) (by first | exact Nat.le_of_eq (arrL_length _ _).symm | (rw [snC_len]; exact Nat.le_refl _)) (by first | exact snC_one hSn9 | exact snC_one hSn2) (by exact setL_whole (by first | rw [snC_len, arrL_length] | rw [snC_len, snC_len])) ?_)
                          clear hh w; intro w hh
                          refine wl (w_storeA hl hh trivial agg75 rfl rfl (by repeat (first | exact find_head | apply find_tail | apply find_skip)) (by exact snC_len _ _ _) (by first | exact Nat.le_of_eq (arrL_length _ _).symm | (rw [snC_len]; exact Nat.le_refl _)) (by first | exact snC_one hSn9 | exact snC_one hSn2) (by exact setL_whole (by first | rw [snC_len, arrL_length] | rw [snC_len, snC_len])) ?_)
                          clear hh w; intro w hh
                          refine w_nil ?_
                          have hl2 := hl.add (t := 3) (hl.add (t := 9) (hl.add (t := 10) (hl.add (t := 11) (hl.add (t := 17) (hl.add (t := 18) (hl.add (t := 19) (hl.nil) rfl) rfl) rfl) rfl) rfl) rfl) rfl; clear hl; have hl := hl2; clear hl2
                          refine then_normal ?_
                          refine c_seq ?_
                          refine c_region ?_
                          refine wl (wl_val hl rfl trivial (r_move hl rfl) ?_)
                          clear hl a; intro a hl
                          refine wl (wl_val hl rfl trivial (r_not hl rfl) ?_)
                          clear hl a; intro a hl
                          refine wl (wl_val hl rfl trivial (r_move hl rfl) ?_)
                          clear hl a; intro a hl
                          refine sl_split (t := 142) hl rfl ?_ ?_
                          · intro hg49; clear hl; intro hl
                            try simp only [decide_eq_true_eq, decide_eq_false_iff_not, Bool.not_eq_true', Bool.not_eq_false', Bool.not_eq_true, Bool.not_eq_false, Bool.and_eq_true, Bool.or_eq_true, Bool.and_eq_false_iff, Bool.or_eq_false_iff, Bool.not_not, ne_eq, Int.not_lt, Int.not_le, Decidable.not_not, beq_iff_eq, bne_iff_ne] at hg49
                            refine wl (w_call hl hh rfl ⟨_, _, rfl, rfl, rfl⟩ rfl cal29 rfl (eqState_spec (g := g2) (B := 40 * ((z.i + 1 : Nat) : Int)) (Q := 400 * ((z.i + 1 : Nat) : Int)) ⟨by omega, by omega⟩ hG3 k10 k11 ev9 bv9 ev2 bv2 Ee9 Eb9 Ee2 Eb2 ((hF9 (by simpa using by assumption)).1 ▸ hSn9) hSn2) (by repeat (first | exact keeps_nil | apply keeps_cons (by repeat (first | exact find_head | apply find_tail | apply find_skip)) (by first  | rfl) | exact keeps_self | exact keeps_left | apply keeps_app | apply keeps_mv | apply keeps_skip)) ⟨(hF9 (by simpa using by assumption)).1 ▸ (memK (E := snL k10 g9 ev9 bv9 Ee9 Eb9) hh (by repeat (first | exact keeps_nil | apply keeps_cons (by repeat (first | exact find_head | apply find_tail | apply find_skip)) (by first  | rfl) | exact keeps_self | exact keeps_left | apply keeps_app | apply keeps_mv | apply keeps_skip))), memK (E := snL k11 g2 ev2 bv2 Ee2 Eb2) hh (by repeat (first | exact keeps_nil | apply keeps_cons (by repeat (first | exact find_head | apply find_tail | apply find_skip)) (by first  | rfl) | exact keeps_self | exact keeps_left | apply keeps_app | apply keeps_mv | apply keeps_skip))⟩ ?_)
                            clear hl hh a w; intro vc Fc a w hR hl hh
                            obtain ⟨rfl, rfl⟩ := hR
                            try simp only [List.cons_append, List.nil_append, List.append_assoc, List.append_nil] at hh
                            refine wl (wl_val hl rfl ⟨_, _, rfl, rfl, rfl⟩ (r_not hl rfl) ?_)
                            clear hl a; intro a hl
                            refine wl (wl_val hl rfl trivial (r_pickT hl rfl rfl) ?_)
                            clear hl a; intro a hl
                            refine w_nil ?_
                            have hl2 := hl.add (t := 3) (hl.add (t := 17) (hl.add (t := 18) (hl.add (t := 19) (hl.add (t := 145) (hl.nil) rfl) rfl) rfl) rfl) rfl; clear hl; have hl := hl2; clear hl2
                            refine then_normal ?_
                            refine c_cond hl rfl ?_ ?_
                            · intro hc3
                              try simp only [decide_eq_true_eq, decide_eq_false_iff_not, Bool.not_eq_true', Bool.not_eq_false', Bool.not_eq_true, Bool.not_eq_false, Bool.and_eq_true, Bool.or_eq_true, Bool.and_eq_false_iff, Bool.or_eq_false_iff, Bool.not_not, ne_eq, Int.not_lt, Int.not_le, Decidable.not_not, beq_iff_eq, bne_iff_ne] at hc3
                              exfalso; first | contradiction | exact abs10a (by assumption) hT9 (fun h => (hF9 h).2) | exact absurd (hF9 (by simpa using by assumption)).2 (by assumption)
                            · intro hc3
                              try simp only [decide_eq_true_eq, decide_eq_false_iff_not, Bool.not_eq_true', Bool.not_eq_false', Bool.not_eq_true, Bool.not_eq_false, Bool.and_eq_true, Bool.or_eq_true, Bool.and_eq_false_iff, Bool.or_eq_false_iff, Bool.not_not, ne_eq, Int.not_lt, Int.not_le, Decidable.not_not, beq_iff_eq, bne_iff_ne] at hc3
                              refine wp_skip ?_
                              refine blk_normal ?_
                              refine then_normal ?_
                              refine c_region ?_
                              first | refine wl (wl_val hl rfl trivial (r_add hl rfl rfl (by simp only [Fits]; omega)) ?_) | refine wl (wl_val hl rfl trivial (r_addW hl rfl rfl) ?_)
                              clear hl a; intro a hl
                              refine wl (wl_val hl rfl trivial (r_move hl rfl) ?_)
                              clear hl a; intro a hl
                              refine w_nil ?_
                              have hl2 := hl.add (t := 3) (hl.add (t := 17) (hl.add (t := 18) (hl.add (t := 19) (hl.nil) rfl) rfl) rfl) rfl; clear hl; have hl := hl2; clear hl2
                              refine then_normal ?_
                              refine ⟨⟨g2, M2, z.i + 1⟩, (by simp only; omega), ⟨by simp only; omega, hS2, hG3⟩, hl.addE (t := 19) (hl.addE (t := 3) (hl.addE (t := 17) (hl.addE (t := 18) (hl.nil) rfl (by first | rfl | (congr 1; omega))) rfl (by first | rfl | (congr 1; omega))) rfl (by first | rfl | (congr 1; omega))) rfl (by first | rfl | (congr 1; omega)), hh.keep (by repeat (first | exact keeps_nil | apply keeps_cons (by repeat (first | exact find_head | apply find_tail | apply find_skip)) (by first  | rfl) | exact keeps_self | exact keeps_left | apply keeps_app | apply keeps_mv | apply keeps_skip))⟩
                          · intro hg49; clear hl; intro hl
                            try simp only [decide_eq_true_eq, decide_eq_false_iff_not, Bool.not_eq_true', Bool.not_eq_false', Bool.not_eq_true, Bool.not_eq_false, Bool.and_eq_true, Bool.or_eq_true, Bool.and_eq_false_iff, Bool.or_eq_false_iff, Bool.not_not, ne_eq, Int.not_lt, Int.not_le, Decidable.not_not, beq_iff_eq, bne_iff_ne] at hg49
                            refine wl (wl_skip hl rfl ⟨_, _, rfl, rfl, rfl⟩ ?_)
                            clear hl a; intro a hl
                            refine wl (wl_skip hl rfl ⟨_, _, rfl, rfl, rfl⟩ ?_)
                            clear hl a; intro a hl
                            refine wl (wl_val hl rfl trivial (r_pickF hl rfl rfl) ?_)
                            clear hl a; intro a hl
                            refine w_nil ?_
                            have hl2 := hl.add (t := 3) (hl.add (t := 17) (hl.add (t := 18) (hl.add (t := 19) (hl.add (t := 145) (hl.nil) rfl) rfl) rfl) rfl) rfl; clear hl; have hl := hl2; clear hl2
                            refine then_normal ?_
                            refine c_condF hl rfl ?_
                            refine wp_skip ?_
                            refine blk_normal ?_
                            refine then_normal ?_
                            refine c_region ?_
                            first | refine wl (wl_val hl rfl trivial (r_add hl rfl rfl (by simp only [Fits]; omega)) ?_) | refine wl (wl_val hl rfl trivial (r_addW hl rfl rfl) ?_)
                            clear hl a; intro a hl
                            refine wl (wl_val hl rfl trivial (r_move hl rfl) ?_)
                            clear hl a; intro a hl
                            refine w_nil ?_
                            have hl2 := hl.add (t := 3) (hl.add (t := 17) (hl.add (t := 18) (hl.add (t := 19) (hl.nil) rfl) rfl) rfl) rfl; clear hl; have hl := hl2; clear hl2
                            refine then_normal ?_
                            refine ⟨⟨g2, M2, z.i + 1⟩, (by simp only; omega), ⟨by simp only; omega, hS2, hG3⟩, hl.addE (t := 19) (hl.addE (t := 3) (hl.addE (t := 17) (hl.addE (t := 18) (hl.nil) rfl (by first | rfl | (congr 1; omega))) rfl (by first | rfl | (congr 1; omega))) rfl (by first | rfl | (congr 1; omega))) rfl (by first | rfl | (congr 1; omega)), hh.keep (by repeat (first | exact keeps_nil | apply keeps_cons (by repeat (first | exact find_head | apply find_tail | apply find_skip)) (by first  | rfl) | exact keeps_self | exact keeps_left | apply keeps_app | apply keeps_mv | apply keeps_skip))⟩
                      · intro hg48; clear hl; intro hl
                        try simp only [decide_eq_true_eq, decide_eq_false_iff_not, Bool.not_eq_true', Bool.not_eq_false', Bool.not_eq_true, Bool.not_eq_false, Bool.and_eq_true, Bool.or_eq_true, Bool.and_eq_false_iff, Bool.or_eq_false_iff, Bool.not_not, ne_eq, Int.not_lt, Int.not_le, Decidable.not_not, beq_iff_eq, bne_iff_ne] at hg48
                        refine wl (wl_skip hl rfl ⟨_, _, rfl, rfl, rfl⟩ ?_)
                        clear hl a; intro a hl
                        refine wl (wl_skip hl rfl ⟨_, _, rfl, rfl, rfl⟩ ?_)
                        clear hl a; intro a hl
                        refine wl (wl_val hl rfl ⟨_, _, rfl, rfl, rfl⟩ (r_pickF hl rfl rfl) ?_)
                        clear hl a; intro a hl
                        refine wl (wl_val hl rfl trivial (r_pickF hl rfl rfl) ?_)
                        clear hl a; intro a hl
                        refine w_nil ?_
                        have hl2 := hl.add (t := 3) (hl.add (t := 6) (hl.add (t := 9) (hl.add (t := 17) (hl.add (t := 18) (hl.add (t := 19) (hl.add (t := 135) (hl.nil) rfl) rfl) rfl) rfl) rfl) rfl) rfl; clear hl; have hl := hl2; clear hl2
                        refine then_normal ?_
                        refine c_condF hl rfl ?_
                        refine wp_skip ?_
                        refine then_normal ?_
                        refine c_seq ?_
                        refine c_region ?_
                        refine wl (wl_val hl rfl trivial (r_move hl rfl) ?_)
                        clear hl a; intro a hl
                        refine wl (w_call hl hh rfl trivial rfl cal28 rfl (snap_spec hS9 bc (40 * ((z.i + 1 : Nat) : Int) + 1) (400 * ((z.i + 1 : Nat) : Int) + 4) ⟨by omega, by omega⟩ hG9) (by repeat (first | exact keeps_nil | apply keeps_cons (by repeat (first | exact find_head | apply find_tail | apply find_skip)) (by first  | rfl) | exact keeps_self | exact keeps_left | apply keeps_app | apply keeps_mv | apply keeps_skip)) (memK (E := sysL bc M9) hh (by repeat (first | exact keeps_nil | apply keeps_cons (by repeat (first | exact find_head | apply find_tail | apply find_skip)) (by first  | rfl) | exact keeps_self | exact keeps_left | apply keeps_app | apply keeps_mv | apply keeps_skip))) ?_)
                        clear hl hh a w; intro vc Fc a w hR hl hh
                        obtain ⟨ev9, bv9, Ee9, Eb9, rfl, hSn9, rfl⟩ := hR
                        try simp only [List.cons_append, List.nil_append, List.append_assoc, List.append_nil] at hh
                        refine wl (wl_val hl rfl trivial (r_move hl rfl) ?_)
                        clear hl a; intro a hl
                        refine wl (w_call hl hh rfl trivial rfl cal28 rfl (snap_spec hS2 bg (40 * ((z.i + 1 : Nat) : Int)) (400 * ((z.i + 1 : Nat) : Int)) ⟨by omega, by omega⟩ hG3) (by repeat (first | exact keeps_nil | apply keeps_cons (by repeat (first | exact find_head | apply find_tail | apply find_skip)) (by first  | rfl) | exact keeps_self | exact keeps_left | apply keeps_app | apply keeps_mv | apply keeps_skip)) (memK (E := sysL bg M2) hh (by repeat (first | exact keeps_nil | apply keeps_cons (by repeat (first | exact find_head | apply find_tail | apply find_skip)) (by first  | rfl) | exact keeps_self | exact keeps_left | apply keeps_app | apply keeps_mv | apply keeps_skip))) ?_)
                        clear hl hh a w; intro vc Fc a w hR hl hh
                        obtain ⟨ev2, bv2, Ee2, Eb2, rfl, hSn2, rfl⟩ := hR
                        try simp only [List.cons_append, List.nil_append, List.append_assoc, List.append_nil] at hh
                        refine wl (w_alloc hl hh rfl trivial zero75 rfl ?_)
                        clear hl hh a w; intro k10 a w hl hh
                        refine wl (w_alloc hl hh rfl trivial zero75 rfl ?_)
                        clear hl hh a w; intro k11 a w hl hh
                        refine wl (w_storeA hl hh trivial agg75 rfl rfl (by repeat (first | exact find_head | apply find_tail | apply find_skip)) (by exact snC_len _ _ _) (by first | exact Nat.le_of_eq (arrL_length _ _).symm | (rw [snC_len]; exact Nat.le_refl _)) (by first | exact snC_one hSn9 | exact snC_one hSn2) (by exact setL_whole (by first | rw [snC_len, arrL_length] | rw [snC_len, snC_len])) ?_)
                        clear hh w; intro w hh
                        refine wl (w_storeA hl hh trivial agg75 rfl rfl (by repeat (first | exact find_head | apply find_tail | apply find_skip)) (by exact snC_len _ _ _) (by first | exact Nat.le_of_eq (arrL_length _ _).symm | (rw [snC_len]; exact Nat.le_refl _)) (by first | exact snC_one hSn9 | exact snC_one hSn2) (by exact setL_whole (by first | rw [snC_len, arrL_length] | rw [snC_len, snC_len])) ?_)
                        clear hh w; intro w hh
                        refine w_nil ?_
                        have hl2 := hl.add (t := 3) (hl.add (t := 9) (hl.add (t := 10) (hl.add (t := 11) (hl.add (t := 17) (hl.add (t := 18) (hl.add (t := 19) (hl.nil) rfl) rfl) rfl) rfl) rfl) rfl) rfl; clear hl; have hl := hl2; clear hl2
                        refine then_normal ?_
                        refine c_seq ?_
                        refine c_region ?_
                        refine wl (wl_val hl rfl trivial (r_move hl rfl) ?_)
                        clear hl a; intro a hl
                        refine wl (wl_val hl rfl trivial (r_not hl rfl) ?_)
                        clear hl a; intro a hl
                        refine wl (wl_val hl rfl trivial (r_move hl rfl) ?_)
                        clear hl a; intro a hl
                        refine sl_split (t := 142) hl rfl ?_ ?_
                        · intro hg50; clear hl; intro hl
                          try simp only [decide_eq_true_eq, decide_eq_false_iff_not, Bool.not_eq_true', Bool.not_eq_false', Bool.not_eq_true, Bool.not_eq_false, Bool.and_eq_true, Bool.or_eq_true, Bool.and_eq_false_iff, Bool.or_eq_false_iff, Bool.not_not, ne_eq, Int.not_lt, Int.not_le, Decidable.not_not, beq_iff_eq, bne_iff_ne] at hg50
                          refine wl (w_call hl hh rfl ⟨_, _, rfl, rfl, rfl⟩ rfl cal29 rfl (eqState_spec (g := g2) (B := 40 * ((z.i + 1 : Nat) : Int)) (Q := 400 * ((z.i + 1 : Nat) : Int)) ⟨by omega, by omega⟩ hG3 k10 k11 ev9 bv9 ev2 bv2 Ee9 Eb9 Ee2 Eb2 ((hF9 (by simpa using by assumption)).1 ▸ hSn9) hSn2) (by repeat (first | exact keeps_nil | apply keeps_cons (by repeat (first | exact find_head | apply find_tail | apply find_skip)) (by first  | rfl) | exact keeps_self | exact keeps_left | apply keeps_app | apply keeps_mv | apply keeps_skip)) ⟨(hF9 (by simpa using by assumption)).1 ▸ (memK (E := snL k10 g9 ev9 bv9 Ee9 Eb9) hh (by repeat (first | exact keeps_nil | apply keeps_cons (by repeat (first | exact find_head | apply find_tail | apply find_skip)) (by first  | rfl) | exact keeps_self | exact keeps_left | apply keeps_app | apply keeps_mv | apply keeps_skip))), memK (E := snL k11 g2 ev2 bv2 Ee2 Eb2) hh (by repeat (first | exact keeps_nil | apply keeps_cons (by repeat (first | exact find_head | apply find_tail | apply find_skip)) (by first  | rfl) | exact keeps_self | exact keeps_left | apply keeps_app | apply keeps_mv | apply keeps_skip))⟩ ?_)
                          clear hl hh a w; intro vc Fc a w hR hl hh
                          obtain ⟨rfl, rfl⟩ := hR
                          try simp only [List.cons_append, List.nil_append, List.append_assoc, List.append_nil] at hh
                          refine wl (wl_val hl rfl ⟨_, _, rfl, rfl, rfl⟩ (r_not hl rfl) ?_)
                          clear hl a; intro a hl
                          refine wl (wl_val hl rfl trivial (r_pickT hl rfl rfl) ?_)
                          clear hl a; intro a hl
                          refine w_nil ?_
                          have hl2 := hl.add (t := 3) (hl.add (t := 17) (hl.add (t := 18) (hl.add (t := 19) (hl.add (t := 145) (hl.nil) rfl) rfl) rfl) rfl) rfl; clear hl; have hl := hl2; clear hl2
                          refine then_normal ?_
                          refine c_cond hl rfl ?_ ?_
                          · intro hc3
                            try simp only [decide_eq_true_eq, decide_eq_false_iff_not, Bool.not_eq_true', Bool.not_eq_false', Bool.not_eq_true, Bool.not_eq_false, Bool.and_eq_true, Bool.or_eq_true, Bool.and_eq_false_iff, Bool.or_eq_false_iff, Bool.not_not, ne_eq, Int.not_lt, Int.not_le, Decidable.not_not, beq_iff_eq, bne_iff_ne] at hc3
                            exfalso; first | contradiction | exact abs10a (by assumption) hT9 (fun h => (hF9 h).2) | exact absurd (hF9 (by simpa using by assumption)).2 (by assumption)
                          · intro hc3
                            try simp only [decide_eq_true_eq, decide_eq_false_iff_not, Bool.not_eq_true', Bool.not_eq_false', Bool.not_eq_true, Bool.not_eq_false, Bool.and_eq_true, Bool.or_eq_true, Bool.and_eq_false_iff, Bool.or_eq_false_iff, Bool.not_not, ne_eq, Int.not_lt, Int.not_le, Decidable.not_not, beq_iff_eq, bne_iff_ne] at hc3
                            refine wp_skip ?_
                            refine blk_normal ?_
                            refine then_normal ?_
                            refine c_region ?_
                            first | refine wl (wl_val hl rfl trivial (r_add hl rfl rfl (by simp only [Fits]; omega)) ?_) | refine wl (wl_val hl rfl trivial (r_addW hl rfl rfl) ?_)
                            clear hl a; intro a hl
                            refine wl (wl_val hl rfl trivial (r_move hl rfl) ?_)
                            clear hl a; intro a hl
                            refine w_nil ?_
                            have hl2 := hl.add (t := 3) (hl.add (t := 17) (hl.add (t := 18) (hl.add (t := 19) (hl.nil) rfl) rfl) rfl) rfl; clear hl; have hl := hl2; clear hl2
                            refine then_normal ?_
                            refine ⟨⟨g2, M2, z.i + 1⟩, (by simp only; omega), ⟨by simp only; omega, hS2, hG3⟩, hl.addE (t := 19) (hl.addE (t := 3) (hl.addE (t := 17) (hl.addE (t := 18) (hl.nil) rfl (by first | rfl | (congr 1; omega))) rfl (by first | rfl | (congr 1; omega))) rfl (by first | rfl | (congr 1; omega))) rfl (by first | rfl | (congr 1; omega)), hh.keep (by repeat (first | exact keeps_nil | apply keeps_cons (by repeat (first | exact find_head | apply find_tail | apply find_skip)) (by first  | rfl) | exact keeps_self | exact keeps_left | apply keeps_app | apply keeps_mv | apply keeps_skip))⟩
                        · intro hg50; clear hl; intro hl
                          try simp only [decide_eq_true_eq, decide_eq_false_iff_not, Bool.not_eq_true', Bool.not_eq_false', Bool.not_eq_true, Bool.not_eq_false, Bool.and_eq_true, Bool.or_eq_true, Bool.and_eq_false_iff, Bool.or_eq_false_iff, Bool.not_not, ne_eq, Int.not_lt, Int.not_le, Decidable.not_not, beq_iff_eq, bne_iff_ne] at hg50
                          refine wl (wl_skip hl rfl ⟨_, _, rfl, rfl, rfl⟩ ?_)
                          clear hl a; intro a hl
                          refine wl (wl_skip hl rfl ⟨_, _, rfl, rfl, rfl⟩ ?_)
                          clear hl a; intro a hl
                          refine wl (wl_val hl rfl trivial (r_pickF hl rfl rfl) ?_)
                          clear hl a; intro a hl
                          refine w_nil ?_
                          have hl2 := hl.add (t := 3) (hl.add (t := 17) (hl.add (t := 18) (hl.add (t := 19) (hl.add (t := 145) (hl.nil) rfl) rfl) rfl) rfl) rfl; clear hl; have hl := hl2; clear hl2
                          refine then_normal ?_
                          refine c_condF hl rfl ?_
                          refine wp_skip ?_
                          refine blk_normal ?_
                          refine then_normal ?_
                          refine c_region ?_
                          first | refine wl (wl_val hl rfl trivial (r_add hl rfl rfl (by simp only [Fits]; omega)) ?_) | refine wl (wl_val hl rfl trivial (r_addW hl rfl rfl) ?_)
                          clear hl a; intro a hl
                          refine wl (wl_val hl rfl trivial (r_move hl rfl) ?_)
                          clear hl a; intro a hl
                          refine w_nil ?_
                          have hl2 := hl.add (t := 3) (hl.add (t := 17) (hl.add (t := 18) (hl.add (t := 19) (hl.nil) rfl) rfl) rfl) rfl; clear hl; have hl := hl2; clear hl2
                          refine then_normal ?_
                          refine ⟨⟨g2, M2, z.i + 1⟩, (by simp only; omega), ⟨by simp only; omega, hS2, hG3⟩, hl.addE (t := 19) (hl.addE (t := 3) (hl.addE (t := 17) (hl.addE (t := 18) (hl.nil) rfl (by first | rfl | (congr 1; omega))) rfl (by first | rfl | (congr 1; omega))) rfl (by first | rfl | (congr 1; omega))) rfl (by first | rfl | (congr 1; omega)), hh.keep (by repeat (first | exact keeps_nil | apply keeps_cons (by repeat (first | exact find_head | apply find_tail | apply find_skip)) (by first  | rfl) | exact keeps_self | exact keeps_left | apply keeps_app | apply keeps_mv | apply keeps_skip))⟩
                · intro hg6; clear hl; intro hl
                  try simp only [decide_eq_true_eq, decide_eq_false_iff_not, Bool.not_eq_true', Bool.not_eq_false', Bool.not_eq_true, Bool.not_eq_false, Bool.and_eq_true, Bool.or_eq_true, Bool.and_eq_false_iff, Bool.or_eq_false_iff, Bool.not_not, ne_eq, Int.not_lt, Int.not_le, Decidable.not_not, beq_iff_eq, bne_iff_ne] at hg6
                  refine wl (wl_skip hl rfl ⟨_, _, rfl, rfl, rfl⟩ ?_)
                  clear hl a; intro a hl
                  refine wl (wl_skip hl rfl ⟨_, _, rfl, rfl, rfl⟩ ?_)
                  clear hl a; intro a hl
                  refine wl (wl_skip hl rfl ⟨_, _, rfl, rfl, rfl⟩ ?_)
                  clear hl a; intro a hl
                  refine wl (wl_val hl rfl trivial (r_pickF hl rfl rfl) ?_)
                  clear hl a; intro a hl
                  refine wl (wl_val hl rfl trivial (r_move hl rfl) ?_)
                  clear hl a; intro a hl
                  refine wl (wl_skip hl rfl ⟨_, _, rfl, rfl, rfl⟩ ?_)
                  clear hl a; intro a hl
                  refine wl (wl_skip hl rfl ⟨_, _, rfl, rfl, rfl⟩ ?_)
                  clear hl a; intro a hl
                  refine wl (wl_skip hl rfl ⟨_, _, rfl, rfl, rfl⟩ ?_)
                  clear hl a; intro a hl
                  refine wl (wl_skip hl rfl ⟨_, _, rfl, rfl, rfl⟩ ?_)
                  clear hl a; intro a hl
                  refine wl (wl_skip hl rfl ⟨_, _, rfl, rfl, rfl⟩ ?_)
                  clear hl a; intro a hl
                  refine wl (wl_skip hl rfl ⟨_, _, rfl, rfl, rfl⟩ ?_)
                  clear hl a; intro a hl
                  refine wl (wl_skip hl rfl ⟨_, _, rfl, rfl, rfl⟩ ?_)
                  clear hl a; intro a hl
                  refine wl (wl_skip hl rfl ⟨_, _, rfl, rfl, rfl⟩ ?_)
                  clear hl a; intro a hl
                  refine wl (wl_val hl rfl trivial (r_pickF hl rfl rfl) ?_)
                  clear hl a; intro a hl
                  refine wl (wl_val hl rfl trivial (r_move hl rfl) ?_)
                  clear hl a; intro a hl
                  refine wl (wl_skip hl rfl ⟨_, _, rfl, rfl, rfl⟩ ?_)
                  clear hl a; intro a hl
                  refine wl (wl_skip hl rfl ⟨_, _, rfl, rfl, rfl⟩ ?_)
                  clear hl a; intro a hl
                  refine wl (wl_skip hl rfl ⟨_, _, rfl, rfl, rfl⟩ ?_)
                  clear hl a; intro a hl
                  refine wl (wl_skip hl rfl ⟨_, _, rfl, rfl, rfl⟩ ?_)
                  clear hl a; intro a hl
                  refine wl (wl_skipU hl rfl ⟨_, _, rfl, rfl, rfl⟩ ?_)
                  clear hl a; intro a hl
                  refine wl (wl_skipU hl rfl ⟨_, _, rfl, rfl, rfl⟩ ?_)
                  clear hl a; intro a hl
                  refine wl (wl_skipU hl rfl ⟨_, _, rfl, rfl, rfl⟩ ?_)
                  clear hl a; intro a hl
                  refine wl (wl_skip hl rfl ⟨_, _, rfl, rfl, rfl⟩ ?_)
                  clear hl a; intro a hl
                  refine wl (wl_skip hl rfl ⟨_, _, rfl, rfl, rfl⟩ ?_)
                  clear hl a; intro a hl
                  refine wl (wl_skipU hl rfl ⟨_, _, rfl, rfl, rfl⟩ ?_)
                  clear hl a; intro a hl
                  refine wl (wl_skipU hl rfl ⟨_, _, rfl, rfl, rfl⟩ ?_)
                  clear hl a; intro a hl
                  refine wl (wl_skipU hl rfl ⟨_, _, rfl, rfl, rfl⟩ ?_)
                  clear hl a; intro a hl
                  refine wl (wl_skipU hl rfl ⟨_, _, rfl, rfl, rfl⟩ ?_)
                  clear hl a; intro a hl
                  refine wl (wl_skipU hl rfl ⟨_, _, rfl, rfl, rfl⟩ ?_)
                  clear hl a; intro a hl
                  refine wl (wl_skipU hl rfl ⟨_, _, rfl, rfl, rfl⟩ ?_)
                  clear hl a; intro a hl
                  refine wl (wl_skipU hl rfl ⟨_, _, rfl, rfl, rfl⟩ ?_)
                  clear hl a; intro a hl
                  refine wl (wl_skipU hl rfl ⟨_, _, rfl, rfl, rfl⟩ ?_)
                  clear hl a; intro a hl
                  refine wl (wl_skipU hl rfl ⟨_, _, rfl, rfl, rfl⟩ ?_)
                  clear hl a; intro a hl
                  refine wl (wl_skipU hl rfl ⟨_, _, rfl, rfl, rfl⟩ ?_)
                  clear hl a; intro a hl
                  refine wl (wl_skipU hl rfl ⟨_, _, rfl, rfl, rfl⟩ ?_)
                  clear hl a; intro a hl
                  refine wl (wl_skipU hl rfl ⟨_, _, rfl, rfl, rfl⟩ ?_)
                  clear hl a; intro a hl
                  refine wl (wl_skipU hl rfl ⟨_, _, rfl, rfl, rfl⟩ ?_)
                  clear hl a; intro a hl
                  refine wl (wl_skip hl rfl ⟨_, _, rfl, rfl, rfl⟩ ?_)
                  clear hl a; intro a hl
                  refine wl (wl_val hl rfl trivial (r_pickF hl rfl rfl) ?_)
                  clear hl a; intro a hl
                  refine wl (wl_val hl rfl trivial (r_assign hl rfl) ?_)
                  clear hl a; intro a hl
                  refine w_nil ?_
                  have hl2 := hl.add (t := 3) (hl.add (t := 6) (hl.add (t := 8) (hl.add (t := 9) (hl.add (t := 17) (hl.add (t := 18) (hl.add (t := 19) (hl.nil) rfl) rfl) rfl) rfl) rfl) rfl) rfl; clear hl; have hl := hl2; clear hl2
                  have hl9 := hl.addE (t := 9) hl rfl (congrArg Value.bool (dec10b hok (by unfold S10; first | (simp only [true_iff, Bool.false_eq_true, false_iff]; omega) | (rw [decide_eq_true_eq]; omega))))
                  rw [← hsd9] at hl9
                  clear hl
                  have hl := hl9
                  clear hl9
                  try clear hg1; try clear hg2
                  refine then_normal ?_
                  refine c_seq ?_
                  refine c_seq ?_
                  refine c_region ?_
                  refine wl (wl_val hl rfl trivial (r_move hl rfl) ?_)
                  clear hl a; intro a hl
                  refine wl (wl_val hl rfl trivial (r_move hl rfl) ?_)
                  clear hl a; intro a hl
                  refine wl (wl_val hl rfl trivial (r_eql hl rfl rfl) ?_)
                  clear hl a; intro a hl
                  refine wl (wl_val hl rfl trivial (r_neq_bool hl rfl rfl Tryd.underlying4) ?_)
                  clear hl a; intro a hl
                  refine wl (wl_val hl rfl trivial (r_move hl rfl) ?_)
                  clear hl a; intro a hl
                  refine sl_split (t := 128) hl rfl ?_ ?_
                  · intro hg51; clear hl; intro hl
                    try simp only [decide_eq_true_eq, decide_eq_false_iff_not, Bool.not_eq_true', Bool.not_eq_false', Bool.not_eq_true, Bool.not_eq_false, Bool.and_eq_true, Bool.or_eq_true, Bool.and_eq_false_iff, Bool.or_eq_false_iff, Bool.not_not, ne_eq, Int.not_lt, Int.not_le, Decidable.not_not, beq_iff_eq, bne_iff_ne] at hg51
                    exfalso; first | contradiction | exact abs10a (by assumption) hT9 (fun h => (hF9 h).2) | exact absurd (hF9 (by simpa using by assumption)).2 (by assumption)
                  · intro hg51; clear hl; intro hl
                    try simp only [decide_eq_true_eq, decide_eq_false_iff_not, Bool.not_eq_true', Bool.not_eq_false', Bool.not_eq_true, Bool.not_eq_false, Bool.and_eq_true, Bool.or_eq_true, Bool.and_eq_false_iff, Bool.or_eq_false_iff, Bool.not_not, ne_eq, Int.not_lt, Int.not_le, Decidable.not_not, beq_iff_eq, bne_iff_ne] at hg51
                    refine wl (wl_val hl rfl ⟨_, _, rfl, rfl, rfl⟩ (r_move hl rfl) ?_)
                    clear hl a; intro a hl
                    refine wl (wl_val hl rfl ⟨_, _, rfl, rfl, rfl⟩ (r_not hl rfl) ?_)
                    clear hl a; intro a hl
                    refine wl (wl_val hl rfl ⟨_, _, rfl, rfl, rfl⟩ (r_move hl rfl) ?_)
                    clear hl a; intro a hl
                    refine sl_split (t := 131) hl rfl ?_ ?_
                    · intro hg52; clear hl; intro hl
                      try simp only [decide_eq_true_eq, decide_eq_false_iff_not, Bool.not_eq_true', Bool.not_eq_false', Bool.not_eq_true, Bool.not_eq_false, Bool.and_eq_true, Bool.or_eq_true, Bool.and_eq_false_iff, Bool.or_eq_false_iff, Bool.not_not, ne_eq, Int.not_lt, Int.not_le, Decidable.not_not, beq_iff_eq, bne_iff_ne] at hg52
                      refine wl (wl_val hl rfl ⟨_, _, rfl, rfl, rfl⟩ (r_move hl rfl) ?_)
                      clear hl a; intro a hl
                      refine wl (wl_val hl rfl ⟨_, _, rfl, rfl, rfl⟩ (r_neq hl rfl rfl) ?_)
                      clear hl a; intro a hl
                      refine wl (wl_val hl rfl ⟨_, _, rfl, rfl, rfl⟩ (r_pickT hl rfl rfl) ?_)
                      clear hl a; intro a hl
                      refine wl (wl_val hl rfl trivial (r_pickF hl rfl rfl) ?_)
                      clear hl a; intro a hl
                      refine w_nil ?_
                      have hl2 := hl.add (t := 3) (hl.add (t := 6) (hl.add (t := 9) (hl.add (t := 17) (hl.add (t := 18) (hl.add (t := 19) (hl.add (t := 135) (hl.nil) rfl) rfl) rfl) rfl) rfl) rfl) rfl; clear hl; have hl := hl2; clear hl2
                      refine then_normal ?_
                      refine c_cond hl rfl ?_ ?_
                      · intro hc2
                        try simp only [decide_eq_true_eq, decide_eq_false_iff_not, Bool.not_eq_true', Bool.not_eq_false', Bool.not_eq_true, Bool.not_eq_false, Bool.and_eq_true, Bool.or_eq_true, Bool.and_eq_false_iff, Bool.or_eq_false_iff, Bool.not_not, ne_eq, Int.not_lt, Int.not_le, Decidable.not_not, beq_iff_eq, bne_iff_ne] at hc2
                        exfalso; first | contradiction | exact abs10a (by assumption) hT9 (fun h => (hF9 h).2) | exact absurd (hF9 (by simpa using by assumption)).2 (by assumption)
                      · intro hc2
                        try simp only [decide_eq_true_eq, decide_eq_false_iff_not, Bool.not_eq_true', Bool.not_eq_false', Bool.not_eq_true, Bool.not_eq_false, Bool.and_eq_true, Bool.or_eq_true, Bool.and_eq_false_iff, Bool.or_eq_false_iff, Bool.not_not, ne_eq, Int.not_lt, Int.not_le, Decidable.not_not, beq_iff_eq, bne_iff_ne] at hc2
                        refine wp_skip ?_
                        refine then_normal ?_
                        refine c_seq ?_
                        refine c_region ?_
                        refine wl (wl_val hl rfl trivial (r_move hl rfl) ?_)
                        clear hl a; intro a hl
                        refine wl (w_call hl hh rfl trivial rfl cal28 rfl (snap_spec hS9 bc (40 * ((z.i + 1 : Nat) : Int) + 1) (400 * ((z.i + 1 : Nat) : Int) + 4) ⟨by omega, by omega⟩ hG9) (by repeat (first | exact keeps_nil | apply keeps_cons (by repeat (first | exact find_head | apply find_tail | apply find_skip)) (by first  | rfl) | exact keeps_self | exact keeps_left | apply keeps_app | apply keeps_mv | apply keeps_skip)) (memK (E := sysL bc M9) hh (by repeat (first | exact keeps_nil | apply keeps_cons (by repeat (first | exact find_head | apply find_tail | apply find_skip)) (by first  | rfl) | exact keeps_self | exact keeps_left | apply keeps_app | apply keeps_mv | apply keeps_skip))) ?_)
                        clear hl hh a w; intro vc Fc a w hR hl hh
                        obtain ⟨ev9, bv9, Ee9, Eb9, rfl, hSn9, rfl⟩ := hR
                        try simp only [List.cons_append, List.nil_append, List.append_assoc, List.append_nil] at hh
                        refine wl (wl_val hl rfl trivial (r_move hl rfl) ?_)
                        clear hl a; intro a hl
                        refine wl (w_call hl hh rfl trivial rfl cal28 rfl (snap_spec hS2 bg (40 * ((z.i + 1 : Nat) : Int)) (400 * ((z.i + 1 : Nat) : Int)) ⟨by omega, by omega⟩ hG3) (by repeat (first | exact keeps_nil | apply keeps_cons (by repeat (first | exact find_head | apply find_tail | apply find_skip)) (by first  | rfl) | exact keeps_self | exact keeps_left | apply keeps_app | apply keeps_mv | apply keeps_skip)) (memK (E := sysL bg M2) hh (by repeat (first | exact keeps_nil | apply keeps_cons (by repeat (first | exact find_head | apply find_tail | apply find_skip)) (by first  | rfl) | exact keeps_self | exact keeps_left | apply keeps_app | apply keeps_mv | apply keeps_skip))) ?_)
                        clear hl hh a w; intro vc Fc a w hR hl hh
                        obtain ⟨ev2, bv2, Ee2, Eb2, rfl, hSn2, rfl⟩ := hR
                        try simp only [List.cons_append, List.nil_append, List.append_assoc, List.append_nil] at hh
                        refine wl (w_alloc hl hh rfl trivial zero75 rfl ?_)
                        clear hl hh a w; intro k10 a w hl hh
                        refine wl (w_alloc hl hh rfl trivial zero75 rfl ?_)
                        clear hl hh a w; intro k11 a w hl hh
                        refine wl (w_storeA hl hh trivial agg75 rfl rfl (by repeat (first | exact find_head | apply find_tail | apply find_skip)) (by exact snC_len _ _ _) (by first | exact Nat.le_of_eq (arrL_length _ _).symm | (rw [snC_len]; exact Nat.le_refl _)) (by first | exact snC_one hSn9 | exact snC_one hSn2) (by exact setL_whole (by first | rw [snC_len, arrL_length] | rw [snC_len, snC_len])) ?_)
                        clear hh w; intro w hh
                        refine wl (w_storeA hl hh trivial agg75 rfl rfl (by repeat (first | exact find_head | apply find_tail | apply find_skip)) (by exact snC_len _ _ _) (by first | exact Nat.le_of_eq (arrL_length _ _).symm | (rw [snC_len]; exact Nat.le_refl _)) (by first | exact snC_one hSn9 | exact snC_one hSn2) (by exact setL_whole (by first | rw [snC_len, arrL_length] | rw [snC_len, snC_len])) ?_)
                        clear hh w; intro w hh
                        refine w_nil ?_
                        have hl2 := hl.add (t := 3) (hl.add (t := 9) (hl.add (t := 10) (hl.add (t := 11) (hl.add (t := 17) (hl.add (t := 18) (hl.add (t := 19) (hl.nil) rfl) rfl) rfl) rfl) rfl) rfl) rfl; clear hl; have hl := hl2; clear hl2
                        refine then_normal ?_
                        refine c_seq ?_
                        refine c_region ?_
                        refine wl (wl_val hl rfl trivial (r_move hl rfl) ?_)
                        clear hl a; intro a hl
                        refine wl (wl_val hl rfl trivial (r_not hl rfl) ?_)
                        clear hl a; intro a hl
                        refine wl (wl_val hl rfl trivial (r_move hl rfl) ?_)
                        clear hl a; intro a hl
                        refine sl_split (t := 142) hl rfl ?_ ?_
                        · intro hg53; clear hl; intro hl
                          try simp only [decide_eq_true_eq, decide_eq_false_iff_not, Bool.not_eq_true', Bool.not_eq_false', Bool.not_eq_true, Bool.not_eq_false, Bool.and_eq_true, Bool.or_eq_true, Bool.and_eq_false_iff, Bool.or_eq_false_iff, Bool.not_not, ne_eq, Int.not_lt, Int.not_le, Decidable.not_not, beq_iff_eq, bne_iff_ne] at hg53
                          refine wl (w_call hl hh rfl ⟨_, _, rfl, rfl, rfl⟩ rfl cal29 rfl (eqState_spec (g := g2) (B := 40 * ((z.i + 1 : Nat) : Int)) (Q := 400 * ((z.i + 1 : Nat) : Int)) ⟨by omega, by omega⟩ hG3 k10 k11 ev9 bv9 ev2 bv2 Ee9 Eb9 Ee2 Eb2 ((hF9 (by simpa using by assumption)).1 ▸ hSn9) hSn2) (by repeat (first | exact keeps_nil | apply keeps_cons (by repeat (first | exact find_head | apply find_tail | apply find_skip)) (by first  | rfl) | exact keeps_self | exact keeps_left | apply keeps_app | apply keeps_mv | apply keeps_skip)) ⟨(hF9 (by simpa using by assumption)).1 ▸ (memK (E := snL k10 g9 ev9 bv9 Ee9 Eb9) hh (by repeat (first | exact keeps_nil | apply keeps_cons (by repeat (first | exact find_head | apply find_tail | apply find_skip)) (by first  | rfl) | exact keeps_self | exact keeps_left | apply keeps_app | apply keeps_mv | apply keeps_skip))), memK (E := snL k11 g2 ev2 bv2 Ee2 Eb2) hh (by repeat (first | exact keeps_nil | apply keeps_cons (by repeat (first | exact find_head | apply find_tail | apply find_skip)) (by first  | rfl) | exact keeps_self | exact keeps_left | apply keeps_app | apply keeps_mv | apply keeps_skip))⟩ ?_)
                          clear hl hh a w; intro vc Fc a w hR hl hh
                          obtain ⟨rfl, rfl⟩ := hR
                          try simp only [List.cons_append, List.nil_append, List.append_assoc, List.append_nil] at hh
                          refine wl (wl_val hl rfl ⟨_, _, rfl, rfl, rfl⟩ (r_not hl rfl) ?_)
                          clear hl a; intro a hl
                          refine wl (wl_val hl rfl trivial (r_pickT hl rfl rfl) ?_)
                          clear hl a; intro a hl
                          refine w_nil ?_
                          have hl2 := hl.add (t := 3) (hl.add (t := 17) (hl.add (t := 18) (hl.add (t := 19) (hl.add (t := 145) (hl.nil) rfl) rfl) rfl) rfl) rfl; clear hl; have hl := hl2; clear hl2
                          refine then_normal ?_
                          refine c_cond hl rfl ?_ ?_
                          · intro hc3
                            try simp only [decide_eq_true_eq, decide_eq_false_iff_not, Bool.not_eq_true', Bool.not_eq_false', Bool.not_eq_true, Bool.not_eq_false, Bool.and_eq_true, Bool.or_eq_true, Bool.and_eq_false_iff, Bool.or_eq_false_iff, Bool.not_not, ne_eq, Int.not_lt, Int.not_le, Decidable.not_not, beq_iff_eq, bne_iff_ne] at hc3
                            exfalso; first | contradiction | exact abs10a (by assumption) hT9 (fun h => (hF9 h).2) | exact absurd (hF9 (by simpa using by assumption)).2 (by assumption)
                          · intro hc3
                            try simp only [decide_eq_true_eq, decide_eq_false_iff_not, Bool.not_eq_true', Bool.not_eq_false', Bool.not_eq_true, Bool.not_eq_false, Bool.and_eq_true, Bool.or_eq_true, Bool.and_eq_false_iff, Bool.or_eq_false_iff, Bool.not_not, ne_eq, Int.not_lt, Int.not_le, Decidable.not_not, beq_iff_eq, bne_iff_ne] at hc3
                            refine wp_skip ?_
                            refine blk_normal ?_
                            refine then_normal ?_
                            refine c_region ?_
                            first | refine wl (wl_val hl rfl trivial (r_add hl rfl rfl (by simp only [Fits]; omega)) ?_) | refine wl (wl_val hl rfl trivial (r_addW hl rfl rfl) ?_)
                            clear hl a; intro a hl
                            refine wl (wl_val hl rfl trivial (r_move hl rfl) ?_)
                            clear hl a; intro a hl
                            refine w_nil ?_
                            have hl2 := hl.add (t := 3) (hl.add (t := 17) (hl.add (t := 18) (hl.add (t := 19) (hl.nil) rfl) rfl) rfl) rfl; clear hl; have hl := hl2; clear hl2
                            refine then_normal ?_
                            refine ⟨⟨g2, M2, z.i + 1⟩, (by simp only; omega), ⟨by simp only; omega, hS2, hG3⟩, hl.addE (t := 19) (hl.addE (t := 3) (hl.addE (t := 17) (hl.addE (t := 18) (hl.nil) rfl (by first | rfl | (congr 1; omega))) rfl (by first | rfl | (congr 1; omega))) rfl (by first | rfl | (congr 1; omega))) rfl (by first | rfl | (congr 1; omega)), hh.keep (by repeat (first | exact keeps_nil | apply keeps_cons (by repeat (first | exact find_head | apply find_tail | apply find_skip)) (by first  | rfl) | exact keeps_self | exact keeps_left | apply keeps_app | apply keeps_mv | apply keeps_skip))⟩
                        · intro hg53; clear hl; intro hl
                          try simp only [decide_eq_true_eq, decide_eq_false_iff_not, Bool.not_eq_true', Bool.not_eq_false', Bool.not_eq_true, Bool.not_eq_false, Bool.and_eq_true, Bool.or_eq_true, Bool.and_eq_false_iff, Bool.or_eq_false_iff, Bool.not_not, ne_eq, Int.not_lt, Int.not_le, Decidable.not_not, beq_iff_eq, bne_iff_ne] at hg53
                          refine wl (wl_skip hl rfl ⟨_, _, rfl, rfl, rfl⟩ ?_)
                          clear hl a; intro a hl
                          refine wl (wl_skip hl rfl ⟨_, _, rfl, rfl, rfl⟩ ?_)
                          clear hl a; intro a hl
                          refine wl (wl_val hl rfl trivial (r_pickF hl rfl rfl) ?_)
                          clear hl a; intro a hl
                          refine w_nil ?_
                          have hl2 := hl.add (t := 3) (hl.add (t := 17) (hl.add (t := 18) (hl.add (t := 19) (hl.add (t := 145) (hl.nil) rfl) rfl) rfl) rfl) rfl; clear hl; have hl := hl2; clear hl2
                          refine then_normal ?_
                          refine c_condF hl rfl ?_
                          refine wp_skip ?_
                          refine blk_normal ?_
                          refine then_normal ?_
                          refine c_region ?_
                          first | refine wl (wl_val hl rfl trivial (r_add hl rfl rfl (by simp only [Fits]; omega)) ?_) | refine wl (wl_val hl rfl trivial (r_addW hl rfl rfl) ?_)
                          clear hl a; intro a hl
                          refine wl (wl_val hl rfl trivial (r_move hl rfl) ?_)
                          clear hl a; intro a hl
                          refine w_nil ?_
                          have hl2 := hl.add (t := 3) (hl.add (t := 17) (hl.add (t := 18) (hl.add (t := 19) (hl.nil) rfl) rfl) rfl) rfl; clear hl; have hl := hl2; clear hl2
                          refine then_normal ?_
                          refine ⟨⟨g2, M2, z.i + 1⟩, (by simp only; omega), ⟨by simp only; omega, hS2, hG3⟩, hl.addE (t := 19) (hl.addE (t := 3) (hl.addE (t := 17) (hl.addE (t := 18) (hl.nil) rfl (by first | rfl | (congr 1; omega))) rfl (by first | rfl | (congr 1; omega))) rfl (by first | rfl | (congr 1; omega))) rfl (by first | rfl | (congr 1; omega)), hh.keep (by repeat (first | exact keeps_nil | apply keeps_cons (by repeat (first | exact find_head | apply find_tail | apply find_skip)) (by first  | rfl) | exact keeps_self | exact keeps_left | apply keeps_app | apply keeps_mv | apply keeps_skip))⟩
                    · intro hg52; clear hl; intro hl
                      try simp only [decide_eq_true_eq, decide_eq_false_iff_not, Bool.not_eq_true', Bool.not_eq_false', Bool.not_eq_true, Bool.not_eq_false, Bool.and_eq_true, Bool.or_eq_true, Bool.and_eq_false_iff, Bool.or_eq_false_iff, Bool.not_not, ne_eq, Int.not_lt, Int.not_le, Decidable.not_not, beq_iff_eq, bne_iff_ne] at hg52
                      refine wl (wl_skip hl rfl ⟨_, _, rfl, rfl, rfl⟩ ?_)
                      clear hl a; intro a hl
                      refine wl (wl_skip hl rfl ⟨_, _, rfl, rfl, rfl⟩ ?_)
                      clear hl a; intro a hl
                      refine wl (wl_val hl rfl ⟨_, _, rfl, rfl, rfl⟩ (r_pickF hl rfl rfl) ?_)
                      clear hl a; intro a hl
                      refine wl (wl_val hl rfl trivial (r_pickF hl rfl rfl) ?_)
                      clear hl a; intro a hl
                      refine w_nil ?_
                      have hl2 := hl.add (t := 3) (hl.add (t := 6) (hl.add (t := 9) (hl.add (t := 17) (hl.add (t := 18) (hl.add (t := 19) (hl.add (t := 135) (hl.nil) rfl) rfl) rfl) rfl) rfl) rfl) rfl; clear hl; have hl := hl2; clear hl2
                      refine then_normal ?_
                      refine c_condF hl rfl ?_
                      refine wp_skip ?_
                      refine then_normal ?_
                      refine c_seq ?_
                      refine c_region ?_
                      refine wl (wl_val hl rfl trivial (r_move hl rfl) ?_)
                      clear hl a; intro a hl
                      refine wl (w_call hl hh rfl trivial rfl cal28 rfl (snap_spec hS9 bc (40 * ((z.i + 1 : Nat) : Int) + 1) (400 * ((z.i + 1 : Nat) : Int) + 4) ⟨by omega, by omega⟩ hG9) (by repeat (first | exact keeps_nil | apply keeps_cons (by repeat (first | exact find_head | apply find_tail | apply find_skip)) (by first  | rfl) | exact keeps_self | exact keeps_left | apply keeps_app | apply keeps_mv | apply keeps_skip)) (memK (E := sysL bc M9) hh (by repeat (first | exact keeps_nil | apply keeps_cons (by repeat (first | exact find_head | apply find_tail | apply find_skip)) (by first  | rfl) | exact keeps_self | exact keeps_left | apply keeps_app | apply keeps_mv | apply keeps_skip))) ?_)
                      clear hl hh a w; intro vc Fc a w hR hl hh
                      obtain ⟨ev9, bv9, Ee9, Eb9, rfl, hSn9, rfl⟩ := hR
                      try simp only [List.cons_append, List.nil_append, List.append_assoc, List.append_nil] at hh
                      refine wl (wl_val hl rfl trivial (r_move hl rfl) ?_)
                      clear hl a; intro a hl
                      refine wl (w_call hl hh rfl trivial rfl cal28 rfl (snap_spec hS2 bg (40 * ((z.i + 1 : Nat) : Int)) (400 * ((z.i + 1 : Nat) : Int)) ⟨by omega, by omega⟩ hG3) (by repeat (first | exact keeps_nil | apply keeps_cons (by repeat (first | exact find_head | apply find_tail | apply find_skip)) (by first  | rfl) | exact keeps_self | exact keeps_left | apply keeps_app | apply keeps_mv | apply keeps_skip)) (memK (E := sysL bg M2) hh (by repeat (first | exact keeps_nil | apply keeps_cons (by repeat (first | exact find_head | apply find_tail | apply find_skip)) (by first  | rfl) | exact keeps_self | exact keeps_left | apply keeps_app | apply keeps_mv | apply keeps_skip))) ?_)
                      clear hl hh a w; intro vc Fc a w hR hl hh
                      obtain ⟨ev2, bv2, Ee2, Eb2, rfl, hSn2, rfl⟩ := hR
                      try simp only [List.cons_append, List.nil_append, List.append_assoc, List.append_nil] at hh
                      refine wl (w_alloc hl hh rfl trivial zero75 rfl ?_)
                      clear hl hh a w; intro k10 a w hl hh
                      refine wl (w_alloc hl hh rfl trivial zero75 rfl ?_)
                      clear hl hh a w; intro k11 a w hl hh
                      refine wl (w_storeA hl hh trivial agg75 rfl rfl (by repeat (first | exact find_head | apply find_tail | apply find_skip)) (by exact snC_len _ _ _) (by first | exact Nat.le_of_eq (arrL_length _ _).symm | (rw [snC_len]; exact Nat.le_refl _)) (by first | exact snC_one hSn9 | exact snC_one hSn2) (by exact setL_whole (by first | rw [snC_len, arrL_length] | rw [snC_len, snC_len])) ?_)
                      clear hh w; intro w hh
                      refine wl (w_storeA hl hh trivial agg75 rfl rfl (by repeat (first | exact find_head | apply find_tail | apply find_skip)) (by exact snC_len _ _ _) (by first | exact Nat.le_of_eq (arrL_length _ _).symm | (rw [snC_len]; exact Nat.le_refl _)) (by first | exact snC_one hSn9 | exact snC_one hSn2) (by exact setL_whole (by first | rw [snC_len, arrL_length] | rw [snC_len, snC_len])) ?_)
                      clear hh w; intro w hh
                      refine w_nil ?_
                      have hl2 := hl.add (t := 3) (hl.add (t := 9) (hl.add (t := 10) (hl.add (t := 11) (hl.add (t := 17) (hl.add (t := 18) (hl.add (t := 19) (hl.nil) rfl) rfl) rfl) rfl) rfl) rfl) rfl; clear hl; have hl := hl2; clear hl2
                      refine then_normal ?_
                      refine c_seq ?_
                      refine c_region ?_
                      refine wl (wl_val hl rfl trivial (r_move hl rfl) ?_)
                      clear hl a; intro a hl
                      refine wl (wl_val hl rfl trivial (r_not hl rfl) ?_)
                      clear hl a; intro a hl
                      refine wl (wl_val hl rfl trivial (r_move hl rfl) ?_)
                      clear hl a; intro a hl
                      refine sl_split (t := 142) hl rfl ?_ ?_
                      · intro hg54; clear hl; intro hl
                        try simp only [decide_eq_true_eq, decide_eq_false_iff_not, Bool.not_eq_true', Bool.not_eq_false', Bool.not_eq_true, Bool.not_eq_false, Bool.and_eq_true, Bool.or_eq_true, Bool.and_eq_false_iff, Bool.or_eq_false_iff, Bool.not_not, ne_eq, Int.not_lt, Int.not_le, Decidable.not_not, beq_iff_eq, bne_iff_ne] at hg54
                        refine wl (w_call hl hh rfl ⟨_, _, rfl, rfl, rfl⟩ rfl cal29 rfl (eqState_spec (g := g2) (B := 40 * ((z.i + 1 : Nat) : Int)) (Q := 400 * ((z.i + 1 : Nat) : Int)) ⟨by omega, by omega⟩ hG3 k10 k11 ev9 bv9 ev2 bv2 Ee9 Eb9 Ee2 Eb2 ((hF9 (by simpa using by assumption)).1 ▸ hSn9) hSn2) (by repeat (first | exact keeps_nil | apply keeps_cons (by repeat (first | exact find_head | apply find_tail | apply find_skip)) (by first  | rfl) | exact keeps_self | exact keeps_left | apply keeps_app | apply keeps_mv | apply keeps_skip)) ⟨(hF9 (by simpa using by assumption)).1 ▸ (memK (E := snL k10 g9 ev9 bv9 Ee9 Eb9) hh (by repeat (first | exact keeps_nil | apply keeps_cons (by repeat (first | exact find_head | apply find_tail | apply find_skip)) (by first  | rfl) | exact keeps_self | exact keeps_left | apply keeps_app | apply keeps_mv | apply keeps_skip))), memK (E := snL k11 g2 ev2 bv2 Ee2 Eb2) hh (by repeat (first | exact keeps_nil | apply keeps_cons (by repeat (first | exact find_head | apply find_tail | apply find_skip)) (by first  | rfl) | exact keeps_self | exact keeps_left | apply keeps_app | apply keeps_mv | apply keeps_skip))⟩ ?_)
                        clear hl hh a w; intro vc Fc a w hR hl hh
                        obtain ⟨rfl, rfl⟩ := hR
                        try simp only [List.cons_append, List.nil_append, List.append_assoc, List.append_nil] at hh
                        refine wl (wl_val hl rfl ⟨_, _, rfl, rfl, rfl⟩ (r_not hl rfl) ?_)
                        clear hl a; intro a hl
                        refine wl (wl_val hl rfl trivial (r_pickT hl rfl rfl) ?_)
                        clear hl a; intro a hl
                        refine w_nil ?_
                        have hl2 := hl.add (t := 3) (hl.add (t := 17) (hl.add (t := 18) (hl.add (t := 19) (hl.add (t := 145) (hl.nil) rfl) rfl) rfl) rfl) rfl; clear hl; have hl := hl2; clear hl2
                        refine then_normal ?_
                        refine c_cond hl rfl ?_ ?_
                        · intro hc3
                          try simp only [decide_eq_true_eq, decide_eq_false_iff_not, Bool.not_eq_true', Bool.not_eq_false', Bool.not_eq_true, Bool.not_eq_false, Bool.and_eq_true, Bool.or_eq_true, Bool.and_eq_false_iff, Bool.or_eq_false_iff, Bool.not_not, ne_eq, Int.not_lt, Int.not_le, Decidable.not_not, beq_iff_eq, bne_iff_ne] at hc3
                          exfalso; first | contradiction | exact abs10a (by assumption) hT9 (fun h => (hF9 h).2) | exact absurd (hF9 (by simpa using by assumption)).2 (by assumption)
                        · intro hc3
                          try simp only [decide_eq_true_eq, decide_eq_false_iff_not, Bool.not_eq_true', Bool.not_eq_false', Bool.not_eq_true, Bool.not_eq_false, Bool.and_eq_true, Bool.or_eq_true, Bool.and_eq_false_iff, Bool.or_eq_false_iff, Bool.not_not, ne_eq, Int.not_lt, Int.not_le, Decidable.not_not, beq_iff_eq, bne_iff_ne] at hc3
                          refine wp_skip ?_
                          refine blk_normal ?_
                          refine then_normal ?_
                          refine c_region ?_
                          first | refine wl (wl_val hl rfl trivial (r_add hl rfl rfl (by simp only [Fits]; omega)) ?_) | refine wl (wl_val hl rfl trivial (r_addW hl rfl rfl) ?_)
                          clear hl a; intro a hl
                          refine wl (wl_val hl rfl trivial (r_move hl rfl) ?_)
                          clear hl a; intro a hl
                          refine w_nil ?_
                          have hl2 := hl.add (t := 3) (hl.add (t := 17) (hl.add (t := 18) (hl.add (t := 19) (hl.nil) rfl) rfl) rfl) rfl; clear hl; have hl := hl2; clear hl2
                          refine then_normal ?_
                          refine ⟨⟨g2, M2, z.i + 1⟩, (by simp only; omega), ⟨by simp only; omega, hS2, hG3⟩, hl.addE (t := 19) (hl.addE (t := 3) (hl.addE (t := 17) (hl.addE (t := 18) (hl.nil) rfl (by first | rfl | (congr 1; omega))) rfl (by first | rfl | (congr 1; omega))) rfl (by first | rfl | (congr 1; omega))) rfl (by first | rfl | (congr 1; omega)), hh.keep (by repeat (first | exact keeps_nil | apply keeps_cons (by repeat (first | exact find_head | apply find_tail | apply find_skip)) (by first  | rfl) | exact keeps_self | exact keeps_left | apply keeps_app | apply keeps_mv | apply keeps_skip))⟩
                      · intro hg54; clear hl; intro hl
                        try simp only [decide_eq_true_eq, decide_eq_false_iff_not, Bool.not_eq_true', Bool.not_eq_false', Bool.not_eq_true, Bool.not_eq_false, Bool.and_eq_true, Bool.or_eq_true, Bool.and_eq_false_iff, Bool.or_eq_false_iff, Bool.not_not, ne_eq, Int.not_lt, Int.not_le, Decidable.not_not, beq_iff_eq, bne_iff_ne] at hg54
                        refine wl (wl_skip hl rfl ⟨_, _, rfl, rfl, rfl⟩ ?_)
                        clear hl a; intro a hl
                        refine wl (wl_skip hl rfl ⟨_, _, rfl, rfl, rfl⟩ ?_)
                        clear hl a; intro a hl
                        refine wl (wl_val hl rfl trivial (r_pickF hl rfl rfl) ?_)
                        clear hl a; intro a hl
                        refine w_nil ?_
                        have hl2 := hl.add (t := 3) (hl.add (t := 17) (hl.add (t := 18) (hl.add (t := 19) (hl.add (t := 145) (hl.nil) rfl) rfl) rfl) rfl) rfl; clear hl; have hl := hl2; clear hl2
                        refine then_normal ?_
                        refine c_condF hl rfl ?_
                        refine wp_skip ?_
                        refine blk_normal ?_
                        refine then_normal ?_
                        refine c_region ?_
                        first | refine wl (wl_val hl rfl trivial (r_add hl rfl rfl (by simp only [Fits]; omega)) ?_) | refine wl (wl_val hl rfl trivial (r_addW hl rfl rfl) ?_)
                        clear hl a; intro a hl
                        refine wl (wl_val hl rfl trivial (r_move hl rfl) ?_)
                        clear hl a; intro a hl
                        refine w_nil ?_
                        have hl2 := hl.add (t := 3) (hl.add (t := 17) (hl.add (t := 18) (hl.add (t := 19) (hl.nil) rfl) rfl) rfl) rfl; clear hl; have hl := hl2; clear hl2
                        refine then_normal ?_
                        refine ⟨⟨g2, M2, z.i + 1⟩, (by simp only; omega), ⟨by simp only; omega, hS2, hG3⟩, hl.addE (t := 19) (hl.addE (t := 3) (hl.addE (t := 17) (hl.addE (t := 18) (hl.nil) rfl (by first | rfl | (congr 1; omega))) rfl (by first | rfl | (congr 1; omega))) rfl (by first | rfl | (congr 1; omega))) rfl (by first | rfl | (congr 1; omega)), hh.keep (by repeat (first | exact keeps_nil | apply keeps_cons (by repeat (first | exact find_head | apply find_tail | apply find_skip)) (by first  | rfl) | exact keeps_self | exact keeps_left | apply keeps_app | apply keeps_mv | apply keeps_skip))⟩
              · intro hg5; clear hl; intro hl
                try simp only [decide_eq_true_eq, decide_eq_false_iff_not, Bool.not_eq_true', Bool.not_eq_false', Bool.not_eq_true, Bool.not_eq_false, Bool.and_eq_true, Bool.or_eq_true, Bool.and_eq_false_iff, Bool.or_eq_false_iff, Bool.not_not, ne_eq, Int.not_lt, Int.not_le, Decidable.not_not, beq_iff_eq, bne_iff_ne] at hg5
                refine wl (wl_skip hl rfl ⟨_, _, rfl, rfl, rfl⟩ ?_)
                clear hl a; intro a hl
                refine wl (wl_skip hl rfl ⟨_, _, rfl, rfl, rfl⟩ ?_)
                clear hl a; intro a hl
                refine wl (wl_skip hl rfl ⟨_, _, rfl, rfl, rfl⟩ ?_)
                clear hl a; intro a hl
                refine wl (wl_val hl rfl trivial (r_pickF hl rfl rfl) ?_)
                clear hl a; intro a hl
                refine wl (wl_val hl rfl trivial (r_move hl rfl) ?_)
                clear hl a; intro a hl
                refine wl (wl_skip hl rfl ⟨_, _, rfl, rfl, rfl⟩ ?_)
                clear hl a; intro a hl
                refine wl (wl_skip hl rfl ⟨_, _, rfl, rfl, rfl⟩ ?_)
                clear hl a; intro a hl
                refine wl (wl_skip hl rfl ⟨_, _, rfl, rfl, rfl⟩ ?_)
                clear hl a; intro a hl
                refine wl (wl_val hl rfl trivial (r_pickF hl rfl rfl) ?_)
                clear hl a; intro a hl
                refine wl (wl_val hl rfl trivial (r_move hl rfl) ?_)
                clear hl a; intro a hl
                refine wl (wl_skip hl rfl ⟨_, _, rfl, rfl, rfl⟩ ?_)
                clear hl a; intro a hl
                refine wl (wl_skip hl rfl ⟨_, _, rfl, rfl, rfl⟩ ?_)
                clear hl a; intro a hl
                refine wl (wl_skip hl rfl ⟨_, _, rfl, rfl, rfl⟩ ?_)
                clear hl a; intro a hl
                refine wl (wl_skip hl rfl ⟨_, _, rfl, rfl, rfl⟩ ?_)
                clear hl a; intro a hl
                refine wl (wl_skip hl rfl ⟨_, _, rfl, rfl, rfl⟩ ?_)
                clear hl a; intro a hl
                refine wl (wl_skip hl rfl ⟨_, _, rfl, rfl, rfl⟩ ?_)
                clear hl a; intro a hl
                refine wl (wl_skip hl rfl ⟨_, _, rfl, rfl, rfl⟩ ?_)
                clear hl a; intro a hl
                refine wl (wl_skip hl rfl ⟨_, _, rfl, rfl, rfl⟩ ?_)
                clear hl a; intro a hl
                refine wl (wl_val hl rfl trivial (r_pickF hl rfl rfl) ?_)
                clear hl a; intro a hl
                refine wl (wl_val hl rfl trivial (r_move hl rfl) ?_)
                clear hl a; intro a hl
                refine wl (wl_skip hl rfl ⟨_, _, rfl, rfl, rfl⟩ ?_)
                clear hl a; intro a hl
                refine wl (wl_skip hl rfl ⟨_, _, rfl, rfl, rfl⟩ ?_)
                clear hl a; intro a hl
                refine wl (wl_skip hl rfl ⟨_, _, rfl, rfl, rfl⟩ ?_)
                clear hl a; intro a hl
                refine wl (wl_skip hl rfl ⟨_, _, rfl, rfl, rfl⟩ ?_)
                clear hl a; intro a hl
                refine wl (wl_skipU hl rfl ⟨_, _, rfl, rfl, rfl⟩ ?_)
                clear hl a; intro a hl
                refine wl (wl_skipU hl rfl ⟨_, _, rfl, rfl, rfl⟩ ?_)
                clear hl a; intro a hl
                refine wl (wl_skipU hl rfl ⟨_, _, rfl, rfl, rfl⟩ ?_)
                clear hl a; intro a hl
                refine wl (wl_skip hl rfl ⟨_, _, rfl, rfl, rfl⟩ ?_)
                clear hl a; intro a hl
                refine wl (wl_skip hl rfl ⟨_, _, rfl, rfl, rfl⟩ ?_)
                clear hl a; intro a hl
                refine wl (wl_skipU hl rfl ⟨_, _, rfl, rfl, rfl⟩ ?_)
                clear hl a; intro a hl
                refine wl (wl_skipU hl rfl ⟨_, _, rfl, rfl, rfl⟩ ?_)
                clear hl a; intro a hl
                refine wl (wl_skipU hl rfl ⟨_, _, rfl, rfl, rfl⟩ ?_)
                clear hl a; intro a hl
                refine wl (wl_skipU hl rfl ⟨_, _, rfl, rfl, rfl⟩ ?_)
                clear hl a; intro a hl
                refine wl (wl_skipU hl rfl ⟨_, _, rfl, rfl, rfl⟩ ?_)
                clear hl a; intro a hl
                refine wl (wl_skipU hl rfl ⟨_, _, rfl, rfl, rfl⟩ ?_)
                clear hl a; intro a hl
                refine wl (wl_skipU hl rfl ⟨_, _, rfl, rfl, rfl⟩ ?_)
                clear hl a; intro a hl
                refine wl (wl_skipU hl rfl ⟨_, _, rfl, rfl, rfl⟩ ?_)
                clear hl a; intro a hl
                refine wl (wl_skipU hl rfl ⟨_, _, rfl, rfl, rfl⟩ ?_)
                clear hl a; intro a hl
                refine wl (wl_skipU hl rfl ⟨_, _, rfl, rfl, rfl⟩ ?_)
                clear hl a; intro a hl
                refine wl (wl_skipU hl rfl ⟨_, _, rfl, rfl, rfl⟩ ?_)
                clear hl a; intro a hl
                refine wl (wl_skipU hl rfl ⟨_, _, rfl, rfl, rfl⟩ ?_)
                clear hl a; intro a hl
                refine wl (wl_skipU hl rfl ⟨_, _, rfl, rfl, rfl⟩ ?_)
                clear hl a; intro a hl
                refine wl (wl_skip hl rfl ⟨_, _, rfl, rfl, rfl⟩ ?_)
                clear hl a; intro a hl
                refine wl (wl_val hl rfl trivial (r_pickF hl rfl rfl) ?_)
                clear hl a; intro a hl
                refine wl (wl_val hl rfl trivial (r_assign hl rfl) ?_)
                clear hl a; intro a hl
                refine w_nil ?_
                have hl2 := hl.add (t := 3) (hl.add (t := 6) (hl.add (t := 8) (hl.add (t := 9) (hl.add (t := 17) (hl.add (t := 18) (hl.add (t := 19) (hl.nil) rfl) rfl) rfl) rfl) rfl) rfl) rfl; clear hl; have hl := hl2; clear hl2
                have hl9 := hl.addE (t := 9) hl rfl (congrArg Value.bool (dec10b hok (by unfold S10; first | (simp only [true_iff, Bool.false_eq_true, false_iff]; omega) | (rw [decide_eq_true_eq]; omega))))
                rw [← hsd9] at hl9
                clear hl
                have hl := hl9
                clear hl9
                try clear hg1; try clear hg2
                refine then_normal ?_
                refine c_seq ?_
                refine c_seq ?_
                refine c_region ?_
                refine wl (wl_val hl rfl trivial (r_move hl rfl) ?_)
                clear hl a; intro a hl
                refine wl (wl_val hl rfl trivial (r_move hl rfl) ?_)
                clear hl a; intro a hl
                refine wl (wl_val hl rfl trivial (r_eql hl rfl rfl) ?_)
                clear hl a; intro a hl
                refine wl (wl_val hl rfl trivial (r_neq_bool hl rfl rfl Tryd.underlying4) ?_)
                clear hl a; intro a hl
                refine wl (wl_val hl rfl trivial (r_move hl rfl) ?_)
                clear hl a; intro a hl
                refine sl_split (t := 128) hl rfl ?_ ?_
                · intro hg55; clear hl; intro hl
                  try simp only [decide_eq_true_eq, decide_eq_false_iff_not, Bool.not_eq_true', Bool.not_eq_false', Bool.not_eq_true, Bool.not_eq_false, Bool.and_eq_true, Bool.or_eq_true, Bool.and_eq_false_iff, Bool.or_eq_false_iff, Bool.not_not, ne_eq, Int.not_lt, Int.not_le, Decidable.not_not, beq_iff_eq, bne_iff_ne] at hg55
                  exfalso; first | contradiction | exact abs10a (by assumption) hT9 (fun h => (hF9 h).2) | exact absurd (hF9 (by simpa using by assumption)).2 (by assumption)
                · intro hg55; clear hl; intro hl
                  try simp only [decide_eq_true_eq, decide_eq_false_iff_not, Bool.not_eq_true', Bool.not_eq_false', Bool.not_eq_true, Bool.not_eq_false, Bool.and_eq_true, Bool.or_eq_true, Bool.and_eq_false_iff, Bool.or_eq_false_iff, Bool.not_not, ne_eq, Int.not_lt, Int.not_le, Decidable.not_not, beq_iff_eq, bne_iff_ne] at hg55
                  refine wl (wl_val hl rfl ⟨_, _, rfl, rfl, rfl⟩ (r_move hl rfl) ?_)
                  clear hl a; intro a hl
                  refine wl (wl_val hl rfl ⟨_, _, rfl, rfl, rfl⟩ (r_not hl rfl) ?_)
                  clear hl a; intro a hl
                  refine wl (wl_val hl rfl ⟨_, _, rfl, rfl, rfl⟩ (r_move hl rfl) ?_)
                  clear hl a; intro a hl
                  refine sl_split (t := 131) hl rfl ?_ ?_
                  · intro hg56; clear hl; intro hl
                    try simp only [decide_eq_true_eq, decide_eq_false_iff_not, Bool.not_eq_true', Bool.not_eq_false', Bool.not_eq_true, Bool.not_eq_false, Bool.and_eq_true, Bool.or_eq_true, Bool.and_eq_false_iff, Bool.or_eq_false_iff, Bool.not_not, ne_eq, Int.not_lt, Int.not_le, Decidable.not_not, beq_iff_eq, bne_iff_ne] at hg56
                    refine wl (wl_val hl rfl ⟨_, _, rfl, rfl, rfl⟩ (r_move hl rfl) ?_)
                    clear hl a; intro a hl
                    refine wl (wl_val hl rfl ⟨_, _, rfl, rfl, rfl⟩ (r_neq hl rfl rfl) ?_)
                    clear hl a; intro a hl
                    refine wl (wl_val hl rfl ⟨_, _, rfl, rfl, rfl⟩ (r_pickT hl rfl rfl) ?_)
                    clear hl a; intro a hl
                    refine wl (wl_val hl rfl trivial (r_pickF hl rfl rfl) ?_)
                    clear hl a; intro a hl
                    refine w_nil ?_
                    have hl2 := hl.add (t := 3) (hl.add (t := 6) (hl.add (t := 9) (hl.add (t := 17) (hl.add (t := 18) (hl.add (t := 19) (hl.add (t := 135) (hl.nil) rfl) rfl) rfl) rfl) rfl) rfl) rfl; clear hl; have hl := hl2; clear hl2
                    refine then_normal ?_
                    refine c_cond hl rfl ?_ ?_
                    · intro hc2
                      try simp only [decide_eq_true_eq, decide_eq_false_iff_not, Bool.not_eq_true', Bool.not_eq_false', Bool.not_eq_true, Bool.not_eq_false, Bool.and_eq_true, Bool.or_eq_true, Bool.and_eq_false_iff, Bool.or_eq_false_iff, Bool.not_not, ne_eq, Int.not_lt, Int.not_le, Decidable.not_not, beq_iff_eq, bne_iff_ne] at hc2
                      exfalso; first | contradiction | exact abs10a (by assumption) hT9 (fun h => (hF9 h).2) | exact absurd (hF9 (by simpa using by assumption)).2 (by assumption)
                    · intro hc2
                      try simp only [decide_eq_true_eq, decide_eq_false_iff_not, Bool.not_eq_true', Bool.not_eq_false', Bool.not_eq_true, Bool.not_eq_false, Bool.and_eq_true, Bool.or_eq_true, Bool.and_eq_false_iff, Bool.or_eq_false_iff, Bool.not_not, ne_eq, Int.not_lt, Int.not_le, Decidable.not_not, beq_iff_eq, bne_iff_ne] at hc2
                      refine wp_skip ?_
                      refine then_normal ?_
                      refine c_seq ?_
                      refine c_region ?_
                      refine wl (wl_val hl rfl trivial (r_move hl rfl) ?_)
                      clear hl a; intro a hl
                      refine wl (w_call hl hh rfl trivial rfl cal28 rfl (snap_spec hS9 bc (40 * ((z.i + 1 : Nat) : Int) + 1) (400 * ((z.i + 1 : Nat) : Int) + 4) ⟨by omega, by omega⟩ hG9) (by repeat (first | exact keeps_nil | apply keeps_cons (by repeat (first | exact find_head | apply find_tail | apply find_skip)) (by first  | rfl) | exact keeps_self | exact keeps_left | apply keeps_app | apply keeps_mv | apply keeps_skip)) (memK (E := sysL bc M9) hh (by repeat (first | exact keeps_nil | apply keeps_cons (by repeat (first | exact find_head | apply find_tail | apply find_skip)) (by first  | rfl) | exact keeps_self | exact keeps_left | apply keeps_app | apply keeps_mv | apply keeps_skip))) ?_)
                      clear hl hh a w; intro vc Fc a w hR hl hh
                      obtain ⟨ev9, bv9, Ee9, Eb9, rfl, hSn9, rfl⟩ := hR
                      try simp only [List.cons_append, List.nil_append, List.append_assoc, List.append_nil] at hh
                      refine wl (wl_val hl rfl trivial (r_move hl rfl) ?_)
                      clear hl a; intro a hl
                      refine wl (w_call hl hh rfl trivial rfl cal28 rfl (snap_spec hS2 bg (40 * ((z.i + 1 : Nat) : Int)) (400 * ((z.i + 1 : Nat) : Int)) ⟨by omega, by omega⟩ hG3) (by repeat (first | exact keeps_nil | apply keeps_cons (by repeat (first | exact find_head | apply find_tail | apply find_skip)) (by first  | rfl) | exact keeps_self | exact keeps_left | apply keeps_app | apply keeps_mv | apply keeps_skip)) (memK (E := sysL bg M2) hh (by repeat (first | exact keeps_nil | apply keeps_cons (by repeat (first | exact find_head | apply find_tail | apply find_skip)) (by first  | rfl) | exact keeps_self | exact keeps_left | apply keeps_app | apply keeps_mv | apply keeps_skip))) ?_)
                      clear hl hh a w; intro vc Fc a w hR hl hh
                      obtain ⟨ev2, bv2, Ee2, Eb2, rfl, hSn2, rfl⟩ := hR
                      try simp only [List.cons_append, List.nil_append, List.append_assoc, List.append_nil] at hh
                      refine wl (w_alloc hl hh rfl trivial zero75 rfl ?_)
                      clear hl hh a w; intro k10 a w hl hh
                      refine wl (w_alloc hl hh rfl trivial zero75 rfl ?_)
                      clear hl hh a w; intro k11 a w hl hh
                      refine wl (w_storeA hl hh trivial agg75 rfl rfl (by repeat (first | exact find_head | apply find_tail | apply find_skip)) (by exact snC_len _ _ _) (by first | exact Nat.le_of_eq (arrL_length _ _).symm | (rw [snC_len]; exact Nat.le_refl _)) (by first | exact snC_one hSn9 | exact snC_one hSn2) (by exact setL_whole (by first | rw [snC_len, arrL_length] | rw [snC_len, snC_len])) ?_)
                      clear hh w; intro w hh
                      refine wl (w_storeA hl hh trivial agg75 rfl rfl (by repeat (first | exact find_head | apply find_tail | apply find_skip)) (by exact snC_len _ _ _) (by first | exact Nat.le_of_eq (arrL_length _ _).symm | (rw [snC_len]; exact Nat.le_refl _)) (by first | exact snC_one hSn9 | exact snC_one hSn2) (by exact setL_whole (by first | rw [snC_len, arrL_length] | rw [snC_len, snC_len])) ?_)
                      clear hh w; intro w hh
                      refine w_nil ?_
                      have hl2 := hl.add (t := 3) (hl.add (t := 9) (hl.add (t := 10) (hl.add (t := 11) (hl.add (t := 17) (hl.add (t := 18) (hl.add (t := 19) (hl.nil) rfl) rfl) rfl) rfl) rfl) rfl) rfl; clear hl; have hl := hl2; clear hl2
                      refine then_normal ?_
                      refine c_seq ?_
                      refine c_region ?_
                      refine wl (wl_val hl rfl trivial (r_move hl rfl) ?_)
                      clear hl a; intro a hl
                      refine wl (wl_val hl rfl trivial (r_not hl rfl) ?_)
                      clear hl a; intro a hl
                      refine wl (wl_val hl rfl trivial (r_move hl rfl) ?_)
                      clear hl a; intro a hl
                      refine sl_split (t := 142) hl rfl ?_ ?_
                      · intro hg57; clear hl; intro hl
                        try simp only [decide_eq_true_eq, decide_eq_false_iff_not, Bool.not_eq_true', Bool.not_eq_false', Bool.not_eq_true, Bool.not_eq_false, Bool.and_eq_true, Bool.or_eq_true, Bool.and_eq_false_iff, Bool.or_eq_false_iff, Bool.not_not, ne_eq, Int.not_lt, Int.not_le, Decidable.not_not, beq_iff_eq, bne_iff_ne] at hg57
                        refine wl (w_call hl hh rfl ⟨_, _, rfl, rfl, rfl⟩ rfl cal29 rfl (eqState_spec (g := g2) (B := 40 * ((z.i + 1 : Nat) : Int)) (Q := 400 * ((z.i + 1 : Nat) : Int)) ⟨by omega, by omega⟩ hG3 k10 k11 ev9 bv9 ev2 bv2 Ee9 Eb9 Ee2 Eb2 ((hF9 (by simpa using by assumption)).1 ▸ hSn9) hSn2) (by repeat (first | exact keeps_nil | apply keeps_cons (by repeat (first | exact find_head | apply find_tail | apply find_skip)) (by first  | rfl) | exact keeps_self | exact keeps_left | apply keeps_app | apply keeps_mv | apply keeps_skip)) ⟨(hF9 (by simpa using by assumption)).1 ▸ (memK (E := snL k10 g9 ev9 bv9 Ee9 Eb9) hh (by repeat (first | exact keeps_nil | apply keeps_cons (by repeat (first | exact find_head | apply find_tail | apply find_skip)) (by first  | rfl) | exact keeps_self | exact keeps_left | apply keeps_app | apply keeps_mv | apply keeps_skip))), memK (E := snL k11 g2 ev2 bv2 Ee2 Eb2) hh (by repeat (first | exact keeps_nil | apply keeps_cons (by repeat (first | exact find_head | apply find_tail | apply find_skip)) (by first  | rfl) | exact keeps_self | exact keeps_left | apply keeps_app | apply keeps_mv | apply keeps_skip))⟩ ?_)
                        clear hl hh a w; intro vc Fc a w hR hl hh
                        obtain ⟨rfl, rfl⟩ := hR
                        try simp only [List.cons_append, List.nil_append, List.append_assoc, List.append_nil] at hh
                        refine wl (wl_val hl rfl ⟨_, _, rfl, rfl, rfl⟩ (r_not hl rfl) ?_)
                        clear hl a; intro a hl
                        refine wl (wl_val hl rfl trivial (r_pickT hl rfl rfl) ?_)
                        clear hl a; intro a hl
                        refine w_nil ?_
                        have hl2 := hl.add (t := 3) (hl.add (t := 17) (hl.add (t := 18) (hl.add (t := 19) (hl.add (t := 145) (hl.nil) rfl) rfl) rfl) rfl) rfl; clear hl; have hl := hl2; clear hl2
                        refine then_normal ?_
                        refine c_cond hl rfl ?_ ?_
                        · intro hc3
                          try simp only [decide_eq_true_eq, decide_eq_false_iff_not, Bool.not_eq_true', Bool.not_eq_false', Bool.not_eq_true, Bool.not_eq_false, Bool.and_eq_true, Bool.or_eq_true, Bool.and_eq_false_iff, Bool.or_eq_false_iff, Bool.not_not, ne_eq, Int.not_lt, Int.not_le, Decidable.not_not, beq_iff_eq, bne_iff_ne] at hc3
                          exfalso; first | contradiction | exact abs10a (by assumption) hT9 (fun h => (hF9 h).2) | exact absurd (hF9 (by simpa using by assumption)).2 (by assumption)
                        · intro hc3
                          try simp only [decide_eq_true_eq, decide_eq_false_iff_not, Bool.not_eq_true', Bool.not_eq_false', Bool.not_eq_true, Bool.not_eq_false, Bool.and_eq_true, Bool.or_eq_true, Bool.and_eq_false_iff, Bool.or_eq_false_iff, Bool.not_not, ne_eq, Int.not_lt, Int.not_le, Decidable.not_not, beq_iff_eq, bne_iff_ne] at hc3
                          refine wp_skip ?_
                          refine blk_normal ?_
                          refine then_normal ?_
                          refine c_region ?_
                          first | refine wl (wl_val hl rfl trivial (r_add hl rfl rfl (by simp only [Fits]; omega)) ?_) | refine wl (wl_val hl rfl trivial (r_addW hl rfl rfl) ?_)
                          clear hl a; intro a hl
                          refine wl (wl_val hl rfl trivial (r_move hl rfl) ?_)
                          clear hl a; intro a hl
                          refine w_nil ?_
                          have hl2 := hl.add (t := 3) (hl.add (t := 17) (hl.add (t := 18) (hl.add (t := 19) (hl.nil) rfl) rfl) rfl) rfl; clear hl; have hl := hl2; clear hl2
                          refine then_normal ?_
                          refine ⟨⟨g2, M2, z.i + 1⟩, (by simp only; omega), ⟨by simp only; omega, hS2, hG3⟩, hl.addE (t := 19) (hl.addE (t := 3) (hl.addE (t := 17) (hl.addE (t := 18) (hl.nil) rfl (by first | rfl | (congr 1; omega))) rfl (by first | rfl | (congr 1; omega))) rfl (by first | rfl | (congr 1; omega))) rfl (by first | rfl | (congr 1; omega)), hh.keep (by repeat (first | exact keeps_nil | apply keeps_cons (by repeat (first | exact find_head | apply find_tail | apply find_skip)) (by first  | rfl) | exact keeps_self | exact keeps_left | apply keeps_app | apply keeps_mv | apply keeps_skip))⟩
                      · intro hg57; clear hl; intro hl
                        try simp only [decide_eq_true_eq, decide_eq_false_iff_not, Bool.not_eq_true', Bool.not_eq_false', Bool.not_eq_true, Bool.not_eq_false, Bool.and_eq_true, Bool.or_eq_true, Bool.and_eq_false_iff, Bool.or_eq_false_iff, Bool.not_not, ne_eq, Int.not_lt, Int.not_le, Decidable.not_not, beq_iff_eq, bne_iff_ne] at hg57
                        refine wl (wl_skip hl rfl ⟨_, _, rfl, rfl, rfl⟩ ?_)
                        clear hl a; intro a hl
                        refine wl (wl_skip hl rfl ⟨_, _, rfl, rfl, rfl⟩ ?_)
                        clear hl a; intro a hl
                        refine wl (wl_val hl rfl trivial (r_pickF hl rfl rfl) ?_)
                        clear hl a; intro a hl
                        refine w_nil ?_
                        have hl2 := hl.add (t := 3) (hl.add (t := 17) (hl.add (t := 18) (hl.add (t := 19) (hl.add (t := 145) (hl.nil) rfl) rfl) rfl) rfl) rfl; clear hl; have hl := hl2; clear hl2
                        refine then_normal ?_
                        refine c_condF hl rfl ?_
                        refine wp_skip ?_
                        refine blk_normal ?_
                        refine then_normal ?_
                        refine c_region ?_
                        first | refine wl (wl_val hl rfl trivial (r_add hl rfl rfl (by simp only [Fits]; omega)) ?_) | refine wl (wl_val hl rfl trivial (r_addW hl rfl rfl) ?_)
                        clear hl a; intro a hl
                        refine wl (wl_val hl rfl trivial (r_move hl rfl) ?_)
                        clear hl a; intro a hl
                        refine w_nil ?_
                        have hl2 := hl.add (t := 3) (hl.add (t := 17) (hl.add (t := 18) (hl.add (t := 19) (hl.nil) rfl) rfl) rfl) rfl; clear hl; have hl := hl2; clear hl2
                        refine then_normal ?_
                        refine ⟨⟨g2, M2, z.i + 1⟩, (by simp only; omega), ⟨by simp only; omega, hS2, hG3⟩, hl.addE (t := 19) (hl.addE (t := 3) (hl.addE (t := 17) (hl.addE (t := 18) (hl.nil) rfl (by first | rfl | (congr 1; omega))) rfl (by first | rfl | (congr 1; omega))) rfl (by first | rfl | (congr 1; omega))) rfl (by first | rfl | (congr 1; omega)), hh.keep (by repeat (first | exact keeps_nil | apply keeps_cons (by repeat (first | exact find_head | apply find_tail | apply find_skip)) (by first  | rfl) | exact keeps_self | exact keeps_left | apply keeps_app | apply keeps_mv | apply keeps_skip))⟩
                  · intro hg56; clear hl; intro hl
                    try simp only [decide_eq_true_eq, decide_eq_false_iff_not, Bool.not_eq_true', Bool.not_eq_false', Bool.not_eq_true, Bool.not_eq_false, Bool.and_eq_true, Bool.or_eq_true, Bool.and_eq_false_iff, Bool.or_eq_false_iff, Bool.not_not, ne_eq, Int.not_lt, Int.not_le, Decidable.not_not, beq_iff_eq, bne_iff_ne] at hg56
                    refine wl (wl_skip hl rfl ⟨_, _, rfl, rfl, rfl⟩ ?_)
                    clear hl a; intro a hl
                    refine wl (wl_skip hl rfl ⟨_, _, rfl, rfl, rfl⟩ ?_)
                    clear hl a; intro a hl
                    refine wl (wl_val hl rfl ⟨_, _, rfl, rfl, rfl⟩ (r_pickF hl rfl rfl) ?_)
                    clear hl a; intro a hl
                    refine wl (wl_val hl rfl trivial (r_pickF hl rfl rfl) ?_)
                    clear hl a; intro a hl
                    refine w_nil ?_
                    have hl2 := hl.add (t := 3) (hl.add (t := 6) (hl.add (t := 9) (hl.add (t := 17) (hl.add (t := 18) (hl.add (t := 19) (hl.add (t := 135) (hl.nil) rfl) rfl) rfl) rfl) rfl) rfl) rfl; clear hl; have hl := hl2; clear hl2
                    refine then_normal ?_
                    refine c_condF hl rfl ?_
                    refine wp_skip ?_
                    refine then_normal ?_
                    refine c_seq ?_
                    refine c_region ?_
                    refine wl (wl_val hl rfl trivial (r_move hl rfl) ?_)
                    clear hl a; intro a hl
                    refine wl (w_call hl hh rfl trivial rfl cal28 rfl (snap_spec hS9 bc (40 * ((z.i + 1 : Nat) : Int) + 1) (400 * ((z.i + 1 : Nat) : Int) + 4) ⟨by omega, by omega⟩ hG9) (by repeat (first | exact keeps_nil | apply keeps_cons (by repeat (first | exact find_head | apply find_tail | apply find_skip)) (by first  | rfl) | exact keeps_self | exact keeps_left | apply keeps_app | apply keeps_mv | apply keeps_skip)) (memK (E := sysL bc M9) hh (by repeat (first | exact keeps_nil | apply keeps_cons (by repeat (first | exact find_head | apply find_tail | apply find_skip)) (by first  | rfl) | exact keeps_self | exact keeps_left | apply keeps_app | apply keeps_mv | apply keeps_skip))) ?_)
                    clear hl hh a w; intro vc Fc a w hR hl hh
                    obtain ⟨ev9, bv9, Ee9, Eb9, rfl, hSn9, rfl⟩ := hR
                    try simp only [List.cons_append, List.nil_append, List.append_assoc, List.append_nil] at hh
                    refine wl (wl_val hl rfl trivial (r_move hl rfl) ?_)
                    clear hl a; intro a hl
                    refine wl (w_call hl hh rfl trivial rfl cal28 rfl (snap_spec hS2 bg (40 * ((z.i + 1 : Nat) : Int)) (400 * ((z.i + 1 : Nat) : Int)) ⟨by omega, by omega⟩ hG3) (by repeat (first | exact keeps_nil | apply keeps_cons (by repeat (first | exact find_head | apply find_tail | apply find_skip)) (by first  | rfl) | exact keeps_self | exact keeps_left | apply keeps_app | apply keeps_mv | apply keeps_skip)) (memK (E := sysL bg M2) hh (by repeat (first | exact keeps_nil | apply keeps_cons (by repeat (first | exact find_head | apply find_tail | apply find_skip)) (by first  | rfl) | exact keeps_self | exact keeps_left | apply keeps_app | apply keeps_mv | apply keeps_skip))) ?_)
                    clear hl hh a w; intro vc Fc a w hR hl hh
                    obtain ⟨ev2, bv2, Ee2, Eb2, rfl, hSn2, rfl⟩ := hR
                    try simp only [List.cons_append, List.nil_append, List.append_assoc, List.append_nil] at hh
                    refine wl (w_alloc hl hh rfl trivial zero75 rfl ?_)
                    clear hl hh a w; intro k10 a w hl hh
                    refine wl (w_alloc hl hh rfl trivial zero75 rfl ?_)
                    clear hl hh a w; intro k11 a w hl hh
                    refine wl (w_storeA hl hh trivial agg75 rfl rfl (by repeat (first | exact find_head | apply find_tail | apply find_skip)) (by exact snC_len _ _ _) (by first | exact Nat.le_of_eq (arrL_length _ _).symm | (rw [snC_len]; exact Nat.le_refl _)) (by first | exact snC_one hSn9 | exact snC_one hSn2) (by exact setL_whole (by first | rw [snC_len, arrL_length] | rw [snC_len, snC_len])) ?_)
                    clear hh w; intro w hh
                    refine wl (w_storeA hl hh trivial agg75 rfl rfl (by repeat (first | exact find_head | apply find_tail | apply find_skip)) (by exact snC_len _ _ _) (by first | exact Nat.le_of_eq (arrL_length _ _).symm | (rw [snC_len]; exact Nat.le_refl _)) (by first | exact snC_one hSn9 | exact snC_one hSn2) (by exact setL_whole (by first | rw [snC_len, arrL_length] | rw [snC_len, snC_len])) ?_)
                    clear hh w; intro w hh
                    refine w_nil ?_
                    have hl2 := hl.add (t := 3) (hl.add (t := 9) (hl.add (t := 10) (hl.add (t := 11) (hl.add (t := 17) (hl.add (t := 18) (hl.add (t := 19) (hl.nil) rfl) rfl) rfl) rfl) rfl) rfl) rfl; clear hl; have hl := hl2; clear hl2
                    refine then_normal ?_
                    refine c_seq ?_
                    refine c_region ?_
                    refine wl (wl_val hl rfl trivial (r_move hl rfl) ?_)
                    clear hl a; intro a hl
                    refine wl (wl_val hl rfl trivial (r_not hl rfl) ?_)
                    clear hl a; intro a hl
                    refine wl (wl_val hl rfl trivial (r_move hl rfl) ?_)
                    clear hl a; intro a hl
                    refine sl_split (t := 142) hl rfl ?_ ?_
                    · intro hg58; clear hl; intro hl
                      try simp only [decide_eq_true_eq, decide_eq_false_iff_not, Bool.not_eq_true', Bool.not_eq_false', Bool.not_eq_true, Bool.not_eq_false, Bool.and_eq_true, Bool.or_eq_true, Bool.and_eq_false_iff, Bool.or_eq_false_iff, Bool.not_not, ne_eq, Int.not_lt, Int.not_le, Decidable.not_not, beq_iff_eq, bne_iff_ne] at hg58
                      refine wl (w_call hl hh rfl ⟨_, _, rfl, rfl, rfl⟩ rfl cal29 rfl (eqState_spec (g := g2) (B := 40 * ((z.i + 1 : Nat) : Int)) (Q := 400 * ((z.i + 1 : Nat) : Int)) ⟨by omega, by omega⟩ hG3 k10 k11 ev9 bv9 ev2 bv2 Ee9 Eb9 Ee2 Eb2 ((hF9 (by simpa using by assumption)).1 ▸ hSn9) hSn2) (by repeat (first | exact keeps_nil | apply keeps_cons (by repeat (first | exact find_head | apply find_tail | apply find_skip)) (by first  | rfl) | exact keeps_self | exact keeps_left | apply keeps_app | apply keeps_mv | apply keeps_skip)) ⟨(hF9 (by simpa using by assumption)).1 ▸ (memK (E := snL k10 g9 ev9 bv9 Ee9 Eb9) hh (by repeat (first | exact keeps_nil | apply keeps_cons (by repeat (first | exact find_head | apply find_tail | apply find_skip)) (by first  | rfl) | exact keeps_self | exact keeps_left | apply keeps_app | apply keeps_mv | apply keeps_skip))), memK (E := snL k11 g2 ev2 bv2 Ee2 Eb2) hh (by repeat (first | exact keeps_nil | apply keeps_cons (by repeat (first | exact find_head | apply find_tail | apply find_skip)) (by first  | rfl) | exact keeps_self | exact keeps_left | apply keeps_app | apply keeps_mv | apply keeps_skip))⟩ ?_)
                      clear hl hh a w; intro vc Fc a w hR hl hh
                      obtain ⟨rfl, rfl⟩ := hR
                      try simp only [List.cons_append, List.nil_append, List.append_assoc, List.append_nil] at hh
                      refine wl (wl_val hl rfl ⟨_, _, rfl, rfl, rfl⟩ (r_not hl rfl) ?_)
                      clear hl a; intro a hl
                      refine wl (wl_val hl rfl trivial (r_pickT hl rfl rfl) ?_)
                      clear hl a; intro a hl
                      refine w_nil ?_
                      have hl2 := hl.add (t := 3) (hl.add (t := 17) (hl.add (t := 18) (hl.add (t := 19) (hl.add (t := 145) (hl.nil) rfl) rfl) rfl) rfl) rfl; clear hl; have hl := hl2; clear hl2
                      refine then_normal ?_
                      refine c_cond hl rfl ?_ ?_
                      · intro hc3
                        try simp only [decide_eq_true_eq, decide_eq_false_iff_not, Bool.not_eq_true', Bool.not_eq_false', Bool.not_eq_true, Bool.not_eq_false, Bool.and_eq_true, Bool.or_eq_true, Bool.and_eq_false_iff, Bool.or_eq_false_iff, Bool.not_not, ne_eq, Int.not_lt, Int.not_le, Decidable.not_not, beq_iff_eq, bne_iff_ne] at hc3
                        exfalso; first | contradiction | exact abs10a (by assumption) hT9 (fun h => (hF9 h).2) | exact absurd (hF9 (by simpa using by assumption)).2 (by assumption)
                      · intro hc3
                        try simp only [decide_eq_true_eq, decide_eq_false_iff_not, Bool.not_eq_true', Bool.not_eq_false', Bool.not_eq_true, Bool.not_eq_false, Bool.and_eq_true, Bool.or_eq_true, Bool.and_eq_false_iff, Bool.or_eq_false_iff, Bool.not_not, ne_eq, Int.not_lt, Int.not_le, Decidable.not_not, beq_iff_eq, bne_iff_ne] at hc3
                        refine wp_skip ?_
                        refine blk_normal ?_
                        refine then_normal ?_
                        refine c_region ?_
                        first | refine wl (wl_val hl rfl trivial (r_add hl rfl rfl (by simp only [Fits]; omega)) ?_) | refine wl (wl_val hl rfl trivial (r_addW hl rfl rfl) ?_)
                        clear hl a; intro a hl
                        refine wl (wl_val hl rfl trivial (r_move hl rfl) ?_)
                        clear hl a; intro a hl
                        refine w_nil ?_
                        have hl2 := hl.add (t := 3) (hl.add (t := 17) (hl.add (t := 18) (hl.add (t := 19) (hl.nil) rfl) rfl) rfl) rfl; clear hl; have hl := hl2; clear hl2
                        refine then_normal ?_
                        refine ⟨⟨g2, M2, z.i + 1⟩, (by simp only; omega), ⟨by simp only; omega, hS2, hG3⟩, hl.addE (t := 19) (hl.addE (t := 3) (hl.addE (t := 17) (hl.addE (t := 18) (hl.nil) rfl (by first | rfl | (congr 1; omega))) rfl (by first | rfl | (congr 1; omega))) rfl (by first | rfl | (congr 1; omega))) rfl (by first | rfl | (congr 1; omega)), hh.keep (by repeat (first | exact keeps_nil | apply keeps_cons (by repeat (first | exact find_head | apply find_tail | apply find_skip)) (by first  | rfl) | exact keeps_self | exact keeps_left | apply keeps_app | apply keeps_mv | apply keeps_skip))⟩
                    · intro hg58; clear hl; intro hl
                      try simp only [decide_eq_true_eq, decide_eq_false_iff_not, Bool.not_eq_true', Bool.not_eq_false', Bool.not_eq_true, Bool.not_eq_false, Bool.and_eq_true, Bool.or_eq_true, Bool.and_eq_false_iff, Bool.or_eq_false_iff, Bool.not_not, ne_eq, Int.not_lt, Int.not_le, Decidable.not_not, beq_iff_eq, bne_iff_ne] at hg58
                      refine wl (wl_skip hl rfl ⟨_, _, rfl, rfl, rfl⟩ ?_)
                      clear hl a; intro a hl
                      refine wl (wl_skip hl rfl ⟨_, _, rfl, rfl, rfl⟩ ?_)
                      clear hl a; intro a hl
                      refine wl (wl_val hl rfl trivial (r_pickF hl rfl rfl) ?_)
                      clear hl a; intro a hl
                      refine w_nil ?_
                      have hl2 := hl.add (t := 3) (hl.add (t := 17) (hl.add (t := 18) (hl.add (t := 19) (hl.add (t := 145) (hl.nil) rfl) rfl) rfl) rfl) rfl; clear hl; have hl := hl2; clear hl2
                      refine then_normal ?_
                      refine c_condF hl rfl ?_
                      refine wp_skip ?_
                      refine blk_normal ?_
                      refine then_normal ?_
                      refine c_region ?_
                      first | refine wl (wl_val hl rfl trivial (r_add hl rfl rfl (by simp only [Fits]; omega)) ?_) | refine wl (wl_val hl rfl trivial (r_addW hl rfl rfl) ?_)
                      clear hl a; intro a hl
                      refine wl (wl_val hl rfl trivial (r_move hl rfl) ?_)
                      clear hl a; intro a hl
                      refine w_nil ?_
                      have hl2 := hl.add (t := 3) (hl.add (t := 17) (hl.add (t := 18) (hl.add (t := 19) (hl.nil) rfl) rfl) rfl) rfl; clear hl; have hl := hl2; clear hl2
                      refine then_normal ?_
                      refine ⟨⟨g2, M2, z.i + 1⟩, (by simp only; omega), ⟨by simp only; omega, hS2, hG3⟩, hl.addE (t := 19) (hl.addE (t := 3) (hl.addE (t := 17) (hl.addE (t := 18) (hl.nil) rfl (by first | rfl | (congr 1; omega))) rfl (by first | rfl | (congr 1; omega))) rfl (by first | rfl | (congr 1; omega))) rfl (by first | rfl | (congr 1; omega)), hh.keep (by repeat (first | exact keeps_nil | apply keeps_cons (by repeat (first | exact find_head | apply find_tail | apply find_skip)) (by first  | rfl) | exact keeps_self | exact keeps_left | apply keeps_app | apply keeps_mv | apply keeps_skip))⟩
            · intro hg4; clear hl; intro hl
              try simp only [decide_eq_true_eq, decide_eq_false_iff_not, Bool.not_eq_true', Bool.not_eq_false', Bool.not_eq_true, Bool.not_eq_false, Bool.and_eq_true, Bool.or_eq_true, Bool.and_eq_false_iff, Bool.or_eq_false_iff, Bool.not_not, ne_eq, Int.not_lt, Int.not_le, Decidable.not_not, beq_iff_eq, bne_iff_ne] at hg4
              refine wl (wl_skip hl rfl ⟨_, _, rfl, rfl, rfl⟩ ?_)
              clear hl a; intro a hl
              refine wl (wl_skip hl rfl ⟨_, _, rfl, rfl, rfl⟩ ?_)
              clear hl a; intro a hl
              refine wl (wl_skip hl rfl ⟨_, _, rfl, rfl, rfl⟩ ?_)
              clear hl a; intro a hl
              refine wl (wl_skip hl rfl ⟨_, _, rfl, rfl, rfl⟩ ?_)
              clear hl a; intro a hl
              refine wl (wl_skip hl rfl ⟨_, _, rfl, rfl, rfl⟩ ?_)
              clear hl a; intro a hl
              refine wl (wl_skip hl rfl ⟨_, _, rfl, rfl, rfl⟩ ?_)
              clear hl a; intro a hl
              refine wl (wl_val hl rfl trivial (r_pickF hl rfl rfl) ?_)
              clear hl a; intro a hl
              refine wl (wl_val hl rfl trivial (r_move hl rfl) ?_)
              clear hl a; intro a hl
              refine wl (wl_skip hl rfl ⟨_, _, rfl, rfl, rfl⟩ ?_)
              clear hl a; intro a hl
              refine wl (wl_skip hl rfl ⟨_, _, rfl, rfl, rfl⟩ ?_)
              clear hl a; intro a hl
              refine wl (wl_skip hl rfl ⟨_, _, rfl, rfl, rfl⟩ ?_)
              clear hl a; intro a hl
              refine wl (wl_val hl rfl trivial (r_pickF hl rfl rfl) ?_)
              clear hl a; intro a hl
              refine wl (wl_val hl rfl trivial (r_move hl rfl) ?_)
              clear hl a; intro a hl
              refine wl (wl_skip hl rfl ⟨_, _, rfl, rfl, rfl⟩ ?_)
              clear hl a; intro a hl
              refine wl (wl_skip hl rfl ⟨_, _, rfl, rfl, rfl⟩ ?_)
              clear hl a; intro a hl
              refine wl (wl_skip hl rfl ⟨_, _, rfl, rfl, rfl⟩ ?_)
              clear hl a; intro a hl
              refine wl (wl_val hl rfl trivial (r_pickF hl rfl rfl) ?_)
              clear hl a; intro a hl
              refine wl (wl_val hl rfl trivial (r_move hl rfl) ?_)
              clear hl a; intro a hl
              refine wl (wl_skip hl rfl ⟨_, _, rfl, rfl, rfl⟩ ?_)
              clear hl a; intro a hl
              refine wl (wl_skip hl rfl ⟨_, _, rfl, rfl, rfl⟩ ?_)
              clear hl a; intro a hl
              refine wl (wl_skip hl rfl ⟨_, _, rfl, rfl, rfl⟩ ?_)
              clear hl a; intro a hl
              refine wl (wl_skip hl rfl ⟨_, _, rfl, rfl, rfl⟩ ?_)
              clear hl a; intro a hl
              refine wl (wl_skip hl rfl ⟨_, _, rfl, rfl, rfl⟩ ?_)
              clear hl a; intro a hl
              refine wl (wl_skip hl rfl ⟨_, _, rfl, rfl, rfl⟩ ?_)
              clear hl a; intro a hl
              refine wl (wl_skip hl rfl ⟨_, _, rfl, rfl, rfl⟩ ?_)
              clear hl a; intro a hl
              refine wl (wl_skip hl rfl ⟨_, _, rfl, rfl, rfl⟩ ?_)
              clear hl a; intro a hl
              refine wl (wl_val hl rfl trivial (r_pickF hl rfl rfl) ?_)
              clear hl a; intro a hl
              refine wl (wl_val hl rfl trivial (r_move hl rfl) ?_)
              clear hl a; intro a hl
              refine wl (wl_skip hl rfl ⟨_, _, rfl, rfl, rfl⟩ ?_)
              clear hl a; intro a hl
              refine wl (wl_skip hl rfl ⟨_, _, rfl, rfl, rfl⟩ ?_)
              clear hl a; intro a hl
              refine wl (wl_skip hl rfl ⟨_, _, rfl, rfl, rfl⟩ ?_)
              clear hl a; intro a hl
              refine wl (wl_skip hl rfl ⟨_, _, rfl, rfl, rfl⟩ ?_)
              clear hl a; intro a hl
              refine wl (wl_skipU hl rfl ⟨_, _, rfl, rfl, rfl⟩ ?_)
              clear hl a; intro a hl
              refine wl (wl_skipU hl rfl ⟨_, _, rfl, rfl, rfl⟩ ?_)
              clear hl a; intro a hl
              refine wl (wl_skipU hl rfl ⟨_, _, rfl, rfl, rfl⟩ ?_)
              clear hl a; intro a hl
              refine wl (wl_skip hl rfl ⟨_, _, rfl, rfl, rfl⟩ ?_)
              clear hl a; intro a hl
              refine wl (wl_skip hl rfl ⟨_, _, rfl, rfl, rfl⟩ ?_)
              clear hl a; intro a hl
              refine wl (wl_skipU hl rfl ⟨_, _, rfl, rfl, rfl⟩ ?_)
              clear hl a; intro a hl
              refine wl (wl_skipU hl rfl ⟨_, _, rfl, rfl, rfl⟩ ?_)
              clear hl a; intro a hl
              refine wl (wl_skipU hl rfl ⟨_, _, rfl, rfl, rfl⟩ ?_)
              clear hl a; intro a hl
              refine wl (wl_skipU hl rfl ⟨_, _, rfl, rfl, rfl⟩ ?_)
              clear hl a; intro a hl
              refine wl (wl_skipU hl rfl ⟨_, _, rfl, rfl, rfl⟩ ?_)
              clear hl a; intro a hl
              refine wl (wl_skipU hl rfl ⟨_, _, rfl, rfl, rfl⟩ ?_)
              clear hl a; intro a hl
              refine wl (wl_skipU hl rfl ⟨_, _, rfl, rfl, rfl⟩ ?_)
              clear hl a; intro a hl
              refine wl (wl_skipU hl rfl ⟨_, _, rfl, rfl, rfl⟩ ?_)
              clear hl a; intro a hl
              refine wl (wl_skipU hl rfl ⟨_, _, rfl, rfl, rfl⟩ ?_)
              clear hl a; intro a hl
              refine wl (wl_skipU hl rfl ⟨_, _, rfl, rfl, rfl⟩ ?_)
              clear hl a; intro a hl
              refine wl (wl_skipU hl rfl ⟨_, _, rfl, rfl, rfl⟩ ?_)
              clear hl a; intro a hl
              refine wl (wl_skipU hl rfl ⟨_, _, rfl, rfl, rfl⟩ ?_)
              clear hl a; intro a hl
              refine wl (wl_skipU hl rfl ⟨_, _, rfl, rfl, rfl⟩ ?_)
              clear hl a; intro a hl
              refine wl (wl_skip hl rfl ⟨_, _, rfl, rfl, rfl⟩ ?_)
              clear hl a; intro a hl
              refine wl (wl_val hl rfl trivial (r_pickF hl rfl rfl) ?_)
              clear hl a; intro a hl
              refine wl (wl_val hl rfl trivial (r_assign hl rfl) ?_)
              clear hl a; intro a hl
              refine w_nil ?_
              have hl2 := hl.add (t := 3) (hl.add (t := 6) (hl.add (t := 8) (hl.add (t := 9) (hl.add (t := 17) (hl.add (t := 18) (hl.add (t := 19) (hl.nil) rfl) rfl) rfl) rfl) rfl) rfl) rfl; clear hl; have hl := hl2; clear hl2
              have hl9 := hl.addE (t := 9) hl rfl (congrArg Value.bool (dec10b hok (by unfold S10; first | (simp only [true_iff, Bool.false_eq_true, false_iff]; omega) | (rw [decide_eq_true_eq]; omega))))
              rw [← hsd9] at hl9
              clear hl
              have hl := hl9
              clear hl9
              try clear hg1; try clear hg2
              refine then_normal ?_
              refine c_seq ?_
              refine c_seq ?_
              refine c_region ?_
              refine wl (wl_val hl rfl trivial (r_move hl rfl) ?_)
              clear hl a; intro a hl
              refine wl (wl_val hl rfl trivial (r_move hl rfl) ?_)
              clear hl a; intro a hl
              refine wl (wl_val hl rfl trivial (r_eql hl rfl rfl) ?_)
              clear hl a; intro a hl
              refine wl (wl_val hl rfl trivial (r_neq_bool hl rfl rfl Tryd.underlying4) ?_)
              clear hl a; intro a hl
              refine wl (wl_val hl rfl trivial (r_move hl rfl) ?_)
              clear hl a; intro a hl
              refine sl_split (t := 128) hl rfl ?_ ?_
              · intro hg59; clear hl; intro hl
                try simp only [decide_eq_true_eq, decide_eq_false_iff_not, Bool.not_eq_true', Bool.not_eq_false', Bool.not_eq_true, Bool.not_eq_false, Bool.and_eq_true, Bool.or_eq_true, Bool.and_eq_false_iff, Bool.or_eq_false_iff, Bool.not_not, ne_eq, Int.not_lt, Int.not_le, Decidable.not_not, beq_iff_eq, bne_iff_ne] at hg59
                exfalso; first | contradiction | exact abs10a (by assumption) hT9 (fun h => (hF9 h).2) | exact absurd (hF9 (by simpa using by assumption)).2 (by assumption)
              · intro hg59; clear hl; intro hl
                try simp only [decide_eq_true_eq, decide_eq_false_iff_not, Bool.not_eq_true', Bool.not_eq_false', Bool.not_eq_true, Bool.not_eq_false, Bool.and_eq_true, Bool.or_eq_true, Bool.and_eq_false_iff, Bool.or_eq_false_iff, Bool.not_not, ne_eq, Int.not_lt, Int.not_le, Decidable.not_not, beq_iff_eq, bne_iff_ne] at hg59
                refine wl (wl_val hl rfl ⟨_, _, rfl, rfl, rfl⟩ (r_move hl rfl) ?_)
                clear hl a; intro a hl
                refine wl (wl_val hl rfl ⟨_, _, rfl, rfl, rfl⟩ (r_not hl rfl) ?_)
                clear hl a; intro a hl
                refine wl (wl_val hl rfl ⟨_, _, rfl, rfl, rfl⟩ (r_move hl rfl) ?_)
                clear hl a; intro a hl
                refine sl_split (t := 131) hl rfl ?_ ?_
                · intro hg60; clear hl; intro hl
                  try simp only [decide_eq_true_eq, decide_eq_false_iff_not, Bool.not_eq_true', Bool.not_eq_false', Bool.not_eq_true, Bool.not_eq_false, Bool.and_eq_true, Bool.or_eq_true, Bool.and_eq_false_iff, Bool.or_eq_false_iff, Bool.not_not, ne_eq, Int.not_lt, Int.not_le, Decidable.not_not, beq_iff_eq, bne_iff_ne] at hg60
                  refine wl (wl_val hl rfl ⟨_, _, rfl, rfl, rfl⟩ (r_move hl rfl) ?_)
                  clear hl a; intro a hl
                  refine wl (wl_val hl rfl ⟨_, _, rfl, rfl, rfl⟩ (r_neq hl rfl rfl) ?_)
                  clear hl a; intro a hl
                  refine wl (wl_val hl rfl ⟨_, _, rfl, rfl, rfl⟩ (r_pickT hl rfl rfl) ?_)
                  clear hl a; intro a hl
                  refine wl (wl_val hl rfl trivial (r_pickF hl rfl rfl) ?_)
                  clear hl a; intro a hl
                  refine w_nil ?_
                  have hl2 := hl.add (t := 3) (hl.add (t := 6) (hl.add (t := 9) (hl.add (t := 17) (hl.add (t := 18) (hl.add (t := 19) (hl.add (t := 135) (hl.nil) rfl) rfl) rfl) rfl) rfl) rfl) rfl; clear hl; have hl := hl2; clear hl2
                  refine then_normal ?_
                  refine c_cond hl rfl ?_ ?_
                  · intro hc2
                    try simp only [decide_eq_true_eq, decide_eq_false_iff_not, Bool.not_eq_true', Bool.not_eq_false', Bool.not_eq_true, Bool.not_eq_false, Bool.and_eq_true, Bool.or_eq_true, Bool.and_eq_false_iff, Bool.or_eq_false_iff, Bool.not_not, ne_eq, Int.not_lt, Int.not_le, Decidable.not_not, beq_iff_eq, bne_iff_ne] at hc2
                    exfalso; first | contradiction | exact abs10a (by assumption) hT9 (fun h => (hF9 h).2) | exact absurd (hF9 (by simpa using by assumption)).2 (by assumption)
                  · intro hc2
                    try simp only [decide_eq_true_eq, decide_eq_false_iff_not, Bool.not_eq_true', Bool.not_eq_false', Bool.not_eq_true, Bool.not_eq_false, Bool.and_eq_true, Bool.or_eq_true, Bool.and_eq_false_iff, Bool.or_eq_false_iff, Bool.not_not, ne_eq, Int.not_lt, Int.not_le, Decidable.not_not, beq_iff_eq, bne_iff_ne] at hc2
                    refine wp_skip ?_
                    refine then_normal ?_
                    refine c_seq ?_
                    refine c_region ?_
                    refine wl (wl_val hl rfl trivial (r_move hl rfl) ?_)
                    clear hl a; intro a hl
                    refine wl (w_call hl hh rfl trivial rfl cal28 rfl (snap_spec hS9 bc (40 * ((z.i + 1 : Nat) : Int) + 1) (400 * ((z.i + 1 : Nat) : Int) + 4) ⟨by omega, by omega⟩ hG9) (by repeat (first | exact keeps_nil | apply keeps_cons (by repeat (first | exact find_head | apply find_tail | apply find_skip)) (by first  | rfl) | exact keeps_self | exact keeps_left | apply keeps_app | apply keeps_mv | apply keeps_skip)) (memK (E := sysL bc M9) hh (by repeat (first | exact keeps_nil | apply keeps_cons (by repeat (first | exact find_head | apply find_tail | apply find_skip)) (by first  | rfl) | exact keeps_self | exact keeps_left | apply keeps_app | apply keeps_mv | apply keeps_skip))) ?_)
                    clear hl hh a w; intro vc Fc a w hR hl hh
                    obtain ⟨ev9, bv9, Ee9, Eb9, rfl, hSn9, rfl⟩ := hR
                    try simp only [List.cons_append, List.nil_append, List.append_assoc, List.append_nil] at hh
                    refine wl (wl_val hl rfl trivial (r_move hl rfl) ?_)
                    clear hl a; intro a hl
                    refine wl (w_call hl hh rfl trivial rfl cal28 rfl (snap_spec hS2 bg (40 * ((z.i + 1 : Nat) : Int)) (400 * ((z.i + 1 : Nat) : Int)) ⟨by omega, by omega⟩ hG3) (by repeat (first | exact keeps_nil | apply keeps_cons (by repeat (first | exact find_head | apply find_tail | apply find_skip)) (by first  | rfl) | exact keeps_self | exact keeps_left | apply keeps_app | apply keeps_mv | apply keeps_skip)) (memK (E := sysL bg M2) hh (by repeat (first | exact keeps_nil | apply keeps_cons (by repeat (first | exact find_head | apply find_tail | apply find_skip)) (by first  | rfl) | exact keeps_self | exact keeps_left | apply keeps_app | apply keeps_mv | apply keeps_skip))) ?_)
                    clear hl hh a w; intro vc Fc a w hR hl hh
                    obtain ⟨ev2, bv2, Ee2, Eb2, rfl, hSn2, rfl⟩ := hR
                    try simp only [List.cons_append, List.nil_append, List.append_assoc, List.append_nil] at hh
                    refine wl (w_alloc hl hh rfl trivial zero75 rfl ?_)
                    clear hl hh a w; intro k10 a w hl hh
                    refine wl (w_alloc hl hh rfl trivial zero75 rfl ?_)
                    clear hl hh a w; intro k11 a w hl hh
                    refine wl (w_storeA hl hh trivial agg75 rfl rfl (by repeat (first | exact find_head | apply find_tail | apply find_skip)) (by exact snC_len _ _ _) (by first | exact Nat.le_of_eq (arrL_length _ _).symm | (rw [snC_len]; exact Nat.le_refl _)) (by first | exact snC_one hSn9 | exact snC_one hSn2) (by exact setL_whole (by first | rw [snC_len, arrL_length] | rw [snC_len, snC_len])) ?_)
                    clear hh w; intro w hh
                    refine wl (w_storeA hl hh trivial agg75 rfl rfl (by repeat (first | exact find_head | apply find_tail | apply find_skip)) (by exact snC_len _ _ _) (by first | exact Nat.le_of_eq (arrL_length _ _).symm | (rw [snC_len]; exact Nat.le_refl _)) (by first | exact snC_one hSn9 | exact snC_one hSn2) (by exact setL_whole (by first | rw [snC_len, arrL_length] | rw [snC_len, snC_len])) ?_)
                    clear hh w; intro w hh
                    refine w_nil ?_
                    have hl2 := hl.add (t := 3) (hl.add (t := 9) (hl.add (t := 10) (hl.add (t := 11) (hl.add (t := 17) (hl.add (t := 18) (hl.add (t := 19) (hl.nil) rfl) rfl) rfl) rfl) rfl) rfl) rfl; clear hl; have hl := hl2; clear hl2
                    refine then_normal ?_
                    refine c_seq ?_
                    refine c_region ?_
                    refine wl (wl_val hl rfl trivial (r_move hl rfl) ?_)
                    clear hl a; intro a hl
                    refine wl (wl_val hl rfl trivial (r_not hl rfl) ?_)
                    clear hl a; intro a hl
                    refine wl (wl_val hl rfl trivial (r_move hl rfl) ?_)
                    clear hl a; intro a hl
                    refine sl_split (t := 142) hl rfl ?_ ?_
                    · intro hg61; clear hl; intro hl
                      try simp only [decide_eq_true_eq, decide_eq_false_iff_not, Bool.not_eq_true', Bool.not_eq_false', Bool.not_eq_true, Bool.not_eq_false, Bool.and_eq_true, Bool.or_eq_true, Bool.and_eq_false_iff, Bool.or_eq_false_iff, Bool.not_not, ne_eq, Int.not_lt, Int.not_le, Decidable.not_not, beq_iff_eq, bne_iff_ne] at hg61
                      refine wl (w_call hl hh rfl ⟨_, _, rfl, rfl, rfl⟩ rfl cal29 rfl (eqState_spec (g := g2) (B := 40 * ((z.i + 1 : Nat) : Int)) (Q := 400 * ((z.i + 1 : Nat) : Int)) ⟨by omega, by omega⟩ hG3 k10 k11 ev9 bv9 ev2 bv2 Ee9 Eb9 Ee2 Eb2 ((hF9 (by simpa using by assumption)).1 ▸ hSn9) hSn2) (by repeat (first | exact keeps_nil | apply keeps_cons (by repeat (first | exact find_head | apply find_tail | apply find_skip)) (by first  | rfl) | exact keeps_self | exact keeps_left | apply keeps_app | apply keeps_mv | apply keeps_skip)) ⟨(hF9 (by simpa using by assumption)).1 ▸ (memK (E := snL k10 g9 ev9 bv9 Ee9 Eb9) hh (by repeat (first | exact keeps_nil | apply keeps_cons (by repeat (first | exact find_head | apply find_tail | apply find_skip)) (by first  | rfl) | exact keeps_self | exact keeps_left | apply keeps_app | apply keeps_mv | apply keeps_skip))), memK (E := snL k11 g2 ev2 bv2 Ee2 Eb2) hh (by repeat (first | exact keeps_nil | apply keeps_cons (by repeat (first | exact find_head | apply find_tail | apply find_skip)) (by first  | rfl) | exact keeps_self | exact keeps_left | apply keeps_app | apply keeps_mv | apply keeps_skip))⟩ ?_)
                      clear hl hh a w; intro vc Fc a w hR hl hh
                      obtain ⟨rfl, rfl⟩ := hR
                      try simp only [List.cons_append, List.nil_append, List.append_assoc, List.append_nil] at hh
                      refine wl (wl_val hl rfl ⟨_, _, rfl, rfl, rfl⟩ (r_not hl rfl) ?_)
                      clear hl a; intro a hl
                      refine wl (wl_val hl rfl trivial (r_pickT hl rfl rfl) ?_)
                      clear hl a; intro a hl
                      refine w_nil ?_
                      have hl2 := hl.add (t := 3) (hl.add (t := 17) (hl.add (t := 18) (hl.add (t := 19) (hl.add (t := 145) (hl.nil) rfl) rfl) rfl) rfl) rfl; clear hl; have hl := hl2; clear hl2
                      refine then_normal ?_
                      refine c_cond hl rfl ?_ ?_
                      · intro hc3
                        try simp only [decide_eq_true_eq, decide_eq_false_iff_not, Bool.not_eq_true', Bool.not_eq_false', Bool.not_eq_true, Bool.not_eq_false, Bool.and_eq_true, Bool.or_eq_true, Bool.and_eq_false_iff, Bool.or_eq_false_iff, Bool.not_not, ne_eq, Int.not_lt, Int.not_le, Decidable.not_not, beq_iff_eq, bne_iff_ne] at hc3
                        exfalso; first | contradiction | exact abs10a (by assumption) hT9 (fun h => (hF9 h).2) | exact absurd (hF9 (by simpa using by assumption)).2 (by assumption)
                      · intro hc3
                        try simp only [decide_eq_true_eq, decide_eq_false_iff_not, Bool.not_eq_true', Bool.not_eq_false', Bool.not_eq_true, Bool.not_eq_false, Bool.and_eq_true, Bool.or_eq_true, Bool.and_eq_false_iff, Bool.or_eq_false_iff, Bool.not_not, ne_eq, Int.not_lt, Int.not_le, Decidable.not_not, beq_iff_eq, bne_iff_ne] at hc3
                        refine wp_skip ?_
                        refine blk_normal ?_
                        refine then_normal ?_
                        refine c_region ?_
                        first | refine wl (wl_val hl rfl trivial (r_add hl rfl rfl (by simp only [Fits]; omega)) ?_) | refine wl (wl_val hl rfl trivial (r_addW hl rfl rfl) ?_)
                        clear hl a; intro a hl
                        refine wl (wl_val hl rfl trivial (r_move hl rfl) ?_)
                        clear hl a; intro a hl
                        refine w_nil ?_
                        have hl2 := hl.add (t := 3) (hl.add (t := 17) (hl.add (t := 18) (hl.add (t := 19) (hl.nil) rfl) rfl) rfl) rfl; clear hl; have hl := hl2; clear hl2
                        refine then_normal ?_
                        refine ⟨⟨g2, M2, z.i + 1⟩, (by simp only; omega), ⟨by simp only; omega, hS2, hG3⟩, hl.addE (t := 19) (hl.addE (t := 3) (hl.addE (t := 17) (hl.addE (t := 18) (hl.nil) rfl (by first | rfl | (congr 1; omega))) rfl (by first | rfl | (congr 1; omega))) rfl (by first | rfl | (congr 1; omega))) rfl (by first | rfl | (congr 1; omega)), hh.keep (by repeat (first | exact keeps_nil | apply keeps_cons (by repeat (first | exact find_head | apply find_tail | apply find_skip)) (by first  | rfl) | exact keeps_self | exact keeps_left | apply keeps_app | apply keeps_mv | apply keeps_skip))⟩
                    · intro hg61; clear hl; intro hl
                      try simp only [decide_eq_true_eq, decide_eq_false_iff_not, Bool.not_eq_true', Bool.not_eq_false', Bool.not_eq_true, Bool.not_eq_false, Bool.and_eq_true, Bool.or_eq_true, Bool.and_eq_false_iff, Bool.or_eq_false_iff, Bool.not_not, ne_eq, Int.not_lt, Int.not_le, Decidable.not_not, beq_iff_eq, bne_iff_ne] at hg61
                      refine wl (wl_skip hl rfl ⟨_, _, rfl, rfl, rfl⟩ ?_)
                      clear hl a; intro a hl
                      refine wl (wl_skip hl rfl ⟨_, _, rfl, rfl, rfl⟩ ?_)
                      clear hl a; intro a hl
                      refine wl (wl_val hl rfl trivial (r_pickF hl rfl rfl) ?_)
                      clear hl a; intro a hl
                      refine w_nil ?_
                      have hl2 := hl.add (t := 3) (hl.add (t := 17) (hl.add (t := 18) (hl.add (t := 19) (hl.add (t := 145) (hl.nil) rfl) rfl) rfl) rfl) rfl; clear hl; have hl := hl2; clear hl2
                      refine then_normal ?_
                      refine c_condF hl rfl ?_
                      refine wp_skip ?_
                      refine blk_normal ?_
                      refine then_normal ?_
                      refine c_region ?_
                      first | refine wl (wl_val hl rfl trivial (r_add hl rfl rfl (by simp only [Fits]; omega)) ?_) | refine wl (wl_val hl rfl trivial (r_addW hl rfl rfl) ?_)
                      clear hl a; intro a hl
                      refine wl (wl_val hl rfl trivial (r_move hl rfl) ?_)
                      clear hl a; intro a hl
                      refine w_nil ?_
                      have hl2 := hl.add (t := 3) (hl.add (t := 17) (hl.add (t := 18) (hl.add (t := 19) (hl.nil) rfl) rfl) rfl) rfl; clear hl; have hl := hl2; clear hl2
                      refine then_normal ?_
                      refine ⟨⟨g2, M2, z.i + 1⟩, (by simp only; omega), ⟨by simp only; omega, hS2, hG3⟩, hl.addE (t := 19) (hl.addE (t := 3) (hl.addE (t := 17) (hl.addE (t := 18) (hl.nil) rfl (by first | rfl | (congr 1; omega))) rfl (by first | rfl | (congr 1; omega))) rfl (by first | rfl | (congr 1; omega))) rfl (by first | rfl | (congr 1; omega)), hh.keep (by repeat (first | exact keeps_nil | apply keeps_cons (by repeat (first | exact find_head | apply find_tail | apply find_skip)) (by first  | rfl) | exact keeps_self | exact keeps_left | apply keeps_app | apply keeps_mv | apply keeps_skip))⟩
                · intro hg60; clear hl; intro hl
                  try simp only [decide_eq_true_eq, decide_eq_false_iff_not, Bool.not_eq_true', Bool.not_eq_false', Bool.not_eq_true, Bool.not_eq_false, Bool.and_eq_true, Bool.or_eq_true, Bool.and_eq_false_iff, Bool.or_eq_false_iff, Bool.not_not, ne_eq, Int.not_lt, Int.not_le, Decidable.not_not, beq_iff_eq, bne_iff_ne] at hg60
                  refine wl (wl_skip hl rfl ⟨_, _, rfl, rfl, rfl⟩ ?_)
                  clear hl a; intro a hl
                  refine wl (wl_skip hl rfl ⟨_, _, rfl, rfl, rfl⟩ ?_)
                  clear hl a; intro a hl
                  refine wl (wl_val hl rfl ⟨_, _, rfl, rfl, rfl⟩ (r_pickF hl rfl rfl) ?_)
                  clear hl a; intro a hl
                  refine wl (wl_val hl rfl trivial (r_pickF hl rfl rfl) ?_)
                  clear hl a; intro a hl
                  refine w_nil ?_
                  have hl2 := hl.add (t := 3) (hl.add (t := 6) (hl.add (t := 9) (hl.add (t := 17) (hl.add (t := 18) (hl.add (t := 19) (hl.add (t := 135) (hl.nil) rfl) rfl) rfl) rfl) rfl) rfl) rfl; clear hl; have hl := hl2; clear hl2
                  refine then_normal ?_
                  refine c_condF hl rfl ?_
                  refine wp_skip ?_
                  refine then_normal ?_
                  refine c_seq ?_
                  refine c_region ?_
                  refine wl (wl_val hl rfl trivial (r_move hl rfl) ?_)
                  clear hl a; intro a hl
                  refine wl (w_call hl hh rfl trivial rfl cal28 rfl (snap_spec hS9 bc (40 * ((z.i + 1 : Nat) : Int) + 1) (400 * ((z.i + 1 : Nat) : Int) + 4) ⟨by omega, by omega⟩ hG9) (by repeat (first | exact keeps_nil | apply keeps_cons (by repeat (first | exact find_head | apply find_tail | apply find_skip)) (by first  | rfl) | exact keeps_self | exact keeps_left | apply keeps_app | apply keeps_mv | apply keeps_skip)) (memK (E := sysL bc M9) hh (by repeat (first | exact keeps_nil | apply keeps_cons (by repeat (first | exact find_head | apply find_tail | apply find_skip)) (by first  | rfl) | exact keeps_self | exact keeps_left | apply keeps_app | apply keeps_mv | apply keeps_skip))) ?_)
                  clear hl hh a w; intro vc Fc a w hR hl hh
                  obtain ⟨ev9, bv9, Ee9, Eb9, rfl, hSn9, rfl⟩ := hR
                  try simp only [List.cons_append, List.nil_append, List.append_assoc, List.append_nil] at hh
                  refine wl (wl_val hl rfl trivial (r_move hl rfl) ?_)
                  clear hl a; intro a hl
                  refine wl (w_call hl hh rfl trivial rfl cal28 rfl (snap_spec hS2 bg (40 * ((z.i + 1 : Nat) : Int)) (400 * ((z.i + 1 : Nat) : Int)) ⟨by omega, by omega⟩ hG3) (by repeat (first | exact keeps_nil | apply keeps_cons (by repeat (first | exact find_head | apply find_tail | apply find_skip)) (by first  | rfl) | exact keeps_self | exact keeps_left | apply keeps_app | apply keeps_mv | apply keeps_skip)) (memK (E := sysL bg M2) hh (by repeat (first | exact keeps_nil | apply keeps_cons (by repeat (first | exact find_head | apply find_tail | apply find_skip)) (by first  | rfl) | exact keeps_self | exact keeps_left | apply keeps_app | apply keeps_mv | apply keeps_skip))) ?_)
                  clear hl hh a w; intro vc Fc a w hR hl hh
                  obtain ⟨ev2, bv2, Ee2, Eb2, rfl, hSn2, rfl⟩ := hR
                  try simp only [List.cons_append, List.nil_append, List.append_assoc, List.append_nil] at hh
                  refine wl (w_alloc hl hh rfl trivial zero75 rfl ?_)
                  clear hl hh a w; intro k10 a w hl hh
                  refine wl (w_alloc hl hh rfl trivial zero75 rfl ?_)
                  clear hl hh a w; intro k11 a w hl hh
                  refine wl (w_storeA hl hh trivial agg75 rfl rfl (by repeat (first | exact find_head | apply find_tail | apply find_skip)) (by exact snC_len _ _ _) (by first | exact Nat.le_of_eq (arrL_length _ _).symm | (rw [snC_len]; exact Nat.le_refl _)) (by first | exact snC_one hSn9 | exact snC_one hSn2) (by exact setL_whole (by first | rw [snC_len, arrL_length] | rw [snC_len, snC_len])) ?_)
                  clear hh w; intro w hh
                  refine wl (w_storeA hl hh trivial agg75 rfl rfl (by repeat (first | exact find_head | apply find_tail | apply find_skip)) (by exact snC_len _ _ _) (by first | exact Nat.le_of_eq (arrL_length _ _).symm | (rw [snC_len]; exact Nat.le_refl _)) (by first | exact snC_one hSn9 | exact snC_one hSn2) (by exact setL_whole (by first | rw [snC_len, arrL_length] | rw [snC_len, snC_len])) ?_)
                  clear hh w; intro w hh
                  refine w_nil ?_
                  have hl2 := hl.add (t := 3) (hl.add (t := 9) (hl.add (t := 10) (hl.add (t := 11) (hl.add (t := 17) (hl.add (t := 18) (hl.add (t := 19) (hl.nil) rfl) rfl) rfl) rfl) rfl) rfl) rfl; clear hl; have hl := hl2; clear hl2
                  refine then_normal ?_
                  refine c_seq ?_
                  refine c_region ?_
                  refine wl (wl_val hl rfl trivial (r_move hl rfl) ?_)
                  clear hl a; intro a hl
                  refine wl (wl_val hl rfl trivial (r_not hl rfl) ?_)
                  clear hl a; intro a hl
                  refine wl (wl_val hl rfl trivial (r_move hl rfl) ?_)
                  clear hl a; intro a hl
                  refine sl_split (t := 142) hl rfl ?_ ?_
                  · intro hg62; clear hl; intro hl
                    try simp only [decide_eq_true_eq, decide_eq_false_iff_not, Bool.not_eq_true', Bool.not_eq_false', Bool.not_eq_true, Bool.not_eq_false, Bool.and_eq_true, Bool.or_eq_true, Bool.and_eq_false_iff, Bool.or_eq_false_iff, Bool.not_not, ne_eq, Int.not_lt, Int.not_le, Decidable.not_not, beq_iff_eq, bne_iff_ne] at hg62
                    refine wl (w_call hl hh rfl ⟨_, _, rfl, rfl, rfl⟩ rfl cal29 rfl (eqState_spec (g := g2) (B := 40 * ((z.i + 1 : Nat) : Int)) (Q := 400 * ((z.i + 1 : Nat) : Int)) ⟨by omega, by omega⟩ hG3 k10 k11 ev9 bv9 ev2 bv2 Ee9 Eb9 Ee2 Eb2 ((hF9 (by simpa using by assumption)).1 ▸ hSn9) hSn2) (by repeat (first | exact keeps_nil | apply keeps_cons (by repeat (first | exact find_head | apply find_tail | apply find_skip)) (by first  | rfl) | exact keeps_self | exact keeps_left | apply keeps_app | apply keeps_mv | apply keeps_skip)) ⟨(hF9 (by simpa using by assumption)).1 ▸ (memK (E := snL k10 g9 ev9 bv9 Ee9 Eb9) hh (by repeat (first | exact keeps_nil | apply keeps_cons (by repeat (first | exact find_head | apply find_tail | apply find_skip)) (by first  | rfl) | exact keeps_self | exact keeps_left | apply keeps_app | apply keeps_mv | apply keeps_skip))), memK (E := snL k11 g2 ev2 bv2 Ee2 Eb2) hh (by repeat (first | exact keeps_nil | apply keeps_cons (by repeat (first | exact find_head | apply find_tail | apply find_skip)) (by first  | rfl) | exact keeps_self | exact keeps_left | apply keeps_app | apply keeps_mv | apply keeps_skip))⟩ ?_)
                    clear hl hh a w; intro vc Fc a w hR hl hh
                    obtain ⟨rfl, rfl⟩ := hR
                    try simp only [List.cons_append, List.nil_append, List.append_assoc, List.append_nil] at hh
                    refine wl (wl_val hl rfl ⟨_, _, rfl, rfl, rfl⟩ (r_not hl rfl) ?_)
                    clear hl a; intro a hl
                    refine wl (wl_val hl rfl trivial (r_pickT hl rfl rfl) ?_)
                    clear hl a; intro a hl
                    refine w_nil ?_
                    have hl2 := hl.add (t := 3) (hl.add (t := 17) (hl.add (t := 18) (hl.add (t := 19) (hl.add (t := 145) (hl.nil) rfl) rfl) rfl) rfl) rfl; clear hl; have hl := hl2; clear hl2
                    refine then_normal ?_
                    refine c_cond hl rfl ?_ ?_
                    · intro hc3
                      try simp only [decide_eq_true_eq, decide_eq_false_iff_not, Bool.not_eq_true', Bool.not_eq_false', Bool.not_eq_true, Bool.not_eq_false, Bool.and_eq_true, Bool.or_eq_true, Bool.and_eq_false_iff, Bool.or_eq_false_iff, Bool.not_not, ne_eq, Int.not_lt, Int.not_le, Decidable.not_not, beq_iff_eq, bne_iff_ne] at hc3
                      exfalso; first | contradiction | exact abs10a (by assumption) hT9 (fun h => (hF9 h).2) | exact absurd (hF9 (by simpa using by assumption)).2 (by assumption)
                    · intro hc3
                      try simp only [decide_eq_true_eq, decide_eq_false_iff_not, Bool.not_eq_true', Bool.not_eq_false', Bool.not_eq_true, Bool.not_eq_false, Bool.and_eq_true, Bool.or_eq_true, Bool.and_eq_false_iff, Bool.or_eq_false_iff, Bool.not_not, ne_eq, Int.not_lt, Int.not_le, Decidable.not_not, beq_iff_eq, bne_iff_ne] at hc3
                      refine wp_skip ?_
                      refine blk_normal ?_
                      refine then_normal ?_
                      refine c_region ?_
                      first | refine wl (wl_val hl rfl trivial (r_add hl rfl rfl (by simp only [Fits]; omega)) ?_) | refine wl (wl_val hl rfl trivial (r_addW hl rfl rfl) ?_)
                      clear hl a; intro a hl
                      refine wl (wl_val hl rfl trivial (r_move hl rfl) ?_)
                      clear hl a; intro a hl
                      refine w_nil ?_
                      have hl2 := hl.add (t := 3) (hl.add (t := 17) (hl.add (t := 18) (hl.add (t := 19) (hl.nil) rfl) rfl) rfl) rfl; clear hl; have hl := hl2; clear hl2
                      refine then_normal ?_
                      refine ⟨⟨g2, M2, z.i + 1⟩, (by simp only; omega), ⟨by simp only; omega, hS2, hG3⟩, hl.addE (t := 19) (hl.addE (t := 3) (hl.addE (t := 17) (hl.addE (t := 18) (hl.nil) rfl (by first | rfl | (congr 1; omega))) rfl (by first | rfl | (congr 1; omega))) rfl (by first | rfl | (congr 1; omega))) rfl (by first | rfl | (congr 1; omega)), hh.keep (by repeat (first | exact keeps_nil | apply keeps_cons (by repeat (first | exact find_head | apply find_tail | apply find_skip)) (by first  | rfl) | exact keeps_self | exact keeps_left | apply keeps_app | apply keeps_mv | apply keeps_skip))⟩
                  · intro hg62; clear hl; intro hl
                    try simp only [decide_eq_true_eq, decide_eq_false_iff_not, Bool.not_eq_true', Bool.not_eq_false', Bool.not_eq_true, Bool.not_eq_false, Bool.and_eq_true, Bool.or_eq_true, Bool.and_eq_false_iff, Bool.or_eq_false_iff, Bool.not_not, ne_eq, Int.not_lt, Int.not_le, Decidable.not_not, beq_iff_eq, bne_iff_ne] at hg62
                    refine wl (wl_skip hl rfl ⟨_, _, rfl, rfl, rfl⟩ ?_)
                    clear hl a; intro a hl
                    refine wl (wl_skip hl rfl ⟨_, _, rfl, rfl, rfl⟩ ?_)
                    clear hl a; intro a hl
                    refine wl (wl_val hl rfl trivial (r_pickF hl rfl rfl) ?_)
                    clear hl a; intro a hl
                    refine w_nil ?_
                    have hl2 := hl.add (t := 3) (hl.add (t := 17) (hl.add (t := 18) (hl.add (t := 19) (hl.add (t := 145) (hl.nil) rfl) rfl) rfl) rfl) rfl; clear hl; have hl := hl2; clear hl2
                    refine then_normal ?_
                    refine c_condF hl rfl ?_
                    refine wp_skip ?_
                    refine blk_normal ?_
                    refine then_normal ?_
                    refine c_region ?_
                    first | refine wl (wl_val hl rfl trivial (r_add hl rfl rfl (by simp only [Fits]; omega)) ?_) | refine wl (wl_val hl rfl trivial (r_addW hl rfl rfl) ?_)
                    clear hl a; intro a hl
                    refine wl (wl_val hl rfl trivial (r_move hl rfl) ?_)
                    clear hl a; intro a hl
                    refine w_nil ?_
                    have hl2 := hl.add (t := 3) (hl.add (t := 17) (hl.add (t := 18) (hl.add (t := 19) (hl.nil) rfl) rfl) rfl) rfl; clear hl; have hl := hl2; clear hl2
                    refine then_normal ?_
                    refine ⟨⟨g2, M2, z.i + 1⟩, (by simp only; omega), ⟨by simp only; omega, hS2, hG3⟩, hl.addE (t := 19) (hl.addE (t := 3) (hl.addE (t := 17) (hl.addE (t := 18) (hl.nil) rfl (by first | rfl | (congr 1; omega))) rfl (by first | rfl | (congr 1; omega))) rfl (by first | rfl | (congr 1; omega))) rfl (by first | rfl | (congr 1; omega)), hh.keep (by repeat (first | exact keeps_nil | apply keeps_cons (by repeat (first | exact find_head | apply find_tail | apply find_skip)) (by first  | rfl) | exact keeps_self | exact keeps_left | apply keeps_app | apply keeps_mv | apply keeps_skip))⟩
          · intro hg3; clear hl; intro hl
            try simp only [decide_eq_true_eq, decide_eq_false_iff_not, Bool.not_eq_true', Bool.not_eq_false', Bool.not_eq_true, Bool.not_eq_false, Bool.and_eq_true, Bool.or_eq_true, Bool.and_eq_false_iff, Bool.or_eq_false_iff, Bool.not_not, ne_eq, Int.not_lt, Int.not_le, Decidable.not_not, beq_iff_eq, bne_iff_ne] at hg3
            refine wl (wl_skip hl rfl ⟨_, _, rfl, rfl, rfl⟩ ?_)
            clear hl a; intro a hl
            refine wl (wl_skip hl rfl ⟨_, _, rfl, rfl, rfl⟩ ?_)
            clear hl a; intro a hl
            refine wl (wl_skip hl rfl ⟨_, _, rfl, rfl, rfl⟩ ?_)
            clear hl a; intro a hl
            refine wl (wl_val hl rfl trivial (r_pickF hl rfl rfl) ?_)
            clear hl a; intro a hl
            refine wl (wl_val hl rfl trivial (r_move hl rfl) ?_)
            clear hl a; intro a hl
            refine wl (wl_skip hl rfl ⟨_, _, rfl, rfl, rfl⟩ ?_)
            clear hl a; intro a hl
            refine wl (wl_skip hl rfl ⟨_, _, rfl, rfl, rfl⟩ ?_)
            clear hl a; intro a hl
            refine wl (wl_skip hl rfl ⟨_, _, rfl, rfl, rfl⟩ ?_)
            clear hl a; intro a hl
            refine wl (wl_skip hl rfl ⟨_, _, rfl, rfl, rfl⟩ ?_)
            clear hl a; intro a hl
            refine wl (wl_skip hl rfl ⟨_, _, rfl, rfl, rfl⟩ ?_)
            clear hl a; intro a hl
            refine wl (wl_skip hl rfl ⟨_, _, rfl, rfl, rfl⟩ ?_)
            clear hl a; intro a hl
            refine wl (wl_val hl rfl trivial (r_pickF hl rfl rfl) ?_)
            clear hl a; intro a hl
            refine wl (wl_val hl rfl trivial (r_move hl rfl) ?_)
            clear hl a; intro a hl
            refine wl (wl_skip hl rfl ⟨_, _, rfl, rfl, rfl⟩ ?_)
            clear hl a; intro a hl
            refine wl (wl_skip hl rfl ⟨_, _, rfl, rfl, rfl⟩ ?_)
            clear hl a; intro a hl
            refine wl (wl_skip hl rfl ⟨_, _, rfl, rfl, rfl⟩ ?_)
            clear hl a; intro a hl
            refine wl (wl_val hl rfl trivial (r_pickF hl rfl rfl) ?_)
            clear hl a; intro a hl
            refine wl (wl_val hl rfl trivial (r_move hl rfl) ?_)
            clear hl a; intro a hl
            refine wl (wl_skip hl rfl ⟨_, _, rfl, rfl, rfl⟩ ?_)
            clear hl a; intro a hl
            refine wl (wl_skip hl rfl ⟨_, _, rfl, rfl, rfl⟩ ?_)
            clear hl a; intro a hl
            refine wl (wl_skip hl rfl ⟨_, _, rfl, rfl, rfl⟩ ?_)
            clear hl a; intro a hl
            refine wl (wl_val hl rfl trivial (r_pickF hl rfl rfl) ?_)
            clear hl a; intro a hl
            refine wl (wl_val hl rfl trivial (r_move hl rfl) ?_)
            clear hl a; intro a hl
            refine wl (wl_skip hl rfl ⟨_, _, rfl, rfl, rfl⟩ ?_)
            clear hl a; intro a hl
            refine wl (wl_skip hl rfl ⟨_, _, rfl, rfl, rfl⟩ ?_)
            clear hl a; intro a hl
            refine wl (wl_skip hl rfl ⟨_, _, rfl, rfl, rfl⟩ ?_)
            clear hl a; intro a hl
            refine wl (wl_skip hl rfl ⟨_, _, rfl, rfl, rfl⟩ ?_)
            clear hl a; intro a hl
            refine wl (wl_skip hl rfl ⟨_, _, rfl, rfl, rfl⟩ ?_)
            clear hl a; intro a hl
            refine wl (wl_skip hl rfl ⟨_, _, rfl, rfl, rfl⟩ ?_)
            clear hl a; intro a hl
            refine wl (wl_skip hl rfl ⟨_, _, rfl, rfl, rfl⟩ ?_)
            clear hl a; intro a hl
            refine wl (wl_skip hl rfl ⟨_, _, rfl, rfl, rfl⟩ ?_)
            clear hl a; intro a hl
            refine wl (wl_val hl rfl trivial (r_pickF hl rfl rfl) ?_)
            clear hl a; intro a hl
            refine wl (wl_val hl rfl trivial (r_move hl rfl) ?_)
            clear hl a; intro a hl
            refine wl (wl_skip hl rfl ⟨_, _, rfl, rfl, rfl⟩ ?_)
            clear hl a; intro a hl
            refine wl (wl_skip hl rfl ⟨_, _, rfl, rfl, rfl⟩ ?_)
            clear hl a; intro a hl
            refine wl (wl_skip hl rfl ⟨_, _, rfl, rfl, rfl⟩ ?_)
            clear hl a; intro a hl
            refine wl (wl_skip hl rfl ⟨_, _, rfl, rfl, rfl⟩ ?_)
            clear hl a; intro a hl
            refine wl (wl_skipU hl rfl ⟨_, _, rfl, rfl, rfl⟩ ?_)
            clear hl a; intro a hl
            refine wl (wl_skipU hl rfl ⟨_, _, rfl, rfl, rfl⟩ ?_)
            clear hl a; intro a hl
            refine wl (wl_skipU hl rfl ⟨_, _, rfl, rfl, rfl⟩ ?_)
            clear hl a; intro a hl
            refine wl (wl_skip hl rfl ⟨_, _, rfl, rfl, rfl⟩ ?_)
            clear hl a; intro a hl
            refine wl (wl_skip hl rfl ⟨_, _, rfl, rfl, rfl⟩ ?_)
            clear hl a; intro a hl
            refine wl (wl_skipU hl rfl ⟨_, _, rfl, rfl, rfl⟩ ?_)
            clear hl a; intro a hl
            refine wl (wl_skipU hl rfl ⟨_, _, rfl, rfl, rfl⟩ ?_)
            clear hl a; intro a hl
            refine wl (wl_skipU hl rfl ⟨_, _, rfl, rfl, rfl⟩ ?_)
            clear hl a; intro a hl
            refine wl (wl_skipU hl rfl ⟨_, _, rfl, rfl, rfl⟩ ?_)
            clear hl a; intro a hl
            refine wl (wl_skipU hl rfl ⟨_, _, rfl, rfl, rfl⟩ ?_)
            clear hl a; intro a hl
            refine wl (wl_skipU hl rfl ⟨_, _, rfl, rfl, rfl⟩ ?_)
            clear hl a; intro a hl
            refine wl (wl_skipU hl rfl ⟨_, _, rfl, rfl, rfl⟩ ?_)
            clear hl a; intro a hl
            refine wl (wl_skipU hl rfl ⟨_, _, rfl, rfl, rfl⟩ ?_)
            clear hl a; intro a hl
            refine wl (wl_skipU hl rfl ⟨_, _, rfl, rfl, rfl⟩ ?_)
            clear hl a; intro a hl
            refine wl (wl_skipU hl rfl ⟨_, _, rfl, rfl, rfl⟩ ?_)
            clear hl a; intro a hl
            refine wl (wl_skipU hl rfl ⟨_, _, rfl, rfl, rfl⟩ ?_)
            clear hl a; intro a hl
            refine wl (wl_skipU hl rfl ⟨_, _, rfl, rfl, rfl⟩ ?_)
            clear hl a; intro a hl
            refine wl (wl_skipU hl rfl ⟨_, _, rfl, rfl, rfl⟩ ?_)
            clear hl a; intro a hl
            refine wl (wl_skip hl rfl ⟨_, _, rfl, rfl, rfl⟩ ?_)
            clear hl a; intro a hl
            refine wl (wl_val hl rfl trivial (r_pickF hl rfl rfl) ?_)
            clear hl a; intro a hl
            refine wl (wl_val hl rfl trivial (r_assign hl rfl) ?_)
            clear hl a; intro a hl
            refine w_nil ?_
            have hl2 := hl.add (t := 3) (hl.add (t := 6) (hl.add (t := 8) (hl.add (t := 9) (hl.add (t := 17) (hl.add (t := 18) (hl.add (t := 19) (hl.nil) rfl) rfl) rfl) rfl) rfl) rfl) rfl; clear hl; have hl := hl2; clear hl2
            have hl9 := hl.addE (t := 9) hl rfl (congrArg Value.bool (dec10b hok (by unfold S10; first | (simp only [true_iff, Bool.false_eq_true, false_iff]; omega) | (rw [decide_eq_true_eq]; omega))))
            rw [← hsd9] at hl9
            clear hl
            have hl := hl9
            clear hl9
            try clear hg1; try clear hg2
            refine then_normal ?_
            refine c_seq ?_
            refine c_seq ?_
            refine c_region ?_
            refine wl (wl_val hl rfl trivial (r_move hl rfl) ?_)
            clear hl a; intro a hl
            refine wl (wl_val hl rfl trivial (r_move hl rfl) ?_)
            clear hl a; intro a hl
            refine wl (wl_val hl rfl trivial (r_eql hl rfl rfl) ?_)
            clear hl a; intro a hl
            refine wl (wl_val hl rfl trivial (r_neq_bool hl rfl rfl Tryd.underlying4) ?_)
            clear hl a; intro a hl
            refine wl (wl_val hl rfl trivial (r_move hl rfl) ?_)
            clear hl a; intro a hl
            refine sl_split (t := 128) hl rfl ?_ ?_
            · intro hg63; clear hl; intro hl
              try simp only [decide_eq_true_eq, decide_eq_false_iff_not, Bool.not_eq_true', Bool.not_eq_false', Bool.not_eq_true, Bool.not_eq_false, Bool.and_eq_true, Bool.or_eq_true, Bool.and_eq_false_iff, Bool.or_eq_false_iff, Bool.not_not, ne_eq, Int.not_lt, Int.not_le, Decidable.not_not, beq_iff_eq, bne_iff_ne] at hg63
              exfalso; first | contradiction | exact abs10a (by assumption) hT9 (fun h => (hF9 h).2) | exact absurd (hF9 (by simpa using by assumption)).2 (by assumption)
            · intro hg63; clear hl; intro hl
              try simp only [decide_eq_true_eq, decide_eq_false_iff_not, Bool.not_eq_true', Bool.not_eq_false', Bool.not_eq_true, Bool.not_eq_false, Bool.and_eq_true, Bool.or_eq_true, Bool.and_eq_false_iff, Bool.or_eq_false_iff, Bool.not_not, ne_eq, Int.not_lt, Int.not_le, Decidable.not_not, beq_iff_eq, bne_iff_ne] at hg63
              refine wl (wl_val hl rfl ⟨_, _, rfl, rfl, rfl⟩ (r_move hl rfl) ?_)
              clear hl a; intro a hl
              refine wl (wl_val hl rfl ⟨_, _, rfl, rfl, rfl⟩ (r_not hl rfl) ?_)
              clear hl a; intro a hl
              refine wl (wl_val hl rfl ⟨_, _, rfl, rfl, rfl⟩ (r_move hl rfl) ?_)
              clear hl a; intro a hl
              refine sl_split (t := 131) hl rfl ?_ ?_
              · intro hg64; clear hl; intro hl
                try simp only [decide_eq_true_eq, decide_eq_false_iff_not, Bool.not_eq_true', Bool.not_eq_false', Bool.not_eq_true, Bool.not_eq_false, Bool.and_eq_true, Bool.or_eq_true, Bool.and_eq_false_iff, Bool.or_eq_false_iff, Bool.not_not, ne_eq, Int.not_lt, Int.not_le, Decidable.not_not, beq_iff_eq, bne_iff_ne] at hg64
                refine wl (wl_val hl rfl ⟨_, _, rfl, rfl, rfl⟩ (r_move hl rfl) ?_)
                clear hl a; intro a hl
                refine wl (wl_val hl rfl ⟨_, _, rfl, rfl, rfl⟩ (r_neq hl rfl rfl) ?_)
                clear hl a; intro a hl
                refine wl (wl_val hl rfl ⟨_, _, rfl, rfl, rfl⟩ (r_pickT hl rfl rfl) ?_)
                clear hl a; intro a hl
                refine wl (wl_val hl rfl trivial (r_pickF hl rfl rfl) ?_)
                clear hl a; intro a hl
                refine w_nil ?_
                have hl2 := hl.add (t := 3) (hl.add (t := 6) (hl.add (t := 9) (hl.add (t := 17) (hl.add (t := 18) (hl.add (t := 19) (hl.add (t := 135) (hl.nil) rfl) rfl) rfl) rfl) rfl) rfl) rfl; clear hl; have hl := hl2; clear hl2
                refine then_normal ?_
                refine c_cond hl rfl ?_ ?_
                · intro hc2
                  try simp only [decide_eq_true_eq, decide_eq_false_iff_not, Bool.not_eq_true', Bool.not_eq_false', Bool.not_eq_true, Bool.not_eq_false, Bool.and_eq_true, Bool.or_eq_true, Bool.and_eq_false_iff, Bool.or_eq_false_iff, Bool.not_not, ne_eq, Int.not_lt, Int.not_le, Decidable.not_not, beq_iff_eq, bne_iff_ne] at hc2
                  exfalso; first | contradiction | exact abs10a (by assumption) hT9 (fun h => (hF9 h).2) | exact absurd (hF9 (by simpa using by assumption)).2 (by assumption)
                · intro hc2
                  try simp only [decide_eq_true_eq, decide_eq_false_iff_not, Bool.not_eq_true', Bool.not_eq_false', Bool.not_eq_true, Bool.not_eq_false, Bool.and_eq_true, Bool.or_eq_true, Bool.and_eq_false_iff, Bool.or_eq_false_iff, Bool.not_not, ne_eq, Int.not_lt, Int.not_le, Decidable.not_not, beq_iff_eq, bne_iff_ne] at hc2
                  refine wp_skip ?_
                  refine then_normal ?_
                  refine c_seq ?_
                  refine c_region ?_
                  refine wl (wl_val hl rfl trivial (r_move hl rfl) ?_)
                  clear hl a; intro a hl
                  refine wl (w_call hl hh rfl trivial rfl cal28 rfl (snap_spec hS9 bc (40 * ((z.i + 1 : Nat) : Int) + 1) (400 * ((z.i + 1 : Nat) : Int) + 4) ⟨by omega, by omega⟩ hG9) (by repeat (first | exact keeps_nil | apply keeps_cons (by repeat (first | exact find_head | apply find_tail | apply find_skip)) (by first  | rfl) | exact keeps_self | exact keeps_left | apply keeps_app | apply keeps_mv | apply keeps_skip)) (memK (E := sysL bc M9) hh (by repeat (first | exact keeps_nil | apply keeps_cons (by repeat (first | exact find_head | apply find_tail | apply find_skip)) (by first  | rfl) | exact keeps_self | exact keeps_left | apply keeps_app | apply keeps_mv | apply keeps_skip))) ?_)
                  clear hl hh a w; intro vc Fc a w hR hl hh
                  obtain ⟨ev9, bv9, Ee9, Eb9, rfl, hSn9, rfl⟩ := hR
                  try simp only [List.cons_append, List.nil_append, List.append_assoc, List.append_nil] at hh
                  refine wl (wl_val hl rfl trivial (r_move hl rfl) ?_)
                  clear hl a; intro a hl
                  refine wl (w_call hl hh rfl trivial rfl cal28 rfl (snap_spec hS2 bg (40 * ((z.i + 1 : Nat) : Int)) (400 * ((z.i + 1 : Nat) : Int)) ⟨by omega, by omega⟩ hG3) (by repeat (first | exact keeps_nil | apply keeps_cons (by repeat (first | exact find_head | apply find_tail | apply find_skip)) (by first  | rfl) | exact keeps_self | exact keeps_left | apply keeps_app | apply keeps_mv | apply keeps_skip)) (memK (E := sysL bg M2) hh (by repeat (first | exact keeps_nil | apply keeps_cons (by repeat (first | exact find_head | apply find_tail | apply find_skip)) (by first  | rfl) | exact keeps_self | exact keeps_left | apply keeps_app | apply keeps_mv | apply keeps_skip))) ?_)
                  clear hl hh a w; intro vc Fc a w hR hl hh
                  obtain ⟨ev2, bv2, Ee2, Eb2, rfl, hSn2, rfl⟩ := hR
                  try simp only [List.cons_append, List.nil_append, List.append_assoc, List.append_nil] at hh
                  refine wl (w_alloc hl hh rfl trivial zero75 rfl ?_)
                  clear hl hh a w; intro k10 a w hl hh
                  refine wl (w_alloc hl hh rfl trivial zero75 rfl ?_)
                  clear hl hh a w; intro k11 a w hl hh
                  refine wl (w_storeA hl hh trivial agg75 rfl rfl (by repeat (first | exact find_head | apply find_tail | apply find_skip)) (by exact snC_len _ _ _) (by first | exact Nat.le_of_eq (arrL_length _ _).symm | (rw [snC_len]; exact Nat.le_refl _)) (by first | exact snC_one hSn9 | exact snC_one hSn2) (by exact setL_whole (by first | rw [snC_len, arrL_length] | rw [snC_len, snC_len])) ?_)
                  clear hh w; intro w hh
                  refine wl (w_storeA hl hh trivial agg75 rfl rfl (by repeat (first | exact find_head | apply find_tail | apply find_skip)) (by exact snC_len _ _ _) (by first | exact Nat.le_of_eq (arrL_length _ _).symm | (rw [snC_len]; exact Nat.le_refl _)) (by first | exact snC_one hSn9 | exact snC_one hSn2) (by exact setL_whole (by first | rw [snC_len, arrL_length] | rw [snC_len, snC_len])) ?_)
                  clear hh w; intro w hh
                  refine w_nil ?_
                  have hl2 := hl.add (t := 3) (hl.add (t := 9) (hl.add (t := 10) (hl.add (t := 11) (hl.add (t := 17) (hl.add (t := 18) (hl.add (t := 19) (hl.nil) rfl) rfl) rfl) rfl) rfl) rfl) rfl; clear hl; have hl := hl2; clear hl2
                  refine then_normal ?_
                  refine c_seq ?_
                  refine c_region ?_
                  refine wl (wl_val hl rfl trivial (r_move hl rfl) ?_)
                  clear hl a; intro a hl
                  refine wl (wl_val hl rfl trivial (r_not hl rfl) ?_)
                  clear hl a; intro a hl
                  refine wl (wl_val hl rfl trivial (r_move hl rfl) ?_)
                  clear hl a; intro a hl
                  refine sl_split (t := 142) hl rfl ?_ ?_
                  · intro hg65; clear hl; intro hl
                    try simp only [decide_eq_true_eq, decide_eq_false_iff_not, Bool.not_eq_true', Bool.not_eq_false', Bool.not_eq_true, Bool.not_eq_false, Bool.and_eq_true, Bool.or_eq_true, Bool.and_eq_false_iff, Bool.or_eq_false_iff, Bool.not_not, ne_eq, Int.not_lt, Int.not_le, Decidable.not_not, beq_iff_eq, bne_iff_ne] at hg65
                    refine wl (w_call hl hh rfl ⟨_, _, rfl, rfl, rfl⟩ rfl cal29 rfl (eqState_spec (g := g2) (B := 40 * ((z.i + 1 : Nat) : Int)) (Q := 400 * ((z.i + 1 : Nat) : Int)) ⟨by omega, by omega⟩ hG3 k10 k11 ev9 bv9 ev2 bv2 Ee9 Eb9 Ee2 Eb2 ((hF9 (by simpa using by assumption)).1 ▸ hSn9) hSn2) (by repeat (first | exact keeps_nil | apply keeps_cons (by repeat (first | exact find_head | apply find_tail | apply find_skip)) (by first  | rfl) | exact keeps_self | exact keeps_left | apply keeps_app | apply keeps_mv | apply keeps_skip)) ⟨(hF9 (by simpa using by assumption)).1 ▸ (memK (E := snL k10 g9 ev9 bv9 Ee9 Eb9) hh (by repeat (first | exact keeps_nil | apply keeps_cons (by repeat (first | exact find_head | apply find_tail | apply find_skip)) (by first  | rfl) | exact keeps_self | exact keeps_left | apply keeps_app | apply keeps_mv | apply keeps_skip))), memK (E := snL k11 g2 ev2 bv2 Ee2 Eb2) hh (by repeat (first | exact keeps_nil | apply keeps_cons (by repeat (first | exact find_head | apply find_tail | apply find_skip)) (by first  | rfl) | exact keeps_self | exact keeps_left | apply keeps_app | apply keeps_mv | apply keeps_skip))⟩ ?_)
                    clear hl hh a w; intro vc Fc a w hR hl hh
                    obtain ⟨rfl, rfl⟩ := hR
                    try simp only [List.cons_append, List.nil_append, List.append_assoc, List.append_nil] at hh
                    refine wl (wl_val hl rfl ⟨_, _, rfl, rfl, rfl⟩ (r_not hl rfl) ?_)
                    clear hl a; intro a hl
                    refine wl (wl_val hl rfl trivial (r_pickT hl rfl rfl) ?_)
                    clear hl a; intro a hl
                    refine w_nil ?_
                    have hl2 := hl.add (t := 3) (hl.add (t := 17) (hl.add (t := 18) (hl.add (t := 19) (hl.add (t := 145) (hl.nil) rfl) rfl) rfl) rfl) rfl; clear hl; have hl := hl2; clear hl2
                    refine then_normal ?_
                    refine c_cond hl rfl ?_ ?_
                    · intro hc3
                      try simp only [decide_eq_true_eq, decide_eq_false_iff_not, Bool.not_eq_true', Bool.not_eq_false', Bool.not_eq_true, Bool.not_eq_false, Bool.and_eq_true, Bool.or_eq_true, Bool.and_eq_false_iff, Bool.or_eq_false_iff, Bool.not_not, ne_eq, Int.not_lt, Int.not_le, Decidable.not_not, beq_iff_eq, bne_iff_ne] at hc3
                      exfalso; first | contradiction | exact abs10a (by assumption) hT9 (fun h => (hF9 h).2) | exact absurd (hF9 (by simpa using by assumption)).2 (by assumption)
                    · intro hc3
                      try simp only [decide_eq_true_eq, decide_eq_false_iff_not, Bool.not_eq_true', Bool.not_eq_false', Bool.not_eq_true, Bool.not_eq_false, Bool.and_eq_true, Bool.or_eq_true, Bool.and_eq_false_iff, Bool.or_eq_false_iff, Bool.not_not, ne_eq, Int.not_lt, Int.not_le, Decidable.not_not, beq_iff_eq, bne_iff_ne] at hc3
                      refine wp_skip ?_
                      refine blk_normal ?_
                      refine then_normal ?_
                      refine c_region ?_
                      first | refine wl (wl_val hl rfl trivial (r_add hl rfl rfl (by simp only [Fits]; omega)) ?_) | refine wl (wl_val hl rfl trivial (r_addW hl rfl rfl) ?_)
                      clear hl a; intro a hl
                      refine wl (wl_val hl rfl trivial (r_move hl rfl) ?_)
                      clear hl a; intro a hl
                      refine w_nil ?_
                      have hl2 := hl.add (t := 3) (hl.add (t := 17) (hl.add (t := 18) (hl.add (t := 19) (hl.nil) rfl) rfl) rfl) rfl; clear hl; have hl := hl2; clear hl2
                      refine then_normal ?_
                      refine ⟨⟨g2, M2, z.i + 1⟩, (by simp only; omega), ⟨by simp only; omega, hS2, hG3⟩, hl.addE (t := 19) (hl.addE (t := 3) (hl.addE (t := 17) (hl.addE (t := 18) (hl.nil) rfl (by first | rfl | (congr 1; omega))) rfl (by first | rfl | (congr 1; omega))) rfl (by first | rfl | (congr 1; omega))) rfl (by first | rfl | (congr 1; omega)), hh.keep (by repeat (first | exact keeps_nil | apply keeps_cons (by repeat (first | exact find_head | apply find_tail | apply find_skip)) (by first  | rfl) | exact keeps_self | exact keeps_left | apply keeps_app | apply keeps_mv | apply keeps_skip))⟩
                  · intro hg65; clear hl; intro hl
                    try simp only [decide_eq_true_eq, decide_eq_false_iff_not, Bool.not_eq_true', Bool.not_eq_false', Bool.not_eq_true, Bool.not_eq_false, Bool.and_eq_true, Bool.or_eq_true, Bool.and_eq_false_iff, Bool.or_eq_false_iff, Bool.not_not, ne_eq, Int.not_lt, Int.not_le, Decidable.not_not, beq_iff_eq, bne_iff_ne] at hg65
                    refine wl (wl_skip hl rfl ⟨_, _, rfl, rfl, rfl⟩ ?_)
                    clear hl a; intro a hl
                    refine wl (wl_skip hl rfl ⟨_, _, rfl, rfl, rfl⟩ ?_)
                    clear hl a; intro a hl
                    refine wl (wl_val hl rfl trivial (r_pickF hl rfl rfl) ?_)
                    clear hl a; intro a hl
                    refine w_nil ?_
                    have hl2 := hl.add (t := 3) (hl.add (t := 17) (hl.add (t := 18) (hl.add (t := 19) (hl.add (t := 145) (hl.nil) rfl) rfl) rfl) rfl) rfl; clear hl; have hl := hl2; clear hl2
                    refine then_normal ?_
                    refine c_condF hl rfl ?_
                    refine wp_skip ?_
                    refine blk_normal ?_
                    refine then_normal ?_
                    refine c_region ?_
                    first | refine wl (wl_val hl rfl trivial (r_add hl rfl rfl (by simp only [Fits]; omega)) ?_) | refine wl (wl_val hl rfl trivial (r_addW hl rfl rfl) ?_)
                    clear hl a; intro a hl
                    refine wl (wl_val hl rfl trivial (r_move hl rfl) ?_)
                    clear hl a; intro a hl
                    refine w_nil ?_
                    have hl2 := hl.add (t := 3) (hl.add (t := 17) (hl.add (t := 18) (hl.add (t := 19) (hl.nil) rfl) rfl) rfl) rfl; clear hl; have hl := hl2; clear hl2
                    refine then_normal ?_
                    refine ⟨⟨g2, M2, z.i + 1⟩, (by simp only; omega), ⟨by simp only; omega, hS2, hG3⟩, hl.addE (t := 19) (hl.addE (t := 3) (hl.addE (t := 17) (hl.addE (t := 18) (hl.nil) rfl (by first | rfl | (congr 1; omega))) rfl (by first | rfl | (congr 1; omega))) rfl (by first | rfl | (congr 1; omega))) rfl (by first | rfl | (congr 1; omega)), hh.keep (by repeat (first | exact keeps_nil | apply keeps_cons (by repeat (first | exact find_head | apply find_tail | apply find_skip)) (by first  | rfl) | exact keeps_self | exact keeps_left | apply keeps_app | apply keeps_mv | apply keeps_skip))⟩
              · intro hg64; clear hl; intro hl
                try simp only [decide_eq_true_eq, decide_eq_false_iff_not, Bool.not_eq_true', Bool.not_eq_false', Bool.not_eq_true, Bool.not_eq_false, Bool.and_eq_true, Bool.or_eq_true, Bool.and_eq_false_iff, Bool.or_eq_false_iff, Bool.not_not, ne_eq, Int.not_lt, Int.not_le, Decidable.not_not, beq_iff_eq, bne_iff_ne] at hg64
                refine wl (wl_skip hl rfl ⟨_, _, rfl, rfl, rfl⟩ ?_)
                clear hl a; intro a hl
                refine wl (wl_skip hl rfl ⟨_, _, rfl, rfl, rfl⟩ ?_)
                clear hl a; intro a hl
                refine wl (wl_val hl rfl ⟨_, _, rfl, rfl, rfl⟩ (r_pickF hl rfl rfl) ?_)
                clear hl a; intro a hl
                refine wl (wl_val hl rfl trivial (r_pickF hl rfl rfl) ?_)
                clear hl a; intro a hl
                refine w_nil ?_
                have hl2 := hl.add (t := 3) (hl.add (t := 6) (hl.add (t := 9) (hl.add (t := 17) (hl.add (t := 18) (hl.add (t := 19) (hl.add (t := 135) (hl.nil) rfl) rfl) rfl) rfl) rfl) rfl) rfl; clear hl; have hl := hl2; clear hl2
                refine then_normal ?_
                refine c_condF hl rfl ?_
                refine wp_skip ?_
                refine then_normal ?_
                refine c_seq ?_
                refine c_region ?_
                refine wl (wl_val hl rfl trivial (r_move hl rfl) ?_)
                clear hl a; intro a hl
                refine wl (w_call hl hh rfl trivial rfl cal28 rfl (snap_spec hS9 bc (40 * ((z.i + 1 : Nat) : Int) + 1) (400 * ((z.i + 1 : Nat) : Int) + 4) ⟨by omega, by omega⟩ hG9) (by repeat (first | exact keeps_nil | apply keeps_cons (by repeat (first | exact find_head | apply find_tail | apply find_skip)) (by first  | rfl) | exact keeps_self | exact keeps_left | apply keeps_app | apply keeps_mv | apply keeps_skip)) (memK (E := sysL bc M9) hh (by repeat (first | exact keeps_nil | apply keeps_cons (by repeat (first | exact find_head | apply find_tail | apply find_skip)) (by first  | rfl) | exact keeps_self | exact keeps_left | apply keeps_app | apply keeps_mv | apply keeps_skip))) ?_)
                clear hl hh a w; intro vc Fc a w hR hl hh
                obtain ⟨ev9, bv9, Ee9, Eb9, rfl, hSn9, rfl⟩ := hR
                try simp only [List.cons_append, List.nil_append, List.append_assoc, List.append_nil] at hh
                refine wl (wl_val hl rfl trivial (r_move hl rfl) ?_)
                clear hl a; intro a hl
                refine wl (w_call hl hh rfl trivial rfl cal28 rfl (snap_spec hS2 bg (40 * ((z.i + 1 : Nat) : Int)) (400 * ((z.i + 1 : Nat) : Int)) ⟨by omega, by omega⟩ hG3) (by repeat (first | exact keeps_nil | apply keeps_cons (by repeat (first | exact find_head | apply find_tail | apply find_skip)) (by first  | rfl) | exact keeps_self | exact keeps_left | apply keeps_app | apply keeps_mv | apply keeps_skip)) (memK (E := sysL bg M2) hh (by repeat (first | exact keeps_nil | apply keeps_cons (by repeat (first | exact find_head | apply find_tail | apply find_skip)) (by first  | rfl) | exact keeps_self | exact keeps_left | apply keeps_app | apply keeps_mv | apply keeps_skip))) ?_)
                clear hl hh a w; intro vc Fc a w hR hl hh
                obtain ⟨ev2, bv2, Ee2, Eb2, rfl, hSn2, rfl⟩ := hR
                try simp only [List.cons_append, List.nil_append, List.append_assoc, List.append_nil] at hh
                refine wl (w_alloc hl hh rfl trivial zero75 rfl ?_)
                clear hl hh a w; intro k10 a w hl hh
                refine wl (w_alloc hl hh rfl trivial zero75 rfl ?_)
                clear hl hh a w; intro k11 a w hl hh
                refine wl (w_storeA hl hh trivial agg75 rfl rfl (by repeat (first | exact find_head | apply find_tail | apply find_skip)) (by exact snC_len _ _ _) (by first | exact Nat.le_of_eq (arrL_length _ _).symm | (rw [snC_len]; exact Nat.le_refl _)) (by first | exact snC_one hSn9 | exact snC_one hSn2) (by exact setL_whole (by first | rw [snC_len, arrL_length] | rw [snC_len, snC_len])) ?_)
                clear hh w; intro w hh
                refine wl (w_storeA hl hh trivial agg75 rfl rfl (by repeat (first | exact find_head | apply find_tail | apply find_skip)) (by exact snC_len _ _ _) (by first | exact Nat.le_of_eq (arrL_length _ _).symm | (rw [snC_len]; exact Nat.le_refl _)) (by first | exact snC_one hSn9 | exact snC_one hSn2) (by exact setL_whole (by first | rw [snC_len, arrL_length] | rw [snC_len, snC_len])) ?_)
                clear hh w; intro w hh
                refine w_nil ?_
                have hl2 := hl.add (t := 3) (hl.add (t := 9) (hl.add (t := 10) (hl.add (t := 11) (hl.add (t := 17) (hl.add (t := 18) (hl.add (t := 19) (hl.nil) rfl) rfl) rfl) rfl) rfl) rfl) rfl; clear hl; have hl := hl2; clear hl2
                refine then_normal ?_
                refine c_seq ?_
                refine c_region ?_
                refine wl (wl_val hl rfl trivial (r_move hl rfl) ?_)
                clear hl a; intro a hl
                refine wl (wl_val hl rfl trivial (r_not hl rfl) ?_)
                clear hl a; intro a hl
                refine wl (wl_val hl rfl trivial (r_move hl rfl) ?_)
                clear hl a; intro a hl
                refine sl_split (t := 142) hl rfl ?_ ?_
                · intro hg66; clear hl; intro hl
                  try simp only [decide_eq_true_eq, decide_eq_false_iff_not, Bool.not_eq_true', Bool.not_eq_false', Bool.not_eq_true, Bool.not_eq_false, Bool.and_eq_true, Bool.or_eq_true, Bool.and_eq_false_iff, Bool.or_eq_false_iff, Bool.not_not, ne_eq, Int.not_lt, Int.not_le, Decidable.not_not, beq_iff_eq, bne_iff_ne] at hg66
                  refine wl (w_call hl hh rfl ⟨_, _, rfl, rfl, rfl⟩ rfl cal29 rfl (eqState_spec (g := g2) (B := 40 * ((z.i + 1 : Nat) : Int)) (Q := 400 * ((z.i + 1 : Nat) : Int)) ⟨by omega, by omega⟩ hG3 k10 k11 ev9 bv9 ev2 bv2 Ee9 Eb9 Ee2 Eb2 ((hF9 (by simpa using by assumption)).1 ▸ hSn9) hSn2) (by repeat (first | exact keeps_nil | apply keeps_cons (by repeat (first | exact find_head | apply find_tail | apply find_skip)) (by first  | rfl) | exact keeps_self | exact keeps_left | apply keeps_app | apply keeps_mv | apply keeps_skip)) ⟨(hF9 (by simpa using by assumption)).1 ▸ (memK (E := snL k10 g9 ev9 bv9 Ee9 Eb9) hh (by repeat (first | exact keeps_nil | apply keeps_cons (by repeat (first | exact find_head | apply find_tail | apply find_skip)) (by first  | rfl) | exact keeps_self | exact keeps_left | apply keeps_app | apply keeps_mv | apply keeps_skip))), memK (E := snL k11 g2 ev2 bv2 Ee2 Eb2) hh (by repeat (first | exact keeps_nil | apply keeps_cons (by repeat (first | exact find_head | apply find_tail | apply find_skip)) (by first  | rfl) | exact keeps_self | exact keeps_left | apply keeps_app | apply keeps_mv | apply keeps_skip))⟩ ?_)
                  clear hl hh a w; intro vc Fc a w hR hl hh
                  obtain ⟨rfl, rfl⟩ := hR
                  try simp only [List.cons_append, List.nil_append, List.append_assoc, List.append_nil] at hh
                  refine wl (wl_val hl rfl ⟨_, _, rfl, rfl, rfl⟩ (r_not hl rfl) ?_)
                  clear hl a; intro a hl
                  refine wl (wl_val hl rfl trivial (r_pickT hl rfl rfl) ?_)
                  clear hl a; intro a hl
                  refine w_nil ?_
                  have hl2 := hl.add (t := 3) (hl.add (t := 17) (hl.add (t := 18) (hl.add (t := 19) (hl.add (t := 145) (hl.nil) rfl) rfl) rfl) rfl) rfl; clear hl; have hl := hl2; clear hl2
                  refine then_normal ?_
                  refine c_cond hl rfl ?_ ?_
                  · intro hc3
                    try simp only [decide_eq_true_eq, decide_eq_false_iff_not, Bool.not_eq_true', Bool.not_eq_false', Bool.not_eq_true, Bool.not_eq_false, Bool.and_eq_true, Bool.or_eq_true, Bool.and_eq_false_iff, Bool.or_eq_false_iff, Bool.not_not, ne_eq, Int.not_lt, Int.not_le, Decidable.not_not, beq_iff_eq, bne_iff_ne] at hc3
                    exfalso; first | contradiction | exact abs10a (by assumption) hT9 (fun h => (hF9 h).2) | exact absurd (hF9 (by simpa using by assumption)).2 (by assumption)
                  · intro hc3
                    try simp only [decide_eq_true_eq, decide_eq_false_iff_not, Bool.not_eq_true', Bool.not_eq_false', Bool.not_eq_true, Bool.not_eq_false, Bool.and_eq_true, Bool.or_eq_true, Bool.and_eq_false_iff, Bool.or_eq_false_iff, Bool.not_not, ne_eq, Int.not_lt, Int.not_le, Decidable.not_not, beq_iff_eq, bne_iff_ne] at hc3
                    refine wp_skip ?_
                    refine blk_normal ?_
                    refine then_normal ?_
                    refine c_region ?_
                    first | refine wl (wl_val hl rfl trivial (r_add hl rfl rfl (by simp only [Fits]; omega)) ?_) | refine wl (wl_val hl rfl trivial (r_addW hl rfl rfl) ?_)
                    clear hl a; intro a hl
                    refine wl (wl_val hl rfl trivial (r_move hl rfl) ?_)
                    clear hl a; intro a hl
                    refine w_nil ?_
                    have hl2 := hl.add (t := 3) (hl.add (t := 17) (hl.add (t := 18) (hl.add (t := 19) (hl.nil) rfl) rfl) rfl) rfl; clear hl; have hl := hl2; clear hl2
                    refine then_normal ?_
                    refine ⟨⟨g2, M2, z.i + 1⟩, (by simp only; omega), ⟨by simp only; omega, hS2, hG3⟩, hl.addE (t := 19) (hl.addE (t := 3) (hl.addE (t := 17) (hl.addE (t := 18) (hl.nil) rfl (by first | rfl | (congr 1; omega))) rfl (by first | rfl | (congr 1; omega))) rfl (by first | rfl | (congr 1; omega))) rfl (by first | rfl | (congr 1; omega)), hh.keep (by repeat (first | exact keeps_nil | apply keeps_cons (by repeat (first | exact find_head | apply find_tail | apply find_skip)) (by first  | rfl) | exact keeps_self | exact keeps_left | apply keeps_app | apply keeps_mv | apply keeps_skip))⟩
                · intro hg66; clear hl; intro hl
                  try simp only [decide_eq_true_eq, decide_eq_false_iff_not, Bool.not_eq_true', Bool.not_eq_false', Bool.not_eq_true, Bool.not_eq_false, Bool.and_eq_true, Bool.or_eq_true, Bool.and_eq_false_iff, Bool.or_eq_false_iff, Bool.not_not, ne_eq, Int.not_lt, Int.not_le, Decidable.not_not, beq_iff_eq, bne_iff_ne] at hg66
                  refine wl (wl_skip hl rfl ⟨_, _, rfl, rfl, rfl⟩ ?_)
                  clear hl a; intro a hl
                  refine wl (wl_skip hl rfl ⟨_, _, rfl, rfl, rfl⟩ ?_)
                  clear hl a; intro a hl
                  refine wl (wl_val hl rfl trivial (r_pickF hl rfl rfl) ?_)
                  clear hl a; intro a hl
                  refine w_nil ?_
                  have hl2 := hl.add (t := 3) (hl.add (t := 17) (hl.add (t := 18) (hl.add (t := 19) (hl.add (t := 145) (hl.nil) rfl) rfl) rfl) rfl) rfl; clear hl; have hl := hl2; clear hl2
                  refine then_normal ?_
                  refine c_condF hl rfl ?_
                  refine wp_skip ?_
                  refine blk_normal ?_
                  refine then_normal ?_
                  refine c_region ?_
                  first | refine wl (wl_val hl rfl trivial (r_add hl rfl rfl (by simp only [Fits]; omega)) ?_) | refine wl (wl_val hl rfl trivial (r_addW hl rfl rfl) ?_)
                  clear hl a; intro a hl
                  refine wl (wl_val hl rfl trivial (r_move hl rfl) ?_)
                  clear hl a; intro a hl
                  refine w_nil ?_
                  have hl2 := hl.add (t := 3) (hl.add (t := 17) (hl.add (t := 18) (hl.add (t := 19) (hl.nil) rfl) rfl) rfl) rfl; clear hl; have hl := hl2; clear hl2
                  refine then_normal ?_
                  refine ⟨⟨g2, M2, z.i + 1⟩, (by simp only; omega), ⟨by simp only; omega, hS2, hG3⟩, hl.addE (t := 19) (hl.addE (t := 3) (hl.addE (t := 17) (hl.addE (t := 18) (hl.nil) rfl (by first | rfl | (congr 1; omega))) rfl (by first | rfl | (congr 1; omega))) rfl (by first | rfl | (congr 1; omega))) rfl (by first | rfl | (congr 1; omega)), hh.keep (by repeat (first | exact keeps_nil | apply keeps_cons (by repeat (first | exact find_head | apply find_tail | apply find_skip)) (by first  | rfl) | exact keeps_self | exact keeps_left | apply keeps_app | apply keeps_mv | apply keeps_skip))⟩
        · intro hg2; clear hl; intro hl
          try simp only [decide_eq_true_eq, decide_eq_false_iff_not, Bool.not_eq_true', Bool.not_eq_false', Bool.not_eq_true, Bool.not_eq_false, Bool.and_eq_true, Bool.or_eq_true, Bool.and_eq_false_iff, Bool.or_eq_false_iff, Bool.not_not, ne_eq, Int.not_lt, Int.not_le, Decidable.not_not, beq_iff_eq, bne_iff_ne] at hg2
          refine wl (wl_skip hl rfl ⟨_, _, rfl, rfl, rfl⟩ ?_)
          clear hl a; intro a hl
          refine wl (wl_skip hl rfl ⟨_, _, rfl, rfl, rfl⟩ ?_)
          clear hl a; intro a hl
          refine wl (wl_skip hl rfl ⟨_, _, rfl, rfl, rfl⟩ ?_)
          clear hl a; intro a hl
          refine wl (wl_val hl rfl trivial (r_pickF hl rfl rfl) ?_)
          clear hl a; intro a hl
          refine wl (wl_val hl rfl trivial (r_move hl rfl) ?_)
          clear hl a; intro a hl
          refine wl (wl_skip hl rfl ⟨_, _, rfl, rfl, rfl⟩ ?_)
          clear hl a; intro a hl
          refine wl (wl_skip hl rfl ⟨_, _, rfl, rfl, rfl⟩ ?_)
          clear hl a; intro a hl
          refine wl (wl_skip hl rfl ⟨_, _, rfl, rfl, rfl⟩ ?_)
          clear hl a; intro a hl
          refine wl (wl_val hl rfl trivial (r_pickF hl rfl rfl) ?_)
          clear hl a; intro a hl
          refine wl (wl_val hl rfl trivial (r_move hl rfl) ?_)
          clear hl a; intro a hl
          refine wl (wl_skip hl rfl ⟨_, _, rfl, rfl, rfl⟩ ?_)
          clear hl a; intro a hl
          refine wl (wl_skip hl rfl ⟨_, _, rfl, rfl, rfl⟩ ?_)
          clear hl a; intro a hl
          refine wl (wl_skip hl rfl ⟨_, _, rfl, rfl, rfl⟩ ?_)
          clear hl a; intro a hl
          refine wl (wl_skip hl rfl ⟨_, _, rfl, rfl, rfl⟩ ?_)
          clear hl a; intro a hl
          refine wl (wl_skip hl rfl ⟨_, _, rfl, rfl, rfl⟩ ?_)
          clear hl a; intro a hl
          refine wl (wl_skip hl rfl ⟨_, _, rfl, rfl, rfl⟩ ?_)
          clear hl a; intro a hl
          refine wl (wl_val hl rfl trivial (r_pickF hl rfl rfl) ?_)
          clear hl a; intro a hl
          refine wl (wl_val hl rfl trivial (r_move hl rfl) ?_)
          clear hl a; intro a hl
          refine wl (wl_skip hl rfl ⟨_, _, rfl, rfl, rfl⟩ ?_)
          clear hl a; intro a hl
          refine wl (wl_skip hl rfl ⟨_, _, rfl, rfl, rfl⟩ ?_)
          clear hl a; intro a hl
          refine wl (wl_skip hl rfl ⟨_, _, rfl, rfl, rfl⟩ ?_)
          clear hl a; intro a hl
          refine wl (wl_val hl rfl trivial (r_pickF hl rfl rfl) ?_)
          clear hl a; intro a hl
          refine wl (wl_val hl rfl trivial (r_move hl rfl) ?_)
          clear hl a; intro a hl
          refine wl (wl_skip hl rfl ⟨_, _, rfl, rfl, rfl⟩ ?_)
          clear hl a; intro a hl
          refine wl (wl_skip hl rfl ⟨_, _, rfl, rfl, rfl⟩ ?_)
          clear hl a; intro a hl
          refine wl (wl_skip hl rfl ⟨_, _, rfl, rfl, rfl⟩ ?_)
          clear hl a; intro a hl
          refine wl (wl_val hl rfl trivial (r_pickF hl rfl rfl) ?_)
          clear hl a; intro a hl
          refine wl (wl_val hl rfl trivial (r_move hl rfl) ?_)
          clear hl a; intro a hl
          refine wl (wl_skip hl rfl ⟨_, _, rfl, rfl, rfl⟩ ?_)
          clear hl a; intro a hl
          refine wl (wl_skip hl rfl ⟨_, _, rfl, rfl, rfl⟩ ?_)
          clear hl a; intro a hl
          refine wl (wl_skip hl rfl ⟨_, _, rfl, rfl, rfl⟩ ?_)
          clear hl a; intro a hl
          refine wl (wl_skip hl rfl ⟨_, _, rfl, rfl, rfl⟩ ?_)
          clear hl a; intro a hl
          refine wl (wl_skip hl rfl ⟨_, _, rfl, rfl, rfl⟩ ?_)
          clear hl a; intro a hl
          refine wl (wl_skip hl rfl ⟨_, _, rfl, rfl, rfl⟩ ?_)
          clear hl a; intro a hl
          refine wl (wl_skip hl rfl ⟨_, _, rfl, rfl, rfl⟩ ?_)
          clear hl a; intro a hl
          refine wl (wl_skip hl rfl ⟨_, _, rfl, rfl, rfl⟩ ?_)
          clear hl a; intro a hl
          refine wl (wl_val hl rfl trivial (r_pickF hl rfl rfl) ?_)
          clear hl a; intro a hl
          refine wl (wl_val hl rfl trivial (r_move hl rfl) ?_)
          clear hl a; intro a hl
          refine wl (wl_skip hl rfl ⟨_, _, rfl, rfl, rfl⟩ ?_)
          clear hl a; intro a hl
          refine wl (wl_skip hl rfl ⟨_, _, rfl, rfl, rfl⟩ ?_)
          clear hl a; intro a hl
          refine wl (wl_skip hl rfl ⟨_, _, rfl, rfl, rfl⟩ ?_)
          clear hl a; intro a hl
          refine wl (wl_skip hl rfl ⟨_, _, rfl, rfl, rfl⟩ ?_)
          clear hl a; intro a hl
          refine wl (wl_skipU hl rfl ⟨_, _, rfl, rfl, rfl⟩ ?_)
          clear hl a; intro a hl
          refine wl (wl_skipU hl rfl ⟨_, _, rfl, rfl, rfl⟩ ?_)
          clear hl a; intro a hl
          refine wl (wl_skipU hl rfl ⟨_, _, rfl, rfl, rfl⟩ ?_)
          clear hl a; intro a hl
          refine wl (wl_skip hl rfl ⟨_, _, rfl, rfl, rfl⟩ ?_)
          clear hl a; intro a hl
          refine wl (wl_skip hl rfl ⟨_, _, rfl, rfl, rfl⟩ ?_)
          clear hl a; intro a hl
          refine wl (wl_skipU hl rfl ⟨_, _, rfl, rfl, rfl⟩ ?_)
          clear hl a; intro a hl
          refine wl (wl_skipU hl rfl ⟨_, _, rfl, rfl, rfl⟩ ?_)
          clear hl a; intro a hl
          refine wl (wl_skipU hl rfl ⟨_, _, rfl, rfl, rfl⟩ ?_)
          clear hl a; intro a hl
          refine wl (wl_skipU hl rfl ⟨_, _, rfl, rfl, rfl⟩ ?_)
          clear hl a; intro a hl
          refine wl (wl_skipU hl rfl ⟨_, _, rfl, rfl, rfl⟩ ?_)
          clear hl a; intro a hl
          refine wl (wl_skipU hl rfl ⟨_, _, rfl, rfl, rfl⟩ ?_)
          clear hl a; intro a hl
          refine wl (wl_skipU hl rfl ⟨_, _, rfl, rfl, rfl⟩ ?_)
          clear hl a; intro a hl
          refine wl (wl_skipU hl rfl ⟨_, _, rfl, rfl, rfl⟩ ?_)
          clear hl a; intro a hl
          refine wl (wl_skipU hl rfl ⟨_, _, rfl, rfl, rfl⟩ ?_)
          clear hl a; intro a hl
          refine wl (wl_skipU hl rfl ⟨_, _, rfl, rfl, rfl⟩ ?_)
          clear hl a; intro a hl
          refine wl (wl_skipU hl rfl ⟨_, _, rfl, rfl, rfl⟩ ?_)
          clear hl a; intro a hl
          refine wl (wl_skipU hl rfl ⟨_, _, rfl, rfl, rfl⟩ ?_)
          clear hl a; intro a hl
          refine wl (wl_skipU hl rfl ⟨_, _, rfl, rfl, rfl⟩ ?_)
          clear hl a; intro a hl
          refine wl (wl_skip hl rfl ⟨_, _, rfl, rfl, rfl⟩ ?_)
          clear hl a; intro a hl
          refine wl (wl_val hl rfl trivial (r_pickF hl rfl rfl) ?_)
          clear hl a; intro a hl
          refine wl (wl_val hl rfl trivial (r_assign hl rfl) ?_)
          clear hl a; intro a hl
          refine w_nil ?_
          have hl2 := hl.add (t := 3) (hl.add (t := 6) (hl.add (t := 8) (hl.add (t := 9) (hl.add (t := 17) (hl.add (t := 18) (hl.add (t := 19) (hl.nil) rfl) rfl) rfl) rfl) rfl) rfl) rfl; clear hl; have hl := hl2; clear hl2
          have hl9 := hl.addE (t := 9) hl rfl (congrArg Value.bool (dec10b hok (by unfold S10; first | (simp only [true_iff, Bool.false_eq_true, false_iff]; omega) | (rw [decide_eq_true_eq]; omega))))
          rw [← hsd9] at hl9
          clear hl
          have hl := hl9
          clear hl9
          try clear hg1; try clear hg2
          refine then_normal ?_
          refine c_seq ?_
          refine c_seq ?_
          refine c_region ?_
          refine wl (wl_val hl rfl trivial (r_move hl rfl) ?_)
          clear hl a; intro a hl
          refine wl (wl_val hl rfl trivial (r_move hl rfl) ?_)
          clear hl a; intro a hl
          refine wl (wl_val hl rfl trivial (r_eql hl rfl rfl) ?_)
          clear hl a; intro a hl
          refine wl (wl_val hl rfl trivial (r_neq_bool hl rfl rfl Tryd.underlying4) ?_)
          clear hl a; intro a hl
          refine wl (wl_val hl rfl trivial (r_move hl rfl) ?_)
          clear hl a; intro a hl
          refine sl_split (t := 128) hl rfl ?_ ?_
          · intro hg67; clear hl; intro hl
            try simp only [decide_eq_true_eq, decide_eq_false_iff_not, Bool.not_eq_true', Bool.not_eq_false', Bool.not_eq_true, Bool.not_eq_false, Bool.and_eq_true, Bool.or_eq_true, Bool.and_eq_false_iff, Bool.or_eq_false_iff, Bool.not_not, ne_eq, Int.not_lt, Int.not_le, Decidable.not_not, beq_iff_eq, bne_iff_ne] at hg67
            exfalso; first | contradiction | exact abs10a (by assumption) hT9 (fun h => (hF9 h).2) | exact absurd (hF9 (by simpa using by assumption)).2 (by assumption)
          · intro hg67; clear hl; intro hl
            try simp only [decide_eq_true_eq, decide_eq_false_iff_not, Bool.not_eq_true', Bool.not_eq_false', Bool.not_eq_true, Bool.not_eq_false, Bool.and_eq_true, Bool.or_eq_true, Bool.and_eq_false_iff, Bool.or_eq_false_iff, Bool.not_not, ne_eq, Int.not_lt, Int.not_le, Decidable.not_not, beq_iff_eq, bne_iff_ne] at hg67
            refine wl (wl_val hl rfl ⟨_, _, rfl, rfl, rfl⟩ (r_move hl rfl) ?_)
            clear hl a; intro a hl
            refine wl (wl_val hl rfl ⟨_, _, rfl, rfl, rfl⟩ (r_not hl rfl) ?_)
            clear hl a; intro a hl
            refine wl (wl_val hl rfl ⟨_, _, rfl, rfl, rfl⟩ (r_move hl rfl) ?_)
            clear hl a; intro a hl
            refine sl_split (t := 131) hl rfl ?_ ?_
            · intro hg68; clear hl; intro hl
              try simp only [decide_eq_true_eq, decide_eq_false_iff_not, Bool.not_eq_true', Bool.not_eq_false', Bool.not_eq_true, Bool.not_eq_false, Bool.and_eq_true, Bool.or_eq_true, Bool.and_eq_false_iff, Bool.or_eq_false_iff, Bool.not_not, ne_eq, Int.not_lt, Int.not_le, Decidable.not_not, beq_iff_eq, bne_iff_ne] at hg68
              refine wl (wl_val hl rfl ⟨_, _, rfl, rfl, rfl⟩ (r_move hl rfl) ?_)
              clear hl a; intro a hl
              refine wl (wl_val hl rfl ⟨_, _, rfl, rfl, rfl⟩ (r_neq hl rfl rfl) ?_)
              clear hl a; intro a hl
              refine wl (wl_val hl rfl ⟨_, _, rfl, rfl, rfl⟩ (r_pickT hl rfl rfl) ?_)
              clear hl a; intro a hl
              refine wl (wl_val hl rfl trivial (r_pickF hl rfl rfl) ?_)
              clear hl a; intro a hl
              refine w_nil ?_
              have hl2 := hl.add (t := 3) (hl.add (t := 6) (hl.add (t := 9) (hl.add (t := 17) (hl.add (t := 18) (hl.add (t := 19) (hl.add (t := 135) (hl.nil) rfl) rfl) rfl) rfl) rfl) rfl) rfl; clear hl; have hl := hl2; clear hl2
              refine then_normal ?_
              refine c_cond hl rfl ?_ ?_
              · intro hc2
                try simp only [decide_eq_true_eq, decide_eq_false_iff_not, Bool.not_eq_true', Bool.not_eq_false', Bool.not_eq_true, Bool.not_eq_false, Bool.and_eq_true, Bool.or_eq_true, Bool.and_eq_false_iff, Bool.or_eq_false_iff, Bool.not_not, ne_eq, Int.not_lt, Int.not_le, Decidable.not_not, beq_iff_eq, bne_iff_ne] at hc2
                exfalso; first | contradiction | exact abs10a (by assumption) hT9 (fun h => (hF9 h).2) | exact absurd (hF9 (by simpa using by assumption)).2 (by assumption)
              · intro hc2
                try simp only [decide_eq_true_eq, decide_eq_false_iff_not, Bool.not_eq_true', Bool.not_eq_false', Bool.not_eq_true, Bool.not_eq_false, Bool.and_eq_true, Bool.or_eq_true, Bool.and_eq_false_iff, Bool.or_eq_false_iff, Bool.not_not, ne_eq, Int.not_lt, Int.not_le, Decidable.not_not, beq_iff_eq, bne_iff_ne] at hc2
                refine wp_skip ?_
                refine then_normal ?_
                refine c_seq ?_
                refine c_region ?_
                refine wl (wl_val hl rfl trivial (r_move hl rfl) ?_)
                clear hl a; intro a hl
                refine wl (w_call hl hh rfl trivial rfl cal28 rfl (snap_spec hS9 bc (40 * ((z.i + 1 : Nat) : Int) + 1) (400 * ((z.i + 1 : Nat) : Int) + 4) ⟨by omega, by omega⟩ hG9) (by repeat (first | exact keeps_nil | apply keeps_cons (by repeat (first | exact find_head | apply find_tail | apply find_skip)) (by first  | rfl) | exact keeps_self | exact keeps_left | apply keeps_app | apply keeps_mv | apply keeps_skip)) (memK (E := sysL bc M9) hh (by repeat (first | exact keeps_nil | apply keeps_cons (by repeat (first | exact find_head | apply find_tail | apply find_skip)) (by first  | rfl) | exact keeps_self | exact keeps_left | apply keeps_app | apply keeps_mv | apply keeps_skip))) ?_)
                clear hl hh a w; intro vc Fc a w hR hl hh
                obtain ⟨ev9, bv9, Ee9, Eb9, rfl, hSn9, rfl⟩ := hR
                try simp only [List.cons_append, List.nil_append, List.append_assoc, List.append_nil] at hh
                refine wl (wl_val hl rfl trivial (r_move hl rfl) ?_)
                clear hl a; intro a hl
                refine wl (w_call hl hh rfl trivial rfl cal28 rfl (snap_spec hS2 bg (40 * ((z.i + 1 : Nat) : Int)) (400 * ((z.i + 1 : Nat) : Int)) ⟨by omega, by omega⟩ hG3) (by repeat (first | exact keeps_nil | apply keeps_cons (by repeat (first | exact find_head | apply find_tail | apply find_skip)) (by first  | rfl) | exact keeps_self | exact keeps_left | apply keeps_app | apply keeps_mv | apply keeps_skip)) (memK (E := sysL bg M2) hh (by repeat (first | exact keeps_nil | apply keeps_cons (by repeat (first | exact find_head | apply find_tail | apply find_skip)) (by first  | rfl) | exact keeps_self | exact keeps_left | apply keeps_app | apply keeps_mv | apply keeps_skip))) ?_)
                clear hl hh a w; intro vc Fc a w hR hl hh
                obtain ⟨ev2, bv2, Ee2, Eb2, rfl, hSn2, rfl⟩ := hR
                try simp only [List.cons_append, List.nil_append, List.append_assoc, List.append_nil] at hh
                refine wl (w_alloc hl hh rfl trivial zero75 rfl ?_)
                clear hl hh a w; intro k10 a w hl hh
                refine wl (w_alloc hl hh rfl trivial zero75 rfl ?_)
                clear hl hh a w; intro k11 a w hl hh
                refine wl (w_storeA hl hh trivial agg75 rfl rfl (by repeat (first | exact find_head | apply find_tail | apply find_skip)) (by exact snC_len _ _ _) (by first | exact Nat.le_of_eq (arrL_length _ _).symm | (rw [snC_len]; exact Nat.le_refl _)) (by first | exact snC_one hSn9 | exact snC_one hSn2) (by exact setL_whole (by first | rw [snC_len, arrL_length] | rw [snC_len, snC_len])) ?_)
                clear hh w; intro w hh
                refine wl (w_storeA hl hh trivial agg75 rfl rfl (by repeat (first | exact find_head | apply find_tail | apply find_skip)) (by exact snC_len _ _ _) (by first | exact Nat.le_of_eq (arrL_length _ _).symm | (rw [snC_len]; exact Nat.le_refl _)) (by first | exact snC_one hSn9 | exact snC_one hSn2) (by exact setL_whole (by first | rw [snC_len, arrL_length] | rw [snC_len, snC_len])) ?_)
                clear hh w; intro w hh
                refine w_nil ?_
                have hl2 := hl.add (t := 3) (hl.add (t := 9) (hl.add (t := 10) (hl.add (t := 11) (hl.add (t := 17) (hl.add (t := 18) (hl.add (t := 19) (hl.nil) rfl) rfl) rfl) rfl) rfl) rfl) rfl; clear hl; have hl := hl2; clear hl2
                refine then_normal ?_
                refine c_seq ?_
                refine c_region ?_
                refine wl (wl_val hl rfl trivial (r_move hl rfl) ?_)
                clear hl a; intro a hl
                refine wl (wl_val hl rfl trivial (r_not hl rfl) ?_)
                clear hl a; intro a hl
                refine wl (wl_val hl rfl trivial (r_move hl rfl) ?_)
                clear hl a; intro a hl
                refine sl_split (t := 142) hl rfl ?_ ?_
                · intro hg69; clear hl; intro hl
                  try simp only [decide_eq_true_eq, decide_eq_false_iff_not, Bool.not_eq_true', Bool.not_eq_false', Bool.not_eq_true, Bool.not_eq_false, Bool.and_eq_true, Bool.or_eq_true, Bool.and_eq_false_iff, Bool.or_eq_false_iff, Bool.not_not, ne_eq, Int.not_lt, Int.not_le, Decidable.not_not, beq_iff_eq, bne_iff_ne] at hg69
                  refine wl (w_call hl hh rfl ⟨_, _, rfl, rfl, rfl⟩ rfl cal29 rfl (eqState_spec (g := g2) (B := 40 * ((z.i + 1 : Nat) : Int)) (Q := 400 * ((z.i + 1 : Nat) : Int)) ⟨by omega, by omega⟩ hG3 k10 k11 ev9 bv9 ev2 bv2 Ee9 Eb9 Ee2 Eb2 ((hF9 (by simpa using by assumption)).1 ▸ hSn9) hSn2) (by repeat (first | exact keeps_nil | apply keeps_cons (by repeat (first | exact find_head | apply find_tail | apply find_skip)) (by first  | rfl) | exact keeps_self | exact keeps_left | apply keeps_app | apply keeps_mv | apply keeps_skip)) ⟨(hF9 (by simpa using by assumption)).1 ▸ (memK (E := snL k10 g9 ev9 bv9 Ee9 Eb9) hh (by repeat (first | exact keeps_nil | apply keeps_cons (by repeat (first | exact find_head | apply find_tail | apply find_skip)) (by first  | rfl) | exact keeps_self | exact keeps_left | apply keeps_app | apply keeps_mv | apply keeps_skip))), memK (E := snL k11 g2 ev2 bv2 Ee2 Eb2) hh (by repeat (first | exact keeps_nil | apply keeps_cons (by repeat (first | exact find_head | apply find_tail | apply find_skip)) (by first  | rfl) | exact keeps_self | exact keeps_left | apply keeps_app | apply keeps_mv | apply keeps_skip))⟩ ?_)
                  clear hl hh a w; intro vc Fc a w hR hl hh
                  obtain ⟨rfl, rfl⟩ := hR
                  try simp only [List.cons_append, List.nil_append, List.append_assoc, List.append_nil] at hh
                  refine wl (wl_val hl rfl ⟨_, _, rfl, rfl, rfl⟩ (r_not hl rfl) ?_)
                  clear hl a; intro a hl
                  refine wl (wl_val hl rfl trivial (r_pickT hl rfl rfl) ?_)
                  clear hl a; intro a hl
                  refine w_nil ?_
                  have hl2 := hl.add (t := 3) (hl.add (t := 17) (hl.add (t := 18) (hl.add (t := 19) (hl.add (t := 145) (hl.nil) rfl) rfl) rfl) rfl) rfl; clear hl; have hl := hl2; clear hl2
                  refine then_normal ?_
                  refine c_cond hl rfl ?_ ?_
                  · intro hc3
                    try simp only [decide_eq_true_eq, decide_eq_false_iff_not, Bool.not_eq_true', Bool.not_eq_false', Bool.not_eq_true, Bool.not_eq_false, Bool.and_eq_true, Bool.or_eq_true, Bool.and_eq_false_iff, Bool.or_eq_false_iff, Bool.not_not, ne_eq, Int.not_lt, Int.not_le, Decidable.not_not, beq_iff_eq, bne_iff_ne] at hc3
                    exfalso; first | contradiction | exact abs10a (by assumption) hT9 (fun h => (hF9 h).2) | exact absurd (hF9 (by simpa using by assumption)).2 (by assumption)
                  · intro hc3
                    try simp only [decide_eq_true_eq, decide_eq_false_iff_not, Bool.not_eq_true', Bool.not_eq_false', Bool.not_eq_true, Bool.not_eq_false, Bool.and_eq_true, Bool.or_eq_true, Bool.and_eq_false_iff, Bool.or_eq_false_iff, Bool.not_not, ne_eq, Int.not_lt, Int.not_le, Decidable.not_not, beq_iff_eq, bne_iff_ne] at hc3
                    refine wp_skip ?_
                    refine blk_normal ?_
                    refine then_normal ?_
                    refine c_region ?_
                    first | refine wl (wl_val hl rfl trivial (r_add hl rfl rfl (by simp only [Fits]; omega)) ?_) | refine wl (wl_val hl rfl trivial (r_addW hl rfl rfl) ?_)
                    clear hl a; intro a hl
                    refine wl (wl_val hl rfl trivial (r_move hl rfl) ?_)
                    clear hl a; intro a hl
                    refine w_nil ?_
                    have hl2 := hl.add (t := 3) (hl.add (t := 17) (hl.add (t := 18) (hl.add (t := 19) (hl.nil) rfl) rfl) rfl) rfl; clear hl; have hl := hl2; clear hl2
                    refine then_normal ?_
                    refine ⟨⟨g2, M2, z.i + 1⟩, (by simp only; omega), ⟨by simp only; omega, hS2, hG3⟩, hl.addE (t := 19) (hl.addE (t := 3) (hl.addE (t := 17) (hl.addE (t := 18) (hl.nil) rfl (by first | rfl | (congr 1; omega))) rfl (by first | rfl | (congr 1; omega))) rfl (by first | rfl | (congr 1; omega))) rfl (by first | rfl | (congr 1; omega)), hh.keep (by repeat (first | exact keeps_nil | apply keeps_cons (by repeat (first | exact find_head | apply find_tail | apply find_skip)) (by first  | rfl) | exact keeps_self | exact keeps_left | apply keeps_app | apply keeps_mv | apply keeps_skip))⟩
                · intro hg69; clear hl; intro hl
                  try simp only [decide_eq_true_eq, decide_eq_false_iff_not, Bool.not_eq_true', Bool.not_eq_false', Bool.not_eq_true, Bool.not_eq_false, Bool.and_eq_true, Bool.or_eq_true, Bool.and_eq_false_iff, Bool.or_eq_false_iff, Bool.not_not, ne_eq, Int.not_lt, Int.not_le, Decidable.not_not, beq_iff_eq, bne_iff_ne] at hg69
                  refine wl (wl_skip hl rfl ⟨_, _, rfl, rfl, rfl⟩ ?_)
                  clear hl a; intro a hl
                  refine wl (wl_skip hl rfl ⟨_, _, rfl, rfl, rfl⟩ ?_)
                  clear hl a; intro a hl
                  refine wl (wl_val hl rfl trivial (r_pickF hl rfl rfl) ?_)
                  clear hl a; intro a hl
                  refine w_nil ?_
                  have hl2 := hl.add (t := 3) (hl.add (t := 17) (hl.add (t := 18) (hl.add (t := 19) (hl.add (t := 145) (hl.nil) rfl) rfl) rfl) rfl) rfl; clear hl; have hl := hl2; clear hl2
                  refine then_normal ?_
                  refine c_condF hl rfl ?_
                  refine wp_skip ?_
                  refine blk_normal ?_
                  refine then_normal ?_
                  refine c_region ?_
                  first | refine wl (wl_val hl rfl trivial (r_add hl rfl rfl (by simp only [Fits]; omega)) ?_) | refine wl (wl_val hl rfl trivial (r_addW hl rfl rfl) ?_)
                  clear hl a; intro a hl
                  refine wl (wl_val hl rfl trivial (r_move hl rfl) ?_)
                  clear hl a; intro a hl
                  refine w_nil ?_
                  have hl2 := hl.add (t := 3) (hl.add (t := 17) (hl.add (t := 18) (hl.add (t := 19) (hl.nil) rfl) rfl) rfl) rfl; clear hl; have hl := hl2; clear hl2
                  refine then_normal ?_
                  refine ⟨⟨g2, M2, z.i + 1⟩, (by simp only; omega), ⟨by simp only; omega, hS2, hG3⟩, hl.addE (t := 19) (hl.addE (t := 3) (hl.addE (t := 17) (hl.addE (t := 18) (hl.nil) rfl (by first | rfl | (congr 1; omega))) rfl (by first | rfl | (congr 1; omega))) rfl (by first | rfl | (congr 1; omega))) rfl (by first | rfl | (congr 1; omega)), hh.keep (by repeat (first | exact keeps_nil | apply keeps_cons (by repeat (first | exact find_head | apply find_tail | apply find_skip)) (by first  | rfl) | exact keeps_self | exact keeps_left | apply keeps_app | apply keeps_mv | apply keeps_skip))⟩
            · intro hg68; clear hl; intro hl
              try simp only [decide_eq_true_eq, decide_eq_false_iff_not, Bool.not_eq_true', Bool.not_eq_false', Bool.not_eq_true, Bool.not_eq_false, Bool.and_eq_true, Bool.or_eq_true, Bool.and_eq_false_iff, Bool.or_eq_false_iff, Bool.not_not, ne_eq, Int.not_lt, Int.not_le, Decidable.not_not, beq_iff_eq, bne_iff_ne] at hg68
              refine wl (wl_skip hl rfl ⟨_, _, rfl, rfl, rfl⟩ ?_)
              clear hl a; intro a hl
              refine wl (wl_skip hl rfl ⟨_, _, rfl, rfl, rfl⟩ ?_)
              clear hl a; intro a hl
              refine wl (wl_val hl rfl ⟨_, _, rfl, rfl, rfl⟩ (r_pickF hl rfl rfl) ?_)
              clear hl a; intro a hl
              refine wl (wl_val hl rfl trivial (r_pickF hl rfl rfl) ?_)
              clear hl a; intro a hl
              refine w_nil ?_
              have hl2 := hl.add (t := 3) (hl.add (t := 6) (hl.add (t := 9) (hl.add (t := 17) (hl.add (t := 18) (hl.add (t := 19) (hl.add (t := 135) (hl.nil) rfl) rfl) rfl) rfl) rfl) rfl) rfl; clear hl; have hl := hl2; clear hl2
              refine then_normal ?_
              refine c_condF hl rfl ?_
              refine wp_skip ?_
              refine then_normal ?_
              refine c_seq ?_
              refine c_region ?_
              refine wl (wl_val hl rfl trivial (r_move hl rfl) ?_)
              clear hl a; intro a hl
              refine wl (w_call hl hh rfl trivial rfl cal28 rfl (snap_spec hS9 bc (40 * ((z.i + 1 : Nat) : Int) + 1) (400 * ((z.i + 1 : Nat) : Int) + 4) ⟨by omega, by omega⟩ hG9) (by repeat (first | exact keeps_nil | apply keeps_cons (by repeat (first | exact find_head | apply find_tail | apply find_skip)) (by first  | rfl) | exact keeps_self | exact keeps_left | apply keeps_app | apply keeps_mv | apply keeps_skip)) (memK (E := sysL bc M9) hh (by repeat (first | exact keeps_nil | apply keeps_cons (by repeat (first | exact find_head | apply find_tail | apply find_skip)) (by first  | rfl) | exact keeps_self | exact keeps_left | apply keeps_app | apply keeps_mv | apply keeps_skip))) ?_)
              clear hl hh a w; intro vc Fc a w hR hl hh
              obtain ⟨ev9, bv9, Ee9, Eb9, rfl, hSn9, rfl⟩ := hR
              try simp only [List.cons_append, List.nil_append, List.append_assoc, List.append_nil] at hh
              refine wl (wl_val hl rfl trivial (r_move hl rfl) ?_)
              clear hl a; intro a hl
              refine wl (w_call hl hh rfl trivial rfl cal28 rfl (snap_spec hS2 bg (40 * ((z.i + 1 : Nat) : Int)) (400 * ((z.i + 1 : Nat) : Int)) ⟨by omega, by omega⟩ hG3) (by repeat (first | exact keeps_nil | apply keeps_cons (by repeat (first | exact find_head | apply find_tail | apply find_skip)) (by first  | rfl) | exact keeps_self | exact keeps_left | apply keeps_app | apply keeps_mv | apply keeps_skip)) (memK (E := sysL bg M2) hh (by repeat (first | exact keeps_nil | apply keeps_cons (by repeat (first | exact find_head | apply find_tail | apply find_skip)) (by first  | rfl) | exact keeps_self | exact keeps_left | apply keeps_app | apply keeps_mv | apply keeps_skip))) ?_)
              clear hl hh a w; intro vc Fc a w hR hl hh
              obtain ⟨ev2, bv2, Ee2, Eb2, rfl, hSn2, rfl⟩ := hR
              try simp only [List.cons_append, List.nil_append, List.append_assoc, List.append_nil] at hh
              refine wl (w_alloc hl hh rfl trivial zero75 rfl ?_)
              clear hl hh a w; intro k10 a w hl hh
              refine wl (w_alloc hl hh rfl trivial zero75 rfl ?_)
              clear hl hh a w; intro k11 a w hl hh
              refine wl (w_storeA hl hh trivial agg75 rfl rfl (by repeat (first | exact find_head | apply find_tail | apply find_skip)) (by exact snC_len _ _ _) (by first | exact Nat.le_of_eq (arrL_length _ _).symm | (rw [snC_len]; exact Nat.le_refl _)) (by first | exact snC_one hSn9 | exact snC_one hSn2) (by exact setL_whole (by first | rw [snC_len, arrL_length] | rw [snC_len, snC_len])) ?_)
              clear hh w; intro w hh
              refine wl (w_storeA hl hh trivial agg75 rfl rfl (by repeat (first | exact find_head | apply find_tail | apply find_skip)) (by exact snC_len _ _ _) (by first | exact Nat.le_of_eq (arrL_length _ _).symm | (rw [snC_len]; exact Nat.le_refl _)) (by first | exact snC_one hSn9 | exact snC_one hSn2) (by exact setL_whole (by first | rw [snC_len, arrL_length] | rw [snC_len, snC_len])) ?_)
              clear hh w; intro w hh
              refine w_nil ?_
              have hl2 := hl.add (t := 3) (hl.add (t := 9) (hl.add (t := 10) (hl.add (t := 11) (hl.add (t := 17) (hl.add (t := 18) (hl.add (t := 19) (hl.nil) rfl) rfl) rfl) rfl) rfl) rfl) rfl; clear hl; have hl := hl2; clear hl2
              refine then_normal ?_
              refine c_seq ?_
              refine c_region ?_
              refine wl (wl_val hl rfl trivial (r_move hl rfl) ?_)
              clear hl a; intro a hl
              refine wl (wl_val hl rfl trivial (r_not hl rfl) ?_)
              clear hl a; intro a hl
              refine wl (wl_val hl rfl trivial (r_move hl rfl) ?_)
              clear hl a; intro a hl
              refine sl_split (t := 142) hl rfl ?_ ?_
              · intro hg70; clear hl; intro hl
                try simp only [decide_eq_true_eq, decide_eq_false_iff_not, Bool.not_eq_true', Bool.not_eq_false', Bool.not_eq_true, Bool.not_eq_false, Bool.and_eq_true, Bool.or_eq_true, Bool.and_eq_false_iff, Bool.or_eq_false_iff, Bool.not_not, ne_eq, Int.not_lt, Int.not_le, Decidable.not_not, beq_iff_eq, bne_iff_ne] at hg70
                refine wl (w_call hl hh rfl ⟨_, _, rfl, rfl, rfl⟩ rfl cal29 rfl (eqState_spec (g := g2) (B := 40 * ((z.i + 1 : Nat) : Int)) (Q := 400 * ((z.i + 1 : Nat) : Int)) ⟨by omega, by omega⟩ hG3 k10 k11 ev9 bv9 ev2 bv2 Ee9 Eb9 Ee2 Eb2 ((hF9 (by simpa using by assumption)).1 ▸ hSn9) hSn2) (by repeat (first | exact keeps_nil | apply keeps_cons (by repeat (first | exact find_head | apply find_tail | apply find_skip)) (by first  | rfl) | exact keeps_self | exact keeps_left | apply keeps_app | apply keeps_mv | apply keeps_skip)) ⟨(hF9 (by simpa using by assumption)).1 ▸ (memK (E := snL k10 g9 ev9 bv9 Ee9 Eb9) hh (by repeat (first | exact keeps_nil | apply keeps_cons (by repeat (first | exact find_head | apply find_tail | apply find_skip)) (by first  | rfl) | exact keeps_self | exact keeps_left | apply keeps_app | apply keeps_mv | apply keeps_skip))), memK (E := snL k11 g2 ev2 bv2 Ee2 Eb2) hh (by repeat (first | exact keeps_nil | apply keeps_cons (by repeat (first | exact find_head | apply find_tail | apply find_skip)) (by first  | rfl) | exact keeps_self | exact keeps_left | apply keeps_app | apply keeps_mv | apply keeps_skip))⟩ ?_)
                clear hl hh a w; intro vc Fc a w hR hl hh
                obtain ⟨rfl, rfl⟩ := hR
                try simp only [List.cons_append, List.nil_append, List.append_assoc, List.append_nil] at hh
                refine wl (wl_val hl rfl ⟨_, _, rfl, rfl, rfl⟩ (r_not hl rfl) ?_)
                clear hl a; intro a hl
                refine wl (wl_val hl rfl trivial (r_pickT hl rfl rfl) ?_)
                clear hl a; intro a hl
                refine w_nil ?_
                have hl2 := hl.add (t := 3) (hl.add (t := 17) (hl.add (t := 18) (hl.add (t := 19) (hl.add (t := 145) (hl.nil) rfl) rfl) rfl) rfl) rfl; clear hl; have hl := hl2; clear hl2
                refine then_normal ?_
                refine c_cond hl rfl ?_ ?_
                · intro hc3
                  try simp only [decide_eq_true_eq, decide_eq_false_iff_not, Bool.not_eq_true', Bool.not_eq_false', Bool.not_eq_true, Bool.not_eq_false, Bool.and_eq_true, Bool.or_eq_true, Bool.and_eq_false_iff, Bool.or_eq_false_iff, Bool.not_not, ne_eq, Int.not_lt, Int.not_le, Decidable.not_not, beq_iff_eq, bne_iff_ne] at hc3
                  exfalso; first | contradiction | exact abs10a (by assumption) hT9 (fun h => (hF9 h).2) | exact absurd (hF9 (by simpa using by assumption)).2 (by assumption)
                · intro hc3
                  try simp only [decide_eq_true_eq, decide_eq_false_iff_not, Bool.not_eq_true', Bool.not_eq_false', Bool.not_eq_true, Bool.not_eq_false, Bool.and_eq_true, Bool.or_eq_true, Bool.and_eq_false_iff, Bool.or_eq_false_iff, Bool.not_not, ne_eq, Int.not_lt, Int.not_le, Decidable.not_not, beq_iff_eq, bne_iff_ne] at hc3
                  refine wp_skip ?_
                  refine blk_normal ?_
                  refine then_normal ?_
                  refine c_region ?_
                  first | refine wl (wl_val hl rfl trivial (r_add hl rfl rfl (by simp only [Fits]; omega)) ?_) | refine wl (wl_val hl rfl trivial (r_addW hl rfl rfl) ?_)
                  clear hl a; intro a hl
                  refine wl (wl_val hl rfl trivial (r_move hl rfl) ?_)
                  clear hl a; intro a hl
                  refine w_nil ?_
                  have hl2 := hl.add (t := 3) (hl.add (t := 17) (hl.add (t := 18) (hl.add (t := 19) (hl.nil) rfl) rfl) rfl) rfl; clear hl; have hl := hl2; clear hl2
                  refine then_normal ?_
                  refine ⟨⟨g2, M2, z.i + 1⟩, (by simp only; omega), ⟨by simp only; omega, hS2, hG3⟩, hl.addE (t := 19) (hl.addE (t := 3) (hl.addE (t := 17) (hl.addE (t := 18) (hl.nil) rfl (by first | rfl | (congr 1; omega))) rfl (by first | rfl | (congr 1; omega))) rfl (by first | rfl | (congr 1; omega))) rfl (by first | rfl | (congr 1; omega)), hh.keep (by repeat (first | exact keeps_nil | apply keeps_cons (by repeat (first | exact find_head | apply find_tail | apply find_skip)) (by first  | rfl) | exact keeps_self | exact keeps_left | apply keeps_app | apply keeps_mv | apply keeps_skip))⟩
              · intro hg70; clear hl; intro hl
                try simp only [decide_eq_true_eq, decide_eq_false_iff_not, Bool.not_eq_true', Bool.not_eq_false', Bool.not_eq_true, Bool.not_eq_false, Bool.and_eq_true, Bool.or_eq_true, Bool.and_eq_false_iff, Bool.or_eq_false_iff, Bool.not_not, ne_eq, Int.not_lt, Int.not_le, Decidable.not_not, beq_iff_eq, bne_iff_ne] at hg70
                refine wl (wl_skip hl rfl ⟨_, _, rfl, rfl, rfl⟩ ?_)
                clear hl a; intro a hl
                refine wl (wl_skip hl rfl ⟨_, _, rfl, rfl, rfl⟩ ?_)
                clear hl a; intro a hl
                refine wl (wl_val hl rfl trivial (r_pickF hl rfl rfl) ?_)
                clear hl a; intro a hl
                refine w_nil ?_
                have hl2 := hl.add (t := 3) (hl.add (t := 17) (hl.add (t := 18) (hl.add (t := 19) (hl.add (t := 145) (hl.nil) rfl) rfl) rfl) rfl) rfl; clear hl; have hl := hl2; clear hl2
                refine then_normal ?_
                refine c_condF hl rfl ?_
                refine wp_skip ?_
                refine blk_normal ?_
                refine then_normal ?_
                refine c_region ?_
                first | refine wl (wl_val hl rfl trivial (r_add hl rfl rfl (by simp only [Fits]; omega)) ?_) | refine wl (wl_val hl rfl trivial (r_addW hl rfl rfl) ?_)
                clear hl a; intro a hl
                refine wl (wl_val hl rfl trivial (r_move hl rfl) ?_)
                clear hl a; intro a hl
                refine w_nil ?_
                have hl2 := hl.add (t := 3) (hl.add (t := 17) (hl.add (t := 18) (hl.add (t := 19) (hl.nil) rfl) rfl) rfl) rfl; clear hl; have hl := hl2; clear hl2
                refine then_normal ?_
                refine ⟨⟨g2, M2, z.i + 1⟩, (by simp only; omega), ⟨by simp only; omega, hS2, hG3⟩, hl.addE (t := 19) (hl.addE (t := 3) (hl.addE (t := 17) (hl.addE (t := 18) (hl.nil) rfl (by first | rfl | (congr 1; omega))) rfl (by first | rfl | (congr 1; omega))) rfl (by first | rfl | (congr 1; omega))) rfl (by first | rfl | (congr 1; omega)), hh.keep (by repeat (first | exact keeps_nil | apply keeps_cons (by repeat (first | exact find_head | apply find_tail | apply find_skip)) (by first  | rfl) | exact keeps_self | exact keeps_left | apply keeps_app | apply keeps_mv | apply keeps_skip))⟩
      · intro hg1; clear hl; intro hl
        try simp only [decide_eq_true_eq, decide_eq_false_iff_not, Bool.not_eq_true', Bool.not_eq_false', Bool.not_eq_true, Bool.not_eq_false, Bool.and_eq_true, Bool.or_eq_true, Bool.and_eq_false_iff, Bool.or_eq_false_iff, Bool.not_not, ne_eq, Int.not_lt, Int.not_le, Decidable.not_not, beq_iff_eq, bne_iff_ne] at hg1
        refine wl (wl_skip hl rfl ⟨_, _, rfl, rfl, rfl⟩ ?_)
        clear hl a; intro a hl
        refine wl (wl_skip hl rfl ⟨_, _, rfl, rfl, rfl⟩ ?_)
        clear hl a; intro a hl
        refine wl (wl_skip hl rfl ⟨_, _, rfl, rfl, rfl⟩ ?_)
        clear hl a; intro a hl
        refine wl (wl_val hl rfl trivial (r_pickF hl rfl rfl) ?_)
        clear hl a; intro a hl
        refine wl (wl_val hl rfl trivial (r_move hl rfl) ?_)
        clear hl a; intro a hl
        refine wl (wl_skip hl rfl ⟨_, _, rfl, rfl, rfl⟩ ?_)
        clear hl a; intro a hl
        refine wl (wl_skip hl rfl ⟨_, _, rfl, rfl, rfl⟩ ?_)
        clear hl a; intro a hl
        refine wl (wl_skip hl rfl ⟨_, _, rfl, rfl, rfl⟩ ?_)
        clear hl a; intro a hl
        refine wl (wl_val hl rfl trivial (r_pickF hl rfl rfl) ?_)
        clear hl a; intro a hl
        refine wl (wl_val hl rfl trivial (r_move hl rfl) ?_)
        clear hl a; intro a hl
        refine wl (wl_skip hl rfl ⟨_, _, rfl, rfl, rfl⟩ ?_)
        clear hl a; intro a hl
        refine wl (wl_skip hl rfl ⟨_, _, rfl, rfl, rfl⟩ ?_)
        clear hl a; intro a hl
        refine wl (wl_skip hl rfl ⟨_, _, rfl, rfl, rfl⟩ ?_)
        clear hl a; intro a hl
        refine wl (wl_val hl rfl trivial (r_pickF hl rfl rfl) ?_)
        clear hl a; intro a hl
        refine wl (wl_val hl rfl trivial (r_move hl rfl) ?_)
        clear hl a; intro a hl
        refine wl (wl_skip hl rfl ⟨_, _, rfl, rfl, rfl⟩ ?_)
        clear hl a; intro a hl
        refine wl (wl_skip hl rfl ⟨_, _, rfl, rfl, rfl⟩ ?_)
        clear hl a; intro a hl
        refine wl (wl_skip hl rfl ⟨_, _, rfl, rfl, rfl⟩ ?_)
        clear hl a; intro a hl
        refine wl (wl_skip hl rfl ⟨_, _, rfl, rfl, rfl⟩ ?_)
        clear hl a; intro a hl
        refine wl (wl_skip hl rfl ⟨_, _, rfl, rfl, rfl⟩ ?_)
        clear hl a; intro a hl
        refine wl (wl_skip hl rfl ⟨_, _, rfl, rfl, rfl⟩ ?_)
        clear hl a; intro a hl
        refine wl (wl_val hl rfl trivial (r_pickF hl rfl rfl) ?_)
        clear hl a; intro a hl
        refine wl (wl_val hl rfl trivial (r_move hl rfl) ?_)
        clear hl a; intro a hl
        refine wl (wl_skip hl rfl ⟨_, _, rfl, rfl, rfl⟩ ?_)
        clear hl a; intro a hl
        refine wl (wl_skip hl rfl ⟨_, _, rfl, rfl, rfl⟩ ?_)
        clear hl a; intro a hl
        refine wl (wl_skip hl rfl ⟨_, _, rfl, rfl, rfl⟩ ?_)
        clear hl a; intro a hl
        refine wl (wl_val hl rfl trivial (r_pickF hl rfl rfl) ?_)
        clear hl a; intro a hl
        refine wl (wl_val hl rfl trivial (r_move hl rfl) ?_)
        clear hl a; intro a hl
        refine wl (wl_skip hl rfl ⟨_, _, rfl, rfl, rfl⟩ ?_)
        clear hl a; intro a hl
        refine wl (wl_skip hl rfl ⟨_, _, rfl, rfl, rfl⟩ ?_)
        clear hl a; intro a hl
        refine wl (wl_skip hl rfl ⟨_, _, rfl, rfl, rfl⟩ ?_)
        clear hl a; intro a hl
        refine wl (wl_val hl rfl trivial (r_pickF hl rfl rfl) ?_)
        clear hl a; intro a hl
        refine wl (wl_val hl rfl trivial (r_move hl rfl) ?_)
        clear hl a; intro a hl
        refine wl (wl_skip hl rfl ⟨_, _, rfl, rfl, rfl⟩ ?_)
        clear hl a; intro a hl
        refine wl (wl_skip hl rfl ⟨_, _, rfl, rfl, rfl⟩ ?_)
        clear hl a; intro a hl
        refine wl (wl_skip hl rfl ⟨_, _, rfl, rfl, rfl⟩ ?_)
        clear hl a; intro a hl
        refine wl (wl_skip hl rfl ⟨_, _, rfl, rfl, rfl⟩ ?_)
        clear hl a; intro a hl
        refine wl (wl_skip hl rfl ⟨_, _, rfl, rfl, rfl⟩ ?_)
        clear hl a; intro a hl
        refine wl (wl_skip hl rfl ⟨_, _, rfl, rfl, rfl⟩ ?_)
        clear hl a; intro a hl
        refine wl (wl_skip hl rfl ⟨_, _, rfl, rfl, rfl⟩ ?_)
        clear hl a; intro a hl
        refine wl (wl_skip hl rfl ⟨_, _, rfl, rfl, rfl⟩ ?_)
        clear hl a; intro a hl
        refine wl (wl_val hl rfl trivial (r_pickF hl rfl rfl) ?_)
        clear hl a; intro a hl
        refine wl (wl_val hl rfl trivial (r_move hl rfl) ?_)
        clear hl a; intro a hl
        refine wl (wl_skip hl rfl ⟨_, _, rfl, rfl, rfl⟩ ?_)
        clear hl a; intro a hl
        refine wl (wl_skip hl rfl ⟨_, _, rfl, rfl, rfl⟩ ?_)
        clear hl a; intro a hl
        refine wl (wl_skip hl rfl ⟨_, _, rfl, rfl, rfl⟩ ?_)
        clear hl a; intro a hl
        refine wl (wl_skip hl rfl ⟨_, _, rfl, rfl, rfl⟩ ?_)
        clear hl a; intro a hl
        refine wl (wl_skipU hl rfl ⟨_, _, rfl, rfl, rfl⟩ ?_)
        clear hl a; intro a hl
        refine wl (wl_skipU hl rfl ⟨_, _, rfl, rfl, rfl⟩ ?_)
        clear hl a; intro a hl
        refine wl (wl_skipU hl rfl ⟨_, _, rfl, rfl, rfl⟩ ?_)
        clear hl a; intro a hl
        refine wl (wl_skip hl rfl ⟨_, _, rfl, rfl, rfl⟩ ?_)
        clear hl a; intro a hl
        refine wl (wl_skip hl rfl ⟨_, _, rfl, rfl, rfl⟩ ?_)
        clear hl a; intro a hl
        refine wl (wl_skipU hl rfl ⟨_, _, rfl, rfl, rfl⟩ ?_)
        clear hl a; intro a hl
        refine wl (wl_skipU hl rfl ⟨_, _, rfl, rfl, rfl⟩ ?_)
        clear hl a; intro a hl
        refine wl (wl_skipU hl rfl ⟨_, _, rfl, rfl, rfl⟩ ?_)
        clear hl a; intro a hl
        refine wl (wl_skipU hl rfl ⟨_, _, rfl, rfl, rfl⟩ ?_)
        clear hl a; intro a hl
        refine wl (wl_skipU hl rfl ⟨_, _, rfl, rfl, rfl⟩ ?_)
        clear hl a; intro a hl
        refine wl (wl_skipU hl rfl ⟨_, _, rfl, rfl, rfl⟩ ?_)
        clear hl a; intro a hl
        refine wl (wl_skipU hl rfl ⟨_, _, rfl, rfl, rfl⟩ ?_)
        clear hl a; intro a hl
        refine wl (wl_skipU hl rfl ⟨_, _, rfl, rfl, rfl⟩ ?_)
        clear hl a; intro a hl
        refine wl (wl_skipU hl rfl ⟨_, _, rfl, rfl, rfl⟩ ?_)
        clear hl a; intro a hl
        refine wl (wl_skipU hl rfl ⟨_, _, rfl, rfl, rfl⟩ ?_)
        clear hl a; intro a hl
        refine wl (wl_skipU hl rfl ⟨_, _, rfl, rfl, rfl⟩ ?_)
        clear hl a; intro a hl
        refine wl (wl_skipU hl rfl ⟨_, _, rfl, rfl, rfl⟩ ?_)
        clear hl a; intro a hl
        refine wl (wl_skipU hl rfl ⟨_, _, rfl, rfl, rfl⟩ ?_)
        clear hl a; intro a hl
        refine wl (wl_skip hl rfl ⟨_, _, rfl, rfl, rfl⟩ ?_)
        clear hl a; intro a hl
        refine wl (wl_val hl rfl trivial (r_pickF hl rfl rfl) ?_)
        clear hl a; intro a hl
        refine wl (wl_val hl rfl trivial (r_assign hl rfl) ?_)
        clear hl a; intro a hl
        refine w_nil ?_
        have hl2 := hl.add (t := 3) (hl.add (t := 6) (hl.add (t := 8) (hl.add (t := 9) (hl.add (t := 17) (hl.add (t := 18) (hl.add (t := 19) (hl.nil) rfl) rfl) rfl) rfl) rfl) rfl) rfl; clear hl; have hl := hl2; clear hl2
        have hl9 := hl.addE (t := 9) hl rfl (congrArg Value.bool (dec10b hok (by unfold S10; first | (simp only [true_iff, Bool.false_eq_true, false_iff]; omega) | (rw [decide_eq_true_eq]; omega))))
        rw [← hsd9] at hl9
        clear hl
        have hl := hl9
        clear hl9
        try clear hg1; try clear hg2
        refine then_normal ?_
        refine c_seq ?_
        refine c_seq ?_
        refine c_region ?_
        refine wl (wl_val hl rfl trivial (r_move hl rfl) ?_)
        clear hl a; intro a hl
        refine wl (wl_val hl rfl trivial (r_move hl rfl) ?_)
        clear hl a; intro a hl
        refine wl (wl_val hl rfl trivial (r_eql hl rfl rfl) ?_)
        clear hl a; intro a hl
        refine wl (wl_val hl rfl trivial (r_neq_bool hl rfl rfl Tryd.underlying4) ?_)
        clear hl a; intro a hl
        refine wl (wl_val hl rfl trivial (r_move hl rfl) ?_)
        clear hl a; intro a hl
        refine sl_split (t := 128) hl rfl ?_ ?_
        · intro hg71; clear hl; intro hl
          try simp only [decide_eq_true_eq, decide_eq_false_iff_not, Bool.not_eq_true', Bool.not_eq_false', Bool.not_eq_true, Bool.not_eq_false, Bool.and_eq_true, Bool.or_eq_true, Bool.and_eq_false_iff, Bool.or_eq_false_iff, Bool.not_not, ne_eq, Int.not_lt, Int.not_le, Decidable.not_not, beq_iff_eq, bne_iff_ne] at hg71
          exfalso; first | contradiction | exact abs10a (by assumption) hT9 (fun h => (hF9 h).2) | exact absurd (hF9 (by simpa using by assumption)).2 (by assumption)
        · intro hg71; clear hl; intro hl
          try simp only [decide_eq_true_eq, decide_eq_false_iff_not, Bool.not_eq_true', Bool.not_eq_false', Bool.not_eq_true, Bool.not_eq_false, Bool.and_eq_true, Bool.or_eq_true, Bool.and_eq_false_iff, Bool.or_eq_false_iff, Bool.not_not, ne_eq, Int.not_lt, Int.not_le, Decidable.not_not, beq_iff_eq, bne_iff_ne] at hg71
          refine wl (wl_val hl rfl ⟨_, _, rfl, rfl, rfl⟩ (r_move hl rfl) ?_)
          clear hl a; intro a hl
          refine wl (wl_val hl rfl ⟨_, _, rfl, rfl, rfl⟩ (r_not hl rfl) ?_)
          clear hl a; intro a hl
          refine wl (wl_val hl rfl ⟨_, _, rfl, rfl, rfl⟩ (r_move hl rfl) ?_)
          clear hl a; intro a hl
          refine sl_split (t := 131) hl rfl ?_ ?_
          · intro hg72; clear hl; intro hl
            try simp only [decide_eq_true_eq, decide_eq_false_iff_not, Bool.not_eq_true', Bool.not_eq_false', Bool.not_eq_true, Bool.not_eq_false, Bool.and_eq_true, Bool.or_eq_true, Bool.and_eq_false_iff, Bool.or_eq_false_iff, Bool.not_not, ne_eq, Int.not_lt, Int.not_le, Decidable.not_not, beq_iff_eq, bne_iff_ne] at hg72
            refine wl (wl_val hl rfl ⟨_, _, rfl, rfl, rfl⟩ (r_move hl rfl) ?_)
            clear hl a; intro a hl
            refine wl (wl_val hl rfl ⟨_, _, rfl, rfl, rfl⟩ (r_neq hl rfl rfl) ?_)
            clear hl a; intro a hl
            refine wl (wl_val hl rfl ⟨_, _, rfl, rfl, rfl⟩ (r_pickT hl rfl rfl) ?_)
            clear hl a; intro a hl
            refine wl (wl_val hl rfl trivial (r_pickF hl rfl rfl) ?_)
            clear hl a; intro a hl
            refine w_nil ?_
            have hl2 := hl.add (t := 3) (hl.add (t := 6) (hl.add (t := 9) (hl.add (t := 17) (hl.add (t := 18) (hl.add (t := 19) (hl.add (t := 135) (hl.nil) rfl) rfl) rfl) rfl) rfl) rfl) rfl; clear hl; have hl := hl2; clear hl2
            refine then_normal ?_
            refine c_cond hl rfl ?_ ?_
            · intro hc2
              try simp only [decide_eq_true_eq, decide_eq_false_iff_not, Bool.not_eq_true', Bool.not_eq_false', Bool.not_eq_true, Bool.not_eq_false, Bool.and_eq_true, Bool.or_eq_true, Bool.and_eq_false_iff, Bool.or_eq_false_iff, Bool.not_not, ne_eq, Int.not_lt, Int.not_le, Decidable.not_not, beq_iff_eq, bne_iff_ne] at hc2
              exfalso; first | contradiction | exact abs10a (by assumption) hT9 (fun h => (hF9 h).2) | exact absurd (hF9 (by simpa using by assumption)).2 (by assumption)
            · intro hc2
              try simp only [decide_eq_true_eq, decide_eq_false_iff_not, Bool.not_eq_true', Bool.not_eq_false', Bool.not_eq_true, Bool.not_eq_false, Bool.and_eq_true, Bool.or_eq_true, Bool.and_eq_false_iff, Bool.or_eq_false_iff, Bool.not_not, ne_eq, Int.not_lt, Int.not_le, Decidable.not_not, beq_iff_eq, bne_iff_ne] at hc2
              refine wp_skip ?_
              refine then_normal ?_
              refine c_seq ?_
              refine c_region ?_
              refine wl (wl_val hl rfl trivial (r_move hl rfl) ?_)
              clear hl a; intro a hl
              refine wl (w_call hl hh rfl trivial rfl cal28 rfl (snap_spec hS9 bc (40 * ((z.i + 1 : Nat) : Int) + 1) (400 * ((z.i + 1 : Nat) : Int) + 4) ⟨by omega, by omega⟩ hG9) (by repeat (first | exact keeps_nil | apply keeps_cons (by repeat (first | exact find_head | apply find_tail | apply find_skip)) (by first  | rfl) | exact keeps_self | exact keeps_left | apply keeps_app | apply keeps_mv | apply keeps_skip)) (memK (E := sysL bc M9) hh (by repeat (first | exact keeps_nil | apply keeps_cons (by repeat (first | exact find_head | apply find_tail | apply find_skip)) (by first  | rfl) | exact keeps_self | exact keeps_left | apply keeps_app | apply keeps_mv | apply keeps_skip))) ?_)
              clear hl hh a w; intro vc Fc a w hR hl hh
              obtain ⟨ev9, bv9, Ee9, Eb9, rfl, hSn9, rfl⟩ := hR
              try simp only [List.cons_append, List.nil_append, List.append_assoc, List.append_nil] at hh
              refine wl (wl_val hl rfl trivial (r_move hl rfl) ?_)
              clear hl a; intro a hl
              refine wl (w_call hl hh rfl trivial rfl cal28 rfl (snap_spec hS2 bg (40 * ((z.i + 1 : Nat) : Int)) (400 * ((z.i + 1 : Nat) : Int)) ⟨by omega, by omega⟩ hG3) (by repeat (first | exact keeps_nil | apply keeps_cons (by repeat (first | exact find_head | apply find_tail | apply find_skip)) (by first  | rfl) | exact keeps_self | exact keeps_left | apply keeps_app | apply keeps_mv | apply keeps_skip)) (memK (E := sysL bg M2) hh (by repeat (first | exact keeps_nil | apply keeps_cons (by repeat (first | exact find_head | apply find_tail | apply find_skip)) (by first  | rfl) | exact keeps_self | exact keeps_left | apply keeps_app | apply keeps_mv | apply keeps_skip))) ?_)
              clear hl hh a w; intro vc Fc a w hR hl hh
              obtain ⟨ev2, bv2, Ee2, Eb2, rfl, hSn2, rfl⟩ := hR
              try simp only [List.cons_append, List.nil_append, List.append_assoc, List.append_nil] at hh
              refine wl (w_alloc hl hh rfl trivial zero75 rfl ?_)
              clear hl hh a w; intro k10 a w hl hh
              refine wl (w_alloc hl hh rfl trivial zero75 rfl ?_)
              clear hl hh a w; intro k11 a w hl hh
              refine wl (w_storeA hl hh trivial agg75 rfl rfl (by repeat (first | exact find_head | apply find_tail | apply find_skip)) (by exact snC_len _ _ _) (by first | exact Nat.le_of_eq (arrL_length _ _).symm | (rw [snC_len]; exact Nat.le_refl _)) (by first | exact snC_one hSn9 | exact snC_one hSn2) (by exact setL_whole (by first | rw [snC_len, arrL_length] | rw [snC_len, snC_len])) ?_)
              clear hh w; intro w hh
              refine wl (w_storeA hl hh trivial agg75 rfl rfl (by repeat (first | exact find_head | apply find_tail | apply find_skip)) (by exact snC_len _ _ _) (by first | exact Nat.le_of_eq (arrL_length _ _).symm | (rw [snC_len]; exact Nat.le_refl _)) (by first | exact snC_one hSn9 | exact snC_one hSn2) (by exact setL_whole (by first | rw [snC_len, arrL_length] | rw [snC_len, snC_len])) ?_)
              clear hh w; intro w hh
              refine w_nil ?_
              have hl2 := hl.add (t := 3) (hl.add (t := 9) (hl.add (t := 10) (hl.add (t := 11) (hl.add (t := 17) (hl.add (t := 18) (hl.add (t := 19) (hl.nil) rfl) rfl) rfl) rfl) rfl) rfl) rfl; clear hl; have hl := hl2; clear hl2
              refine then_normal ?_
              refine c_seq ?_
              refine c_region ?_
              refine wl (wl_val hl rfl trivial (r_move hl rfl) ?_)
              clear hl a; intro a hl
              refine wl (wl_val hl rfl trivial (r_not hl rfl) ?_)
              clear hl a; intro a hl
              refine wl (wl_val hl rfl trivial (r_move hl rfl) ?_)
              clear hl a; intro a hl
              refine sl_split (t := 142) hl rfl ?_ ?_
              · intro hg73; clear hl; intro hl
                try simp only [decide_eq_true_eq, decide_eq_false_iff_not, Bool.not_eq_true', Bool.not_eq_false', Bool.not_eq_true, Bool.not_eq_false, Bool.and_eq_true, Bool.or_eq_true, Bool.and_eq_false_iff, Bool.or_eq_false_iff, Bool.not_not, ne_eq, Int.not_lt, Int.not_le, Decidable.not_not, beq_iff_eq, bne_iff_ne] at hg73
                refine wl (w_call hl hh rfl ⟨_, _, rfl, rfl, rfl⟩ rfl cal29 rfl (eqState_spec (g := g2) (B := 40 * ((z.i + 1 : Nat) : Int)) (Q := 400 * ((z.i + 1 : Nat) : Int)) ⟨by omega, by omega⟩ hG3 k10 k11 ev9 bv9 ev2 bv2 Ee9 Eb9 Ee2 Eb2 ((hF9 (by simpa using by assumption)).1 ▸ hSn9) hSn2) (by repeat (first | exact keeps_nil | apply keeps_cons (by repeat (first | exact find_head | apply find_tail | apply find_skip)) (by first  | rfl) | exact keeps_self | exact keeps_left | apply keeps_app | apply keeps_mv | apply keeps_skip)) ⟨(hF9 (by simpa using by assumption)).1 ▸ (memK (E := snL k10 g9 ev9 bv9 Ee9 Eb9) hh (by repeat (first | exact keeps_nil | apply keeps_cons (by repeat (first | exact find_head | apply find_tail | apply find_skip)) (by first  | rfl) | exact keeps_self | exact keeps_left | apply keeps_app | apply keeps_mv | apply keeps_skip))), memK (E := snL k11 g2 ev2 bv2 Ee2 Eb2) hh (by repeat (first | exact keeps_nil | apply keeps_cons (by repeat (first | exact find_head | apply find_tail | apply find_skip)) (by first  | rfl) | exact keeps_self | exact keeps_left | apply keeps_app | apply keeps_mv | apply keeps_skip))⟩ ?_)
                clear hl hh a w; intro vc Fc a w hR hl hh
                obtain ⟨rfl, rfl⟩ := hR
                try simp only [List.cons_append, List.nil_append, List.append_assoc, List.append_nil] at hh
                refine wl (wl_val hl rfl ⟨_, _, rfl, rfl, rfl⟩ (r_not hl rfl) ?_)
                clear hl a; intro a hl
                refine wl (wl_val hl rfl trivial (r_pickT hl rfl rfl) ?_)
                clear hl a; intro a hl
                refine w_nil ?_
                have hl2 := hl.add (t := 3) (hl.add (t := 17) (hl.add (t := 18) (hl.add (t := 19) (hl.add (t := 145) (hl.nil) rfl) rfl) rfl) rfl) rfl; clear hl; have hl := hl2; clear hl2
                refine then_normal ?_
                refine c_cond hl rfl ?_ ?_
                · intro hc3
                  try simp only [decide_eq_true_eq, decide_eq_false_iff_not, Bool.not_eq_true', Bool.not_eq_false', Bool.not_eq_true, Bool.not_eq_false, Bool.and_eq_true, Bool.or_eq_true, Bool.and_eq_false_iff, Bool.or_eq_false_iff, Bool.not_not, ne_eq, Int.not_lt, Int.not_le, Decidable.not_not, beq_iff_eq, bne_iff_ne] at hc3
                  exfalso; first | contradiction | exact abs10a (by assumption) hT9 (fun h => (hF9 h).2) | exact absurd (hF9 (by simpa using by assumption)).2 (by assumption)
                · intro hc3
                  try simp only [decide_eq_true_eq, decide_eq_false_iff_not, Bool.not_eq_true', Bool.not_eq_false', Bool.not_eq_true, Bool.not_eq_false, Bool.and_eq_true, Bool.or_eq_true, Bool.and_eq_false_iff, Bool.or_eq_false_iff, Bool.not_not, ne_eq, Int.not_lt, Int.not_le, Decidable.not_not, beq_iff_eq, bne_iff_ne] at hc3
                  refine wp_skip ?_
                  refine blk_normal ?_
                  refine then_normal ?_
                  refine c_region ?_
                  first | refine wl (wl_val hl rfl trivial (r_add hl rfl rfl (by simp only [Fits]; omega)) ?_) | refine wl (wl_val hl rfl trivial (r_addW hl rfl rfl) ?_)
                  clear hl a; intro a hl
                  refine wl (wl_val hl rfl trivial (r_move hl rfl) ?_)
                  clear hl a; intro a hl
                  refine w_nil ?_
                  have hl2 := hl.add (t := 3) (hl.add (t := 17) (hl.add (t := 18) (hl.add (t := 19) (hl.nil) rfl) rfl) rfl) rfl; clear hl; have hl := hl2; clear hl2
                  refine then_normal ?_
                  refine ⟨⟨g2, M2, z.i + 1⟩, (by simp only; omega), ⟨by simp only; omega, hS2, hG3⟩, hl.addE (t := 19) (hl.addE (t := 3) (hl.addE (t := 17) (hl.addE (t := 18) (hl.nil) rfl (by first | rfl | (congr 1; omega))) rfl (by first | rfl | (congr 1; omega))) rfl (by first | rfl | (congr 1; omega))) rfl (by first | rfl | (congr 1; omega)), hh.keep (by repeat (first | exact keeps_nil | apply keeps_cons (by repeat (first | exact find_head | apply find_tail | apply find_skip)) (by first  | rfl) | exact keeps_self | exact keeps_left | apply keeps_app | apply keeps_mv | apply keeps_skip))⟩
              · intro hg73; clear hl; intro hl
                try simp only [decide_eq_true_eq, decide_eq_false_iff_not, Bool.not_eq_true', Bool.not_eq_false', Bool.not_eq_true, Bool.not_eq_false, Bool.and_eq_true, Bool.or_eq_true, Bool.and_eq_false_iff, Bool.or_eq_false_iff, Bool.not_not, ne_eq, Int.not_lt, Int.not_le, Decidable.not_not, beq_iff_eq, bne_iff_ne] at hg73
                refine wl (wl_skip hl rfl ⟨_, _, rfl, rfl, rfl⟩ ?_)
                clear hl a; intro a hl
                refine wl (wl_skip hl rfl ⟨_, _, rfl, rfl, rfl⟩ ?_)
                clear hl a; intro a hl
                refine wl (wl_val hl rfl trivial (r_pickF hl rfl rfl) ?_)
                clear hl a; intro a hl
                refine w_nil ?_
                have hl2 := hl.add (t := 3) (hl.add (t := 17) (hl.add (t := 18) (hl.add (t := 19) (hl.add (t := 145) (hl.nil) rfl) rfl) rfl) rfl) rfl; clear hl; have hl := hl2; clear hl2
                refine then_normal ?_
                refine c_condF hl rfl ?_
                refine wp_skip ?_
                refine blk_normal ?_
                refine then_normal ?_
                refine c_region ?_
                first | refine wl (wl_val hl rfl trivial (r_add hl rfl rfl (by simp only [Fits]; omega)) ?_) | refine wl (wl_val hl rfl trivial (r_addW hl rfl rfl) ?_)
                clear hl a; intro a hl
                refine wl (wl_val hl rfl trivial (r_move hl rfl) ?_)
                clear hl a; intro a hl
                refine w_nil ?_
                have hl2 := hl.add (t := 3) (hl.add (t := 17) (hl.add (t := 18) (hl.add (t := 19) (hl.nil) rfl) rfl) rfl) rfl; clear hl; have hl := hl2; clear hl2
                refine then_normal ?_
                refine ⟨⟨g2, M2, z.i + 1⟩, (by simp only; omega), ⟨by simp only; omega, hS2, hG3⟩, hl.addE (t := 19) (hl.addE (t := 3) (hl.addE (t := 17) (hl.addE (t := 18) (hl.nil) rfl (by first | rfl | (congr 1; omega))) rfl (by first | rfl | (congr 1; omega))) rfl (by first | rfl | (congr 1; omega))) rfl (by first | rfl | (congr 1; omega)), hh.keep (by repeat (first | exact keeps_nil | apply keeps_cons (by repeat (first | exact find_head | apply find_tail | apply find_skip)) (by first  | rfl) | exact keeps_self | exact keeps_left | apply keeps_app | apply keeps_mv | apply keeps_skip))⟩
          · intro hg72; clear hl; intro hl
            try simp only [decide_eq_true_eq, decide_eq_false_iff_not, Bool.not_eq_true', Bool.not_eq_false', Bool.not_eq_true, Bool.not_eq_false, Bool.and_eq_true, Bool.or_eq_true, Bool.and_eq_false_iff, Bool.or_eq_false_iff, Bool.not_not, ne_eq, Int.not_lt, Int.not_le, Decidable.not_not, beq_iff_eq, bne_iff_ne] at hg72
            refine wl (wl_skip hl rfl ⟨_, _, rfl, rfl, rfl⟩ ?_)
            clear hl a; intro a hl
            refine wl (wl_skip hl rfl ⟨_, _, rfl, rfl, rfl⟩ ?_)
            clear hl a; intro a hl
            refine wl (wl_val hl rfl ⟨_, _, rfl, rfl, rfl⟩ (r_pickF hl rfl rfl) ?_)
            clear hl a; intro a hl
            refine wl (wl_val hl rfl trivial (r_pickF hl rfl rfl) ?_)
            clear hl a; intro a hl
            refine w_nil ?_
            have hl2 := hl.add (t := 3) (hl.add (t := 6) (hl.add (t := 9) (hl.add (t := 17) (hl.add (t := 18) (hl.add (t := 19) (hl.add (t := 135) (hl.nil) rfl) rfl) rfl) rfl) rfl) rfl) rfl; clear hl; have hl := hl2; clear hl2
            refine then_normal ?_
            refine c_condF hl rfl ?_
            refine wp_skip ?_
            refine then_normal ?_
            refine c_seq ?_
            refine c_region ?_
            refine wl (wl_val hl rfl trivial (r_move hl rfl) ?_)
            clear hl a; intro a hl
            refine wl (w_call hl hh rfl trivial rfl cal28 rfl (snap_spec hS9 bc (40 * ((z.i + 1 : Nat) : Int) + 1) (400 * ((z.i + 1 : Nat) : Int) + 4) ⟨by omega, by omega⟩ hG9) (by repeat (first | exact keeps_nil | apply keeps_cons (by repeat (first | exact find_head | apply find_tail | apply find_skip)) (by first  | rfl) | exact keeps_self | exact keeps_left | apply keeps_app | apply keeps_mv | apply keeps_skip)) (memK (E := sysL bc M9) hh (by repeat (first | exact keeps_nil | apply keeps_cons (by repeat (first | exact find_head | apply find_tail | apply find_skip)) (by first  | rfl) | exact keeps_self | exact keeps_left | apply keeps_app | apply keeps_mv | apply keeps_skip))) ?_)
            clear hl hh a w; intro vc Fc a w hR hl hh
            obtain ⟨ev9, bv9, Ee9, Eb9, rfl, hSn9, rfl⟩ := hR
            try simp only [List.cons_append, List.nil_append, List.append_assoc, List.append_nil] at hh
            refine wl (wl_val hl rfl trivial (r_move hl rfl) ?_)
            clear hl a; intro a hl
            refine wl (w_call hl hh rfl trivial rfl cal28 rfl (snap_spec hS2 bg (40 * ((z.i + 1 : Nat) : Int)) (400 * ((z.i + 1 : Nat) : Int)) ⟨by omega, by omega⟩ hG3) (by repeat (first | exact keeps_nil | apply keeps_cons (by repeat (first | exact find_head | apply find_tail | apply find_skip)) (by first  | rfl) | exact keeps_self | exact keeps_left | apply keeps_app | apply keeps_mv | apply keeps_skip)) (memK (E := sysL bg M2) hh (by repeat (first | exact keeps_nil | apply keeps_cons (by repeat (first | exact find_head | apply find_tail | apply find_skip)) (by first  | rfl) | exact keeps_self | exact keeps_left | apply keeps_app | apply keeps_mv | apply keeps_skip))) ?_)
            clear hl hh a w; intro vc Fc a w hR hl hh
            obtain ⟨ev2, bv2, Ee2, Eb2, rfl, hSn2, rfl⟩ := hR
            try simp only [List.cons_append, List.nil_append, List.append_assoc, List.append_nil] at hh
            refine wl (w_alloc hl hh rfl trivial zero75 rfl ?_)
            clear hl hh a w; intro k10 a w hl hh
            refine wl (w_alloc hl hh rfl trivial zero75 rfl ?_)
            clear hl hh a w; intro k11 a w hl hh
            refine wl (w_storeA hl hh trivial agg75 rfl rfl (by repeat (first | exact find_head | apply find_tail | apply find_skip)) (by exact snC_len _ _ _) (by first | exact Nat.le_of_eq (arrL_length _ _).symm | (rw [snC_len]; exact Nat.le_refl _)) (by first | exact snC_one hSn9 | exact snC_one hSn2) (by exact setL_whole (by first | rw [snC_len, arrL_length] | rw [snC_len, snC_len])) ?_)
            clear hh w; intro w hh
            refine wl (w_storeA hl hh trivial agg75 rfl rfl (by repeat (first | exact find_head | apply find_tail | apply find_skip)) (by exact snC_len _ _ _) (by first | exact Nat.le_of_eq (arrL_length _ _).symm | (rw [snC_len]; exact Nat.le_refl _)) (by first | exact snC_one hSn9 | exact snC_one hSn2) (by exact setL_whole (by first | rw [snC_len, arrL_length] | rw [snC_len, snC_len])) ?_)
            clear hh w; intro w hh
            refine w_nil ?_
            have hl2 := hl.add (t := 3) (hl.add (t := 9) (hl.add (t := 10) (hl.add (t := 11) (hl.add (t := 17) (hl.add (t := 18) (hl.add (t := 19) (hl.nil) rfl) rfl) rfl) rfl) rfl) rfl) rfl; clear hl; have hl := hl2; clear hl2
            refine then_normal ?_
            refine c_seq ?_
            refine c_region ?_
            refine wl (wl_val hl rfl trivial (r_move hl rfl) ?_)
            clear hl a; intro a hl
            refine wl (wl_val hl rfl trivial (r_not hl rfl) ?_)
            clear hl a; intro a hl
            refine wl (wl_val hl rfl trivial (r_move hl rfl) ?_)
            clear hl a; intro a hl
            refine sl_split (t := 142) hl rfl ?_ ?_
            · intro hg74; clear hl; intro hl
              try simp only [decide_eq_true_eq, decide_eq_false_iff_not, Bool.not_eq_true', Bool.not_eq_false', Bool.not_eq_true, Bool.not_eq_false, Bool.and_eq_true, Bool.or_eq_true, Bool.and_eq_false_iff, Bool.or_eq_false_iff, Bool.not_not, ne_eq, Int.not_lt, Int.not_le, Decidable.not_not, beq_iff_eq, bne_iff_ne] at hg74
              refine wl (w_call hl hh rfl ⟨_, _, rfl, rfl, rfl⟩ rfl cal29 rfl (eqState_spec (g := g2) (B := 40 * ((z.i + 1 : Nat) : Int)) (Q := 400 * ((z.i + 1 : Nat) : Int)) ⟨by omega, by omega⟩ hG3 k10 k11 ev9 bv9 ev2 bv2 Ee9 Eb9 Ee2 Eb2 ((hF9 (by simpa using by assumption)).1 ▸ hSn9) hSn2) (by repeat (first | exact keeps_nil | apply keeps_cons (by repeat (first | exact find_head | apply find_tail | apply find_skip)) (by first  | rfl) | exact keeps_self | exact keeps_left | apply keeps_app | apply keeps_mv | apply keeps_skip)) ⟨(hF9 (by simpa using by assumption)).1 ▸ (memK (E := snL k10 g9 ev9 bv9 Ee9 Eb9) hh (by repeat (first | exact keeps_nil | apply keeps_cons (by repeat (first | exact find_head | apply find_tail | apply find_skip)) (by first  | rfl) | exact keeps_self | exact keeps_left | apply keeps_app | apply keeps_mv | apply keeps_skip))), memK (E := snL k11 g2 ev2 bv2 Ee2 Eb2) hh (by repeat (first | exact keeps_nil | apply keeps_cons (by repeat (first | exact find_head | apply find_tail | apply find_skip)) (by first  | rfl) | exact keeps_self | exact keeps_left | apply keeps_app | apply keeps_mv | apply keeps_skip))⟩ ?_)
              clear hl hh a w; intro vc Fc a w hR hl hh
              obtain ⟨rfl, rfl⟩ := hR
              try simp only [List.cons_append, List.nil_append, List.append_assoc, List.append_nil] at hh
              refine wl (wl_val hl rfl ⟨_, _, rfl, rfl, rfl⟩ (r_not hl rfl) ?_)
              clear hl a; intro a hl
              refine wl (wl_val hl rfl trivial (r_pickT hl rfl rfl) ?_)
              clear hl a; intro a hl
              refine w_nil ?_
              have hl2 := hl.add (t := 3) (hl.add (t := 17) (hl.add (t := 18) (hl.add (t := 19) (hl.add (t := 145) (hl.nil) rfl) rfl) rfl) rfl) rfl; clear hl; have hl := hl2; clear hl2
              refine then_normal ?_
              refine c_cond hl rfl ?_ ?_
              · intro hc3
                try simp only [decide_eq_true_eq, decide_eq_false_iff_not, Bool.not_eq_true', Bool.not_eq_false', Bool.not_eq_true, Bool.not_eq_false, Bool.and_eq_true, Bool.or_eq_true, Bool.and_eq_false_iff, Bool.or_eq_false_iff, Bool.not_not, ne_eq, Int.not_lt, Int.not_le, Decidable.not_not, beq_iff_eq, bne_iff_ne] at hc3
                exfalso; first | contradiction | exact abs10a (by assumption) hT9 (fun h => (hF9 h).2) | exact absurd (hF9 (by simpa using by assumption)).2 (by assumption)
              · intro hc3
                try simp only [decide_eq_true_eq, decide_eq_false_iff_not, Bool.not_eq_true', Bool.not_eq_false', Bool.not_eq_true, Bool.not_eq_false, Bool.and_eq_true, Bool.or_eq_true, Bool.and_eq_false_iff, Bool.or_eq_false_iff, Bool.not_not, ne_eq, Int.not_lt, Int.not_le, Decidable.not_not, beq_iff_eq, bne_iff_ne] at hc3
                refine wp_skip ?_
                refine blk_normal ?_
                refine then_normal ?_
                refine c_region ?_
                first | refine wl (wl_val hl rfl trivial (r_add hl rfl rfl (by simp only [Fits]; omega)) ?_) | refine wl (wl_val hl rfl trivial (r_addW hl rfl rfl) ?_)
                clear hl a; intro a hl
                refine wl (wl_val hl rfl trivial (r_move hl rfl) ?_)
                clear hl a; intro a hl
                refine w_nil ?_
                have hl2 := hl.add (t := 3) (hl.add (t := 17) (hl.add (t := 18) (hl.add (t := 19) (hl.nil) rfl) rfl) rfl) rfl; clear hl; have hl := hl2; clear hl2
                refine then_normal ?_
                refine ⟨⟨g2, M2, z.i + 1⟩, (by simp only; omega), ⟨by simp only; omega, hS2, hG3⟩, hl.addE (t := 19) (hl.addE (t := 3) (hl.addE (t := 17) (hl.addE (t := 18) (hl.nil) rfl (by first | rfl | (congr 1; omega))) rfl (by first | rfl | (congr 1; omega))) rfl (by first | rfl | (congr 1; omega))) rfl (by first | rfl | (congr 1; omega)), hh.keep (by repeat (first | exact keeps_nil | apply keeps_cons (by repeat (first | exact find_head | apply find_tail | apply find_skip)) (by first  | rfl) | exact keeps_self | exact keeps_left | apply keeps_app | apply keeps_mv | apply keeps_skip))⟩
            · intro hg74; clear hl; intro hl
              try simp only [decide_eq_true_eq, decide_eq_false_iff_not, Bool.not_eq_true', Bool.not_eq_false', Bool.not_eq_true, Bool.not_eq_false, Bool.and_eq_true, Bool.or_eq_true, Bool.and_eq_false_iff, Bool.or_eq_false_iff, Bool.not_not, ne_eq, Int.not_lt, Int.not_le, Decidable.not_not, beq_iff_eq, bne_iff_ne] at hg74
              refine wl (wl_skip hl rfl ⟨_, _, rfl, rfl, rfl⟩ ?_)
              clear hl a; intro a hl
              refine wl (wl_skip hl rfl ⟨_, _, rfl, rfl, rfl⟩ ?_)
              clear hl a; intro a hl
              refine wl (wl_val hl rfl trivial (r_pickF hl rfl rfl) ?_)
              clear hl a; intro a hl
              refine w_nil ?_
              have hl2 := hl.add (t := 3) (hl.add (t := 17) (hl.add (t := 18) (hl.add (t := 19) (hl.add (t := 145) (hl.nil) rfl) rfl) rfl) rfl) rfl; clear hl; have hl := hl2; clear hl2
              refine then_normal ?_
              refine c_condF hl rfl ?_
              refine wp_skip ?_
              refine blk_normal ?_
              refine then_normal ?_
              refine c_region ?_
              first | refine wl (wl_val hl rfl trivial (r_add hl rfl rfl (by simp only [Fits]; omega)) ?_) | refine wl (wl_val hl rfl trivial (r_addW hl rfl rfl) ?_)
              clear hl a; intro a hl
              refine wl (wl_val hl rfl trivial (r_move hl rfl) ?_)
              clear hl a; intro a hl
              refine w_nil ?_
              have hl2 := hl.add (t := 3) (hl.add (t := 17) (hl.add (t := 18) (hl.add (t := 19) (hl.nil) rfl) rfl) rfl) rfl; clear hl; have hl := hl2; clear hl2
              refine then_normal ?_
              refine ⟨⟨g2, M2, z.i + 1⟩, (by simp only; omega), ⟨by simp only; omega, hS2, hG3⟩, hl.addE (t := 19) (hl.addE (t := 3) (hl.addE (t := 17) (hl.addE (t := 18) (hl.nil) rfl (by first | rfl | (congr 1; omega))) rfl (by first | rfl | (congr 1; omega))) rfl (by first | rfl | (congr 1; omega))) rfl (by first | rfl | (congr 1; omega)), hh.keep (by repeat (first | exact keeps_nil | apply keeps_cons (by repeat (first | exact find_head | apply find_tail | apply find_skip)) (by first  | rfl) | exact keeps_self | exact keeps_left | apply keeps_app | apply keeps_mv | apply keeps_skip))⟩
    · intro hc1
      try simp only [decide_eq_true_eq, decide_eq_false_iff_not, Bool.not_eq_true', Bool.not_eq_false', Bool.not_eq_true, Bool.not_eq_false, Bool.and_eq_true, Bool.or_eq_true, Bool.and_eq_false_iff, Bool.or_eq_false_iff, Bool.not_not, ne_eq, Int.not_lt, Int.not_le, Decidable.not_not, beq_iff_eq, bne_iff_ne] at hc1
      refine wp_exit ?_
      refine then_exit ?_
      refine then_exit ?_
      refine blk_exit ?_
      refine then_normal ?_
      refine c_seq ?_
      refine c_region ?_
      refine wl (wl_val hl rfl trivial (r_assign hl rfl) ?_)
      clear hl a; intro a hl
      refine w_nil ?_
      have hl2 := hl.add (t := 2) (hl.nil) rfl; clear hl; have hl := hl2; clear hl2
      refine then_normal ?_
      refine wp_ret ?_
      refine f_ret1 (F' := []) hl hh rfl rfl (by repeat (first | exact keeps_nil | apply keeps_cons (by repeat (first | exact find_head | apply find_tail | apply find_skip)) (by first  | rfl) | exact keeps_self | exact keeps_left | apply keeps_app | apply keeps_mv | apply keeps_skip)) ?_
      exact ⟨rfl, rfl⟩
end Go.Proofs.Qxb6500911aDoor

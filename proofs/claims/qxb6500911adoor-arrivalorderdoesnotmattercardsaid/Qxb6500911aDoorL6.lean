import Derived.Test.Qxb6500911aDoorA27
import Derived.Test.Qxb6500911aDoorL8
namespace Go.Proofs.Qxb6500911aDoor
open Go.Eng
set_option linter.unusedVariables false
set_option linter.unusedSimpArgs false
theorem shp37 : shapeT Tryd.prog 8 37 = some [.int .i64, .int .u16] := by kernel_rfl
theorem eqf37 : eqOk Tryd.prog 8 37 = true := by kernel_rfl
theorem cal19 : callable Tryd.prog 19 = true := by kernel_rfl
attribute [local irreducible] sysL

structure L6Z where
  g : Gs
  M : Mm
  h : Gs
  N : Mm
  s : Int
  i : Nat
structure LI6 (z : L6Z) : Prop where
  sg : SysF z.g z.M
  gg : GI (40 * z.i) (400 * z.i) z.g
  mg : MIall z.g
  sh : SysF z.h z.N
  gh : GI (560 * z.i) (400 * z.i) z.h
  mh : MIall z.h
  qh : quietB z.h.bx 16 = true
  ep : z.h.ep = z.g.ep
  tb : z.h.tb = z.g.tb
  s : -9223372036854775808 ≤ z.s ∧ z.s ≤ 9223372036854775807
theorem quiet00 : quietB g00.bx 16 = true := by decide
theorem wrapR (x : Int) : -9223372036854775808 ≤ IntKind.i64.wrap x ∧ IntKind.i64.wrap x ≤ 9223372036854775807 := by
  have e : IntKind.i64.wrap x = if 9223372036854775808 ≤ x % 18446744073709551616 then x % 18446744073709551616 - 18446744073709551616 else x % 18446744073709551616 := by
    simp only [IntKind.wrap, IntKind.bits, IntKind.signed, Bool.true_and, decide_eq_true_eq, ge_iff_le]
    rfl
  rw [e]
  split <;> omega
theorem LI6.skip {z : L6Z} (h : LI6 z) {g2 : Gs} {M2 : Mm} (hS : SysF g2 M2) (hG : GI (40 * ((z.i + 1 : Nat) : Int)) (400 * ((z.i + 1 : Nat) : Int)) g2) (hM : MIall g2) (hc : g2.ep = z.g.ep ∧ g2.tb = z.g.tb) (x : Int) : LI6 ⟨g2, M2, z.h, z.N, IntKind.i64.wrap x, z.i + 1⟩ :=
  ⟨hS, hG, hM, h.sh, by simp only; exact h.gh.mono (by omega) (by omega), h.mh, h.qh, h.ep.trans hc.1.symm, h.tb.trans hc.2.symm, wrapR x⟩
theorem LI6.go {z : L6Z} (h : LI6 z) {g2 h2 h3 : Gs} {M2 N3 : Mm} (hS : SysF g2 M2) (hG : GI (40 * ((z.i + 1 : Nat) : Int)) (400 * ((z.i + 1 : Nat) : Int)) g2) (hM : MIall g2) (he : h2.ep = g2.ep) (ht : h2.tb = g2.tb) (hN : MIall h2) (hT : SysF h3 N3) (hD : DrR (560 * z.i + 40) (400 * z.i + 400) h2 h3) (x : Int) : LI6 ⟨g2, M2, h3, N3, IntKind.i64.wrap x, z.i + 1⟩ :=
  ⟨hS, hG, hM, hT, by simp only; exact hD.gi.mono (by omega) (by omega), hD.mi hN, hD.qt, hD.ep.trans he, hD.tb.trans ht, wrapR x⟩
theorem ref_core {B Q : Int} {g : Gs} {o : DO} (hG : GI B Q g) (hQ : Q ≤ 1000000000000) (h : (stepG g o).2.1 = 12) : (stepG g o).1.ep = g.ep ∧ (stepG g o).1.tb = g.tb := by
  rw [(step_ref hG hQ (by omega) (by omega)).1]; exact ⟨rfl, rfl⟩
def Cd (c : Int) : Prop := 0 ≤ c ∧ c ≤ 13
theorem cdk {c : Int} (h : decide (0 ≤ c ∧ c ≤ 13) = true) : Cd c := (of_decide_eq_true h : 0 ≤ c ∧ c ≤ 13)
theorem step_cd (g : Gs) (o : DO) : Cd (stepG g o).2.1 := by
  have ac : ∀ tb t r u, Cd (acqN tb t r u).2 := fun tb t r u => by
    unfold acqN; split
    · exact cdk rfl
    split
    · exact cdk rfl
    split
    · exact cdk rfl
    split
    · exact cdk rfl
    split <;> exact cdk rfl
  have rc : ∀ tb t r, Cd (relT tb t r).2.2 := fun tb t r => by
    unfold relT dropT
    split
    · split
      · exact cdk rfl
      · split <;> exact cdk rfl
    · exact cdk rfl
  have wc : ∀ tb z t, Cd (wdK tb z t).2.2 := fun tb z t => by
    unfold wdK; split <;> exact cdk rfl
  have dc : ∀ t a, Cd (admC g t a) := fun t a => by
    unfold admC; split
    · split
      · split <;> exact cdk rfl
      · exact cdk rfl
    · exact cdk rfl
  unfold stepG
  split
  · simp only; unfold acqG; split
    · simp only; exact ac _ _ _ _
    · simp only; split <;> exact cdk rfl
  split
  · simp only; unfold relG; split
    · split
      · split
        · exact cdk rfl
        · exact rc _ _ _
      · exact cdk rfl
    · exact cdk rfl
  split
  · simp only; unfold canG; split
    · split
      · exact cdk rfl
      · exact wc _ _ _
    · exact dc _ _
  split
  · simp only; unfold abG; split
    · exact cdk rfl
    · exact dc _ _
  split
  · simp only; unfold delG; split
    · exact cdk rfl
    · unfold hdlG; split <;> exact cdk rfl
  · exact cdk rfl
theorem fit37 {c : Int} {w : BitVec 16} (h : Cd c) : LitsFit [.int .i64, .int .u16] [.int .i64 c, .int .u16 (mi w)] := by
  have := mi_rng w; have h1 := h.1; have h2 := h.2
  refine ⟨?_⟩
  simp [LitsOk, litOk, Fits]
  omega


set_option maxHeartbeats 8000000 in
theorem law6 (sb : Nat) (c : List Value) (T : TypeId) (fr : Nat × Nat) (p : Option Addr) (n cap : Nat) (ops : List DO) (hn : n = ops.length) (hlen : n ≤ 9223372036854775807) (h : Ops sb c p cap ops) (tT : TypeId) (tf : Nat × Nat) : SpK Tryd.prog 6 #[.slice p n cap] (fun w => OpsIn sb c T fr ops w ∧ w.heap[0]? = some (.cells ⟨tabL⟩ tT tf)) [] (fun v F' => v = .bool true ∧ F' = []) := by
  refine f_enter (args := [.slice p n cap]) Tryd.func6 rfl Tryd.ntmps6 rfl ?_
  intro w0 w a hpre hl hh
  simp only [slotsFrom, Nat.reduceAdd] at hl
  refine c_seq ?_
  refine c_region ?_
  refine wl (wl_val hl rfl trivial (r_assign hl rfl) ?_)
  clear hl a; intro a hl
  refine w_nil ?_
  have hl2 := hl.add (t := 0) (hl.nil) rfl; clear hl; have hl := hl2; clear hl2
  refine then_normal ?_
  refine c_seq ?_
  refine c_seq ?_
  refine c_region ?_
  refine wl (wl_val hl rfl trivial (r_move hl rfl) ?_)
  clear hl a; intro a hl
  refine wl (w_call hl hh rfl trivial rfl cal11 rfl (small_spec p n cap hlen) (by repeat (first | exact keeps_nil | apply keeps_cons (by repeat (first | exact find_head | apply find_tail | apply find_skip)) (by first  | rfl) | exact keeps_self | exact keeps_left | apply keeps_app | apply keeps_mv | apply keeps_skip)) trivial ?_)
  clear hl hh a w; intro vc Fc a w hR hl hh
  obtain ⟨rfl, rfl⟩ := hR
  try simp only [List.cons_append, List.nil_append, List.append_assoc, List.append_nil] at hh
  refine wl (wl_val hl rfl trivial (r_not hl rfl) ?_)
  clear hl a; intro a hl
  refine w_nil ?_
  have hl2 := hl.add (t := 0) (hl.add (t := 13) (hl.nil) rfl) rfl; clear hl; have hl := hl2; clear hl2
  refine then_normal ?_
  refine c_cond hl rfl ?_ ?_
  · intro hc0
    try simp only [decide_eq_true_eq, decide_eq_false_iff_not, Bool.not_eq_true', Bool.not_eq_false', Bool.not_eq_true, Bool.not_eq_false, Bool.and_eq_true, Bool.or_eq_true, Bool.and_eq_false_iff, Bool.or_eq_false_iff, Bool.not_not, ne_eq, Int.not_lt, Int.not_le, Decidable.not_not, beq_iff_eq, bne_iff_ne] at hc0
    refine c_seq ?_
    refine c_region ?_
    refine wl (wl_val hl rfl trivial (r_assign hl rfl) ?_)
    clear hl a; intro a hl
    refine w_nil ?_
    have hl2 := hl.add (t := 2) (hl.nil) rfl; clear hl; have hl := hl2; clear hl2
    refine then_normal ?_
    refine wp_ret ?_
    refine then_ret ?_
    refine f_ret1 (F' := []) hl hh rfl rfl (by repeat (first | exact keeps_nil | apply keeps_cons (by repeat (first | exact find_head | apply find_tail | apply find_skip)) (by first  | rfl) | exact keeps_self | exact keeps_left | apply keeps_app | apply keeps_mv | apply keeps_skip)) ?_
    exact ⟨rfl, rfl⟩
  · intro hc0
    try simp only [decide_eq_true_eq, decide_eq_false_iff_not, Bool.not_eq_true', Bool.not_eq_false', Bool.not_eq_true, Bool.not_eq_false, Bool.and_eq_true, Bool.or_eq_true, Bool.and_eq_false_iff, Bool.or_eq_false_iff, Bool.not_not, ne_eq, Int.not_lt, Int.not_le, Decidable.not_not, beq_iff_eq, bne_iff_ne] at hc0
    have hn6 : n ≤ 65536 := by simpa using hc0
    refine wp_skip ?_
    refine then_normal ?_
    refine c_seq ?_
    refine c_region ?_
    refine wl (w_call hl hh rfl trivial rfl cal12 rfl (fresh_spec) (by repeat (first | exact keeps_nil | apply keeps_cons (by repeat (first | exact find_head | apply find_tail | apply find_skip)) (by first  | rfl) | exact keeps_self | exact keeps_left | apply keeps_app | apply keeps_mv | apply keeps_skip)) trivial ?_)
    clear hl hh a w; intro vc Fc a w hR hl hh
    obtain ⟨ba, bm, bt, rfl, hF0⟩ := hR
    try simp only [List.cons_append, List.nil_append, List.append_assoc, List.append_nil] at hh
    subst hF0
    refine wl (wl_val hl rfl trivial (r_fieldV hl rfl fldT28_0 one24 rfl) ?_)
    clear hl a; intro a hl
    refine wl (w_call hl hh rfl trivial rfl cal12 rfl (fresh_spec) (by repeat (first | exact keeps_nil | apply keeps_cons (by repeat (first | exact find_head | apply find_tail | apply find_skip)) (by first  | rfl) | exact keeps_self | exact keeps_left | apply keeps_app | apply keeps_mv | apply keeps_skip)) trivial ?_)
    clear hl hh a w; intro vc Fc a w hR hl hh
    obtain ⟨bb, bm2, bt2, rfl, hF0⟩ := hR
    try simp only [List.cons_append, List.nil_append, List.append_assoc, List.append_nil] at hh
    subst hF0
    refine wl (wl_val hl rfl trivial (r_fieldV hl rfl fldT28_0 one24 rfl) ?_)
    clear hl a; intro a hl
    refine wl (wl_val hl rfl trivial (r_assign hl rfl) ?_)
    clear hl a; intro a hl
    refine wl (wl_val hl rfl trivial (r_assign hl rfl) ?_)
    clear hl a; intro a hl
    refine w_nil ?_
    have hl2 := hl.add (t := 0) (hl.add (t := 3) (hl.add (t := 4) (hl.nil) rfl) rfl) rfl; clear hl; have hl := hl2; clear hl2
    refine then_normal ?_
    refine c_seq ?_
    refine c_region ?_
    refine wl (wl_val hl rfl trivial (r_assign hl rfl) ?_)
    clear hl a; intro a hl
    refine w_nil ?_
    have hl2 := hl.add (t := 0) (hl.add (t := 3) (hl.add (t := 4) (hl.add (t := 5) (hl.nil) rfl) rfl) rfl) rfl; clear hl; have hl := hl2; clear hl2
    refine then_normal ?_
    refine c_seq ?_
    refine c_seq ?_
    refine c_region ?_
    refine wl (wl_val hl rfl trivial (r_move hl rfl) ?_)
    clear hl a; intro a hl
    refine wl (wl_val hl rfl trivial (r_lenS hl rfl slc22) ?_)
    clear hl a; intro a hl
    refine wl (wl_val hl rfl trivial (r_move hl rfl) ?_)
    clear hl a; intro a hl
    refine w_nil ?_
    have hl2 := hl.add (t := 3) (hl.add (t := 4) (hl.add (t := 5) (hl.add (t := 18) (hl.add (t := 19) (hl.add (t := 20) (hl.nil) rfl) rfl) rfl) rfl) rfl) rfl; clear hl; have hl := hl2; clear hl2
    refine then_normal ?_
    refine wp_block ?_
    obtain ⟨KS0, hKS0, hk⟩ := (hl.add (t := 3) (hl.add (t := 4) (hl.add (t := 18) (hl.add (t := 19) (hl.nil) rfl) rfl) rfl) rfl).name
    obtain ⟨HS0, hHS0, hh2⟩ := hh.nameT (A := []) (U := (sysL ba (M00 bm bt) ++ sysL bb (M00 bm2 bt2))) ((by repeat (first | exact keeps_nil | exact keeps_self | exact keeps_left | apply keeps_app | apply keeps_mv | apply keeps_skip)))
    refine c_loop (α := L6Z) (fun z => ops.length - z.i) (fun z a w => (z.i ≤ ops.length ∧ LI6 z) ∧ Sl 55 ([(20, .int .i64 (z.i : Int)), (5, .int .i64 z.s)] ++ KS0) a ∧ Has _ w0 ([] ++ (HS0 ++ (sysL ba z.M ++ sysL bb z.N))) w) ⟨g00, M00 bm bt, g00, M00 bm2 bt2, 0, 0⟩ ⟨⟨Nat.zero_le _, sys00 bm bt, by simpa using GI00, MI00, sys00 bm2 bt2, by simpa using GI00, MI00, quiet00, rfl, rfl, ⟨by simp only; omega, by simp only; omega⟩⟩, hl.addE (t := 20) (hl.addE (t := 5) (hk) rfl (by first | rfl)) rfl (by first | rfl), hh2⟩ ?_
    clear hk hh2 hl hh a w
    intro z a w hI
    obtain ⟨⟨hzi, hI⟩, hl, hh⟩ := hI
    subst hKS0; subst hHS0
    simp only [List.cons_append, List.nil_append, List.append_nil, List.append_assoc] at hl hh
    refine c_seq ?_
    refine c_region ?_
    refine wl (wl_val hl rfl trivial (r_lss hl rfl rfl) ?_)
    clear hl a; intro a hl
    refine w_nil ?_
    have hl2 := hl.add (t := 3) (hl.add (t := 4) (hl.add (t := 5) (hl.add (t := 18) (hl.add (t := 19) (hl.add (t := 20) (hl.add (t := 21) (hl.nil) rfl) rfl) rfl) rfl) rfl) rfl) rfl; clear hl; have hl := hl2; clear hl2
    refine then_normal ?_
    refine c_seq ?_
    refine c_cond hl rfl ?_ ?_
    · intro hc1
      try simp only [decide_eq_true_eq, decide_eq_false_iff_not, Bool.not_eq_true', Bool.not_eq_false', Bool.not_eq_true, Bool.not_eq_false, Bool.and_eq_true, Bool.or_eq_true, Bool.and_eq_false_iff, Bool.or_eq_false_iff, Bool.not_not, ne_eq, Int.not_lt, Int.not_le, Decidable.not_not, beq_iff_eq, bne_iff_ne] at hc1
      obtain ⟨so, hso, hat⟩ := h.at_ (by omega)
      subst hso
      obtain ⟨o, hoi⟩ : ∃ o, ops[z.i]? = some o := ⟨_, List.getElem?_eq_getElem (by omega)⟩
      have hopv := hat _ o hoi
      have hok := h.ok o (List.mem_of_getElem? hoi)
      have hin := hpre.1 (by omega)
      have hoa := hok.a; have hob := hok.b; have hoc := hok.c; have hokk := hok.k
      have hzn : z.i < n := by omega
      refine wp_skip ?_
      refine then_normal ?_
      refine c_seq ?_
      refine wp_block ?_
      refine c_seq ?_
      refine c_region ?_
      refine wl (wl_val hl rfl trivial (r_indexS hl rfl rfl slc22 (by omega) (by omega) (by first | (simp only [Int.reduceToNat]; rfl) | exact toNat_add1 _ | exact toNat_add2 _ _ | exact toNat_emod _ _ | exact Int.toNat_natCast _ | rfl)) ?_)
      clear hl a; intro a hl
      first | refine wl (w_loadA hl hh rfl trivial agg32 rfl (by repeat (first | exact find_head | apply find_tail | apply find_skip)) (by first | rfl | (simp only [List.getElem?_cons_zero, List.getElem?_cons_succ, Value.cells, List.take_zero, List.take_succ_cons, List.take_nil, List.drop_zero, List.drop_succ_cons, List.drop_nil, List.length_cons, List.length_nil, List.cons_append, List.nil_append, List.append_nil, Nat.zero_add, Nat.add_zero, Nat.reduceAdd, Nat.reduceBEq, Nat.reduceEqDiff, Nat.ble, BEq.rfl, Bool.and_true, Bool.and_self, cond_true, beq_self_eq_true]; rfl)) (by first | rfl | (simp; done)) ?_) | refine wl (w_loadRA hl hh rfl trivial agg32 rfl hin (by simp) hopv rfl ?_)
      clear hl a; intro a hl
      refine wl (w_alloc hl hh rfl trivial zero32 rfl ?_)
      clear hl hh a w; intro k7 a w hl hh
      refine wl (w_storeA hl hh trivial agg32 rfl rfl (by repeat (first | exact find_head | apply find_tail | apply find_skip)) (by first | rfl | (simp; done) | rfl) (by first | (simp; done) | (simp; omega)) (by first | rfl | (simp; done) | rfl) (by first | (simp only [setL, List.getElem?_cons_zero, List.getElem?_cons_succ, Value.cells, List.take_zero, List.take_succ_cons, List.take_nil, List.drop_zero, List.drop_succ_cons, List.drop_nil, List.length_cons, List.length_nil, List.cons_append, List.nil_append, List.append_nil, Nat.zero_add, Nat.add_zero, Nat.reduceAdd, Nat.reduceBEq, Nat.reduceEqDiff, Nat.ble, BEq.rfl, Bool.and_true, Bool.and_self, cond_true, beq_self_eq_true]; rfl)) ?_)
      clear hh w; intro w hh
      refine w_nil ?_
      have hl2 := hl.add (t := 3) (hl.add (t := 4) (hl.add (t := 5) (hl.add (t := 7) (hl.add (t := 18) (hl.add (t := 19) (hl.add (t := 20) (hl.nil) rfl) rfl) rfl) rfl) rfl) rfl) rfl; clear hl; have hl := hl2; clear hl2
      refine then_normal ?_
      refine c_seq ?_
      refine c_region ?_
      refine wl (wl_val hl rfl trivial (r_move hl rfl) ?_)
      clear hl a; intro a hl
      first | refine wl (w_loadA hl hh rfl trivial agg32 rfl (by repeat (first | exact find_head | apply find_tail | apply find_skip)) (by first | rfl | (simp only [List.getElem?_cons_zero, List.getElem?_cons_succ, Value.cells, List.take_zero, List.take_succ_cons, List.take_nil, List.drop_zero, List.drop_succ_cons, List.drop_nil, List.length_cons, List.length_nil, List.cons_append, List.nil_append, List.append_nil, Nat.zero_add, Nat.add_zero, Nat.reduceAdd, Nat.reduceBEq, Nat.reduceEqDiff, Nat.ble, BEq.rfl, Bool.and_true, Bool.and_self, cond_true, beq_self_eq_true]; rfl)) (by first | rfl | (simp; done)) ?_) | refine wl (w_loadRA hl hh rfl trivial agg32 rfl hin (by simp) hopv rfl ?_)
      clear hl a; intro a hl
      refine wl (w_call hl hh rfl trivial rfl cal13 rfl (step_spec hI.sg ba tT tf (40 * z.i) (400 * z.i) ⟨by omega, by omega⟩ (by omega) (by omega) hI.gg o.k o.a o.b o.c hoa) (by repeat (first | exact keeps_nil | apply keeps_cons (by repeat (first | exact find_head | apply find_tail | apply find_skip)) (by first  | rfl) | exact keeps_self | exact keeps_left | apply keeps_app | apply keeps_mv | apply keeps_skip)) (pt_law hh hpre.2 (by repeat (first | exact keeps_nil | apply keeps_cons (by repeat (first | exact find_head | apply find_tail | apply find_skip)) (by first  | rfl) | exact keeps_self | exact keeps_left | apply keeps_app | apply keeps_mv | apply keeps_skip))) ?_)
      clear hl hh a w; intro vc Fc a w hR hl hh
      obtain ⟨rfl, M2, hF2, hS2, hG2, hbm2, hbt2⟩ := hR
      try simp only [List.cons_append, List.nil_append, List.append_assoc, List.append_nil] at hh
      subst hF2
      obtain ⟨g2, hg2⟩ : ∃ z_, z_ = (stepG z.g ⟨o.k, o.a, o.b, o.c⟩).1 := ⟨_, rfl⟩
      obtain ⟨cd, hcd⟩ : ∃ z_, z_ = (stepG z.g ⟨o.k, o.a, o.b, o.c⟩).2.1 := ⟨_, rfl⟩
      obtain ⟨wk, hwk⟩ : ∃ z_, z_ = (stepG z.g ⟨o.k, o.a, o.b, o.c⟩).2.2 := ⟨_, rfl⟩
      rw [← hg2] at hS2 hG2
      rw [← hcd, ← hwk] at hl
      have hG3 : GI (40 * ((z.i + 1 : Nat) : Int)) (400 * ((z.i + 1 : Nat) : Int)) g2 := by
        rw [show 40 * ((z.i + 1 : Nat) : Int) = 40 * (z.i : Int) + 40 by omega, show 400 * ((z.i + 1 : Nat) : Int) = 400 * (z.i : Int) + 400 by omega]; exact hG2
      have hM2 : MIall g2 := by rw [hg2]; exact step_MI hI.gg ⟨by omega, by omega⟩ (by omega) (by omega) hI.mg
      refine wl (w_alloc hl hh rfl trivial zero37 rfl ?_)
      clear hl hh a w; intro k8 a w hl hh
      refine wl (w_storeA hl hh trivial agg37 rfl rfl (by repeat (first | exact find_head | apply find_tail | apply find_skip)) (by first | rfl | (simp; done) | rfl) (by first | (simp; done) | (simp; omega)) (by first | rfl | (simp; done) | rfl) (by first | (simp only [setL, List.getElem?_cons_zero, List.getElem?_cons_succ, Value.cells, List.take_zero, List.take_succ_cons, List.take_nil, List.drop_zero, List.drop_succ_cons, List.drop_nil, List.length_cons, List.length_nil, List.cons_append, List.nil_append, List.append_nil, Nat.zero_add, Nat.add_zero, Nat.reduceAdd, Nat.reduceBEq, Nat.reduceEqDiff, Nat.ble, BEq.rfl, Bool.and_true, Bool.and_self, cond_true, beq_self_eq_true]; rfl)) ?_)
      clear hh w; intro w hh
      refine w_nil ?_
      have hl2 := hl.add (t := 3) (hl.add (t := 4) (hl.add (t := 5) (hl.add (t := 7) (hl.add (t := 8) (hl.add (t := 18) (hl.add (t := 19) (hl.add (t := 20) (hl.nil) rfl) rfl) rfl) rfl) rfl) rfl) rfl) rfl; clear hl; have hl := hl2; clear hl2
      refine then_normal ?_
      refine c_seq ?_
      refine c_region ?_
      refine wl (wl_val hl rfl trivial (r_move hl rfl) ?_)
      clear hl a; intro a hl
      refine wl (wl_val hl rfl trivial (r_field hl rfl fld32_1) ?_)
      clear hl a; intro a hl
      refine wl (w_load hl hh rfl trivial one2 rfl (by repeat (first | exact find_head | apply find_tail | apply find_skip)) (by first | rfl) ?_)
      clear hl a; intro a hl
      first | refine wl (wl_val hl rfl trivial (r_add hl rfl rfl (by simp only [Fits]; omega)) ?_) | refine wl (wl_val hl rfl trivial (r_addW hl rfl rfl) ?_)
      clear hl a; intro a hl
      refine wl (wl_val hl rfl trivial (r_assign hl rfl) ?_)
      clear hl a; intro a hl
      refine w_nil ?_
      have hl2 := hl.add (t := 3) (hl.add (t := 4) (hl.add (t := 5) (hl.add (t := 7) (hl.add (t := 8) (hl.add (t := 18) (hl.add (t := 19) (hl.add (t := 20) (hl.nil) rfl) rfl) rfl) rfl) rfl) rfl) rfl) rfl; clear hl; have hl := hl2; clear hl2
      refine then_normal ?_
      refine c_seq ?_
      refine c_seq ?_
      refine c_region ?_
      refine wl (wl_val hl rfl trivial (r_field hl rfl fld32_0) ?_)
      clear hl a; intro a hl
      refine wl (w_load hl hh rfl trivial one30 rfl (by repeat (first | exact find_head | apply find_tail | apply find_skip)) (by first | rfl) ?_)
      clear hl a; intro a hl
      refine wl (wl_val hl rfl trivial (r_eql hl rfl rfl) ?_)
      clear hl a; intro a hl
      refine wl (wl_val hl rfl trivial (r_move hl rfl) ?_)
      clear hl a; intro a hl
      refine sl_split (t := 34) hl rfl ?_ ?_
      · intro hg1; clear hl; intro hl
        try simp only [decide_eq_true_eq, decide_eq_false_iff_not, Bool.not_eq_true', Bool.not_eq_false', Bool.not_eq_true, Bool.not_eq_false, Bool.and_eq_true, Bool.or_eq_true, Bool.and_eq_false_iff, Bool.or_eq_false_iff, Bool.not_not, ne_eq, Int.not_lt, Int.not_le, Decidable.not_not, beq_iff_eq, bne_iff_ne] at hg1
        refine wl (wl_skip hl rfl ⟨_, _, rfl, rfl, rfl⟩ ?_)
        clear hl a; intro a hl
        refine wl (wl_skip hl rfl ⟨_, _, rfl, rfl, rfl⟩ ?_)
        clear hl a; intro a hl
        refine wl (wl_skip hl rfl ⟨_, _, rfl, rfl, rfl⟩ ?_)
        clear hl a; intro a hl
        refine wl (wl_val hl rfl trivial (r_pickT hl rfl rfl) ?_)
        clear hl a; intro a hl
        refine w_nil ?_
        have hl2 := hl.add (t := 3) (hl.add (t := 4) (hl.add (t := 5) (hl.add (t := 7) (hl.add (t := 8) (hl.add (t := 18) (hl.add (t := 19) (hl.add (t := 20) (hl.add (t := 38) (hl.nil) rfl) rfl) rfl) rfl) rfl) rfl) rfl) rfl) rfl; clear hl; have hl := hl2; clear hl2
        refine then_normal ?_
        refine c_condT hl rfl ?_
        refine wp_exit ?_
        refine then_exit ?_
        refine blk_exit ?_
        refine then_normal ?_
        refine c_region ?_
        first | refine wl (wl_val hl rfl trivial (r_add hl rfl rfl (by simp only [Fits]; omega)) ?_) | refine wl (wl_val hl rfl trivial (r_addW hl rfl rfl) ?_)
        clear hl a; intro a hl
        refine wl (wl_val hl rfl trivial (r_move hl rfl) ?_)
        clear hl a; intro a hl
        refine w_nil ?_
        have hl2 := hl.add (t := 3) (hl.add (t := 4) (hl.add (t := 5) (hl.add (t := 18) (hl.add (t := 19) (hl.add (t := 20) (hl.nil) rfl) rfl) rfl) rfl) rfl) rfl; clear hl; have hl := hl2; clear hl2
        refine then_normal ?_
        first | refine ⟨⟨g2, M2, z.h, z.N, IntKind.i64.wrap (z.s + o.a), z.i + 1⟩, (by simp only; omega), ⟨by simp only; omega, hI.skip hS2 hG3 hM2 (by rw [hg2]; exact step_4 (by assumption)) _⟩, hl.addE (t := 20) (hl.addE (t := 5) (hl.addE (t := 3) (hl.addE (t := 4) (hl.addE (t := 18) (hl.addE (t := 19) (hl.nil) rfl (by first | rfl | (congr 1; omega))) rfl (by first | rfl | (congr 1; omega))) rfl (by first | rfl | (congr 1; omega))) rfl (by first | rfl | (congr 1; omega))) rfl (by first | rfl | (congr 1; omega))) rfl (by first | rfl | (congr 1; omega)), hh.keep (by repeat (first | exact keeps_nil | apply keeps_cons (by repeat (first | exact find_head | apply find_tail | apply find_skip)) (by first  | rfl) | exact keeps_self | exact keeps_left | apply keeps_app | apply keeps_mv | apply keeps_skip))⟩ | refine ⟨⟨g2, M2, z.h, z.N, IntKind.i64.wrap (z.s + o.a), z.i + 1⟩, (by simp only; omega), ⟨by simp only; omega, hI.skip hS2 hG3 hM2 (by rw [hg2]; exact ref_core hI.gg (by omega) (by rw [← hcd]; assumption)) _⟩, hl.addE (t := 20) (hl.addE (t := 5) (hl.addE (t := 3) (hl.addE (t := 4) (hl.addE (t := 18) (hl.addE (t := 19) (hl.nil) rfl (by first | rfl | (congr 1; omega))) rfl (by first | rfl | (congr 1; omega))) rfl (by first | rfl | (congr 1; omega))) rfl (by first | rfl | (congr 1; omega))) rfl (by first | rfl | (congr 1; omega))) rfl (by first | rfl | (congr 1; omega)), hh.keep (by repeat (first | exact keeps_nil | apply keeps_cons (by repeat (first | exact find_head | apply find_tail | apply find_skip)) (by first  | rfl) | exact keeps_self | exact keeps_left | apply keeps_app | apply keeps_mv | apply keeps_skip))⟩ | refine ⟨⟨g2, M2, h3, N3, IntKind.i64.wrap (z.s + o.a), z.i + 1⟩, (by simp only; omega), ⟨by simp only; omega, hI.go hS2 hG3 hM2 hw2 hw3 hN2 hT3 hD3 _⟩, hl.addE (t := 20) (hl.addE (t := 5) (hl.addE (t := 3) (hl.addE (t := 4) (hl.addE (t := 18) (hl.addE (t := 19) (hl.nil) rfl (by first | rfl | (congr 1; omega))) rfl (by first | rfl | (congr 1; omega))) rfl (by first | rfl | (congr 1; omega))) rfl (by first | rfl | (congr 1; omega))) rfl (by first | rfl | (congr 1; omega))) rfl (by first | rfl | (congr 1; omega)), hh.keep (by repeat (first | exact keeps_nil | apply keeps_cons (by repeat (first | exact find_head | apply find_tail | apply find_skip)) (by first  | rfl) | exact keeps_self | exact keeps_left | apply keeps_app | apply keeps_mv | apply keeps_skip))⟩
      · intro hg1; clear hl; intro hl
        try simp only [decide_eq_true_eq, decide_eq_false_iff_not, Bool.not_eq_true', Bool.not_eq_false', Bool.not_eq_true, Bool.not_eq_false, Bool.and_eq_true, Bool.or_eq_true, Bool.and_eq_false_iff, Bool.or_eq_false_iff, Bool.not_not, ne_eq, Int.not_lt, Int.not_le, Decidable.not_not, beq_iff_eq, bne_iff_ne] at hg1
        refine wl (wl_val hl rfl ⟨_, _, rfl, rfl, rfl⟩ (r_field hl rfl fld37_0) ?_)
        clear hl a; intro a hl
        refine wl (w_load hl hh rfl ⟨_, _, rfl, rfl, rfl⟩ one33 rfl (by repeat (first | exact find_head | apply find_tail | apply find_skip)) (by first | rfl) ?_)
        clear hl a; intro a hl
        refine wl (wl_val hl rfl ⟨_, _, rfl, rfl, rfl⟩ (r_eql hl rfl rfl) ?_)
        clear hl a; intro a hl
        refine wl (wl_val hl rfl trivial (r_pickF hl rfl rfl) ?_)
        clear hl a; intro a hl
        refine w_nil ?_
        have hl2 := hl.add (t := 3) (hl.add (t := 4) (hl.add (t := 5) (hl.add (t := 7) (hl.add (t := 8) (hl.add (t := 18) (hl.add (t := 19) (hl.add (t := 20) (hl.add (t := 38) (hl.nil) rfl) rfl) rfl) rfl) rfl) rfl) rfl) rfl) rfl; clear hl; have hl := hl2; clear hl2
        refine then_normal ?_
        refine c_cond hl rfl ?_ ?_
        · intro hc2
          try simp only [decide_eq_true_eq, decide_eq_false_iff_not, Bool.not_eq_true', Bool.not_eq_false', Bool.not_eq_true, Bool.not_eq_false, Bool.and_eq_true, Bool.or_eq_true, Bool.and_eq_false_iff, Bool.or_eq_false_iff, Bool.not_not, ne_eq, Int.not_lt, Int.not_le, Decidable.not_not, beq_iff_eq, bne_iff_ne] at hc2
          refine wp_exit ?_
          refine then_exit ?_
          refine blk_exit ?_
          refine then_normal ?_
          refine c_region ?_
          first | refine wl (wl_val hl rfl trivial (r_add hl rfl rfl (by simp only [Fits]; omega)) ?_) | refine wl (wl_val hl rfl trivial (r_addW hl rfl rfl) ?_)
          clear hl a; intro a hl
          refine wl (wl_val hl rfl trivial (r_move hl rfl) ?_)
          clear hl a; intro a hl
          refine w_nil ?_
          have hl2 := hl.add (t := 3) (hl.add (t := 4) (hl.add (t := 5) (hl.add (t := 18) (hl.add (t := 19) (hl.add (t := 20) (hl.nil) rfl) rfl) rfl) rfl) rfl) rfl; clear hl; have hl := hl2; clear hl2
          refine then_normal ?_
          first | refine ⟨⟨g2, M2, z.h, z.N, IntKind.i64.wrap (z.s + o.a), z.i + 1⟩, (by simp only; omega), ⟨by simp only; omega, hI.skip hS2 hG3 hM2 (by rw [hg2]; exact step_4 (by assumption)) _⟩, hl.addE (t := 20) (hl.addE (t := 5) (hl.addE (t := 3) (hl.addE (t := 4) (hl.addE (t := 18) (hl.addE (t := 19) (hl.nil) rfl (by first | rfl | (congr 1; omega))) rfl (by first | rfl | (congr 1; omega))) rfl (by first | rfl | (congr 1; omega))) rfl (by first | rfl | (congr 1; omega))) rfl (by first | rfl | (congr 1; omega))) rfl (by first | rfl | (congr 1; omega)), hh.keep (by repeat (first | exact keeps_nil | apply keeps_cons (by repeat (first | exact find_head | apply find_tail | apply find_skip)) (by first  | rfl) | exact keeps_self | exact keeps_left | apply keeps_app | apply keeps_mv | apply keeps_skip))⟩ | refine ⟨⟨g2, M2, z.h, z.N, IntKind.i64.wrap (z.s + o.a), z.i + 1⟩, (by simp only; omega), ⟨by simp only; omega, hI.skip hS2 hG3 hM2 (by rw [hg2]; exact ref_core hI.gg (by omega) (by rw [← hcd]; assumption)) _⟩, hl.addE (t := 20) (hl.addE (t := 5) (hl.addE (t := 3) (hl.addE (t := 4) (hl.addE (t := 18) (hl.addE (t := 19) (hl.nil) rfl (by first | rfl | (congr 1; omega))) rfl (by first | rfl | (congr 1; omega))) rfl (by first | rfl | (congr 1; omega))) rfl (by first | rfl | (congr 1; omega))) rfl (by first | rfl | (congr 1; omega))) rfl (by first | rfl | (congr 1; omega)), hh.keep (by repeat (first | exact keeps_nil | apply keeps_cons (by repeat (first | exact find_head | apply find_tail | apply find_skip)) (by first  | rfl) | exact keeps_self | exact keeps_left | apply keeps_app | apply keeps_mv | apply keeps_skip))⟩ | refine ⟨⟨g2, M2, h3, N3, IntKind.i64.wrap (z.s + o.a), z.i + 1⟩, (by simp only; omega), ⟨by simp only; omega, hI.go hS2 hG3 hM2 hw2 hw3 hN2 hT3 hD3 _⟩, hl.addE (t := 20) (hl.addE (t := 5) (hl.addE (t := 3) (hl.addE (t := 4) (hl.addE (t := 18) (hl.addE (t := 19) (hl.nil) rfl (by first | rfl | (congr 1; omega))) rfl (by first | rfl | (congr 1; omega))) rfl (by first | rfl | (congr 1; omega))) rfl (by first | rfl | (congr 1; omega))) rfl (by first | rfl | (congr 1; omega))) rfl (by first | rfl | (congr 1; omega)), hh.keep (by repeat (first | exact keeps_nil | apply keeps_cons (by repeat (first | exact find_head | apply find_tail | apply find_skip)) (by first  | rfl) | exact keeps_self | exact keeps_left | apply keeps_app | apply keeps_mv | apply keeps_skip))⟩
        · intro hc2
          try simp only [decide_eq_true_eq, decide_eq_false_iff_not, Bool.not_eq_true', Bool.not_eq_false', Bool.not_eq_true, Bool.not_eq_false, Bool.and_eq_true, Bool.or_eq_true, Bool.and_eq_false_iff, Bool.or_eq_false_iff, Bool.not_not, ne_eq, Int.not_lt, Int.not_le, Decidable.not_not, beq_iff_eq, bne_iff_ne] at hc2
          refine wp_skip ?_
          refine then_normal ?_
          refine c_seq ?_
          refine c_seq ?_
          refine c_draw [(k7, C (opc o) 32), (k8, C [.int .i64 cd, .int .u16 (mi wk)] 37)] [4] mixed hh ?_
          clear hh w; intro w hh
          have hM : Mem [(k7, C (opc o) 32), (k8, C [.int .i64 cd, .int .u16 (mi wk)] 37)] w := (memK hh (by repeat (first | exact keeps_nil | apply keeps_cons (by repeat (first | exact find_head | apply find_tail | apply find_skip)) (by first  | rfl) | exact keeps_self | exact keeps_left | apply keeps_app | apply keeps_mv | apply keeps_skip)))
          refine d_take (i := 0) hl rfl (by kernel_rfl) (by kernel_rfl) (by kernel_rfl) (by kernel_rfl) (by kernel_rfl) rfl trivial (fun _ _ _ h => h) hM (fun w hC => r_move hl rfl) rfl ?_
          clear hl a; intro a hl
          refine d_take (i := 1) hl rfl (by kernel_rfl) (by kernel_rfl) (by kernel_rfl) (by kernel_rfl) (by kernel_rfl) rfl trivial (fun _ _ _ h => h) hM (fun w hC => r_loadCA hl rfl agg32 hC (by repeat (first | exact find_head | apply find_tail | apply find_skip)) (by first | rfl | (simp only [List.getElem?_cons_zero, List.getElem?_cons_succ, Value.cells, List.take_zero, List.take_succ_cons, List.take_nil, List.drop_zero, List.drop_succ_cons, List.drop_nil, List.length_cons, List.length_nil, List.cons_append, List.nil_append, List.append_nil, Nat.zero_add, Nat.add_zero, Nat.reduceAdd, Nat.reduceBEq, Nat.reduceEqDiff, Nat.ble, BEq.rfl, Bool.and_true, Bool.and_self, cond_true, beq_self_eq_true]; rfl)) (by first | rfl | (simp; done))) rfl ?_
          clear hl a; intro a hl
          refine d_take (i := 3) hl rfl (by kernel_rfl) (by kernel_rfl) (by kernel_rfl) (by kernel_rfl) (by kernel_rfl) rfl trivial (fun _ _ _ h => h) hM (fun w hC => r_loadCA hl rfl agg37 hC (by repeat (first | exact find_head | apply find_tail | apply find_skip)) (by first | rfl | (simp only [List.getElem?_cons_zero, List.getElem?_cons_succ, Value.cells, List.take_zero, List.take_succ_cons, List.take_nil, List.drop_zero, List.drop_succ_cons, List.drop_nil, List.length_cons, List.length_nil, List.cons_append, List.nil_append, List.append_nil, Nat.zero_add, Nat.add_zero, Nat.reduceAdd, Nat.reduceBEq, Nat.reduceEqDiff, Nat.ble, BEq.rfl, Bool.and_true, Bool.and_self, cond_true, beq_self_eq_true]; rfl)) (by first | rfl | (simp; done))) rfl ?_
          clear hl a; intro a hl
          refine d_one (i := 2) (by kernel_rfl) rfl ?_
          try clear hM
          refine id (w_call hl hh rfl trivial rfl cal13 rfl (step_spec hI.sh bb tT tf (560 * z.i) (400 * z.i) ⟨by omega, by omega⟩ (by omega) (by omega) hI.gh o.k o.a o.b o.c hoa) (by repeat (first | exact keeps_nil | apply keeps_cons (by repeat (first | exact find_head | apply find_tail | apply find_skip)) (by first  | rfl) | exact keeps_self | exact keeps_left | apply keeps_app | apply keeps_mv | apply keeps_skip)) (pt_law hh hpre.2 (by repeat (first | exact keeps_nil | apply keeps_cons (by repeat (first | exact find_head | apply find_tail | apply find_skip)) (by first  | rfl) | exact keeps_self | exact keeps_left | apply keeps_app | apply keeps_mv | apply keeps_skip))) ?_)
          clear hl hh a w; intro vc Fc a w hR hl hh
          obtain ⟨rfl, N2, hF2, hT2, hH2, hbm3, hbt3⟩ := hR
          try simp only [List.cons_append, List.nil_append, List.append_assoc, List.append_nil] at hh
          subst hF2
          obtain ⟨hw1, hw2, hw3⟩ := step_core (o := ⟨o.k, o.a, o.b, o.c⟩) hI.ep hI.tb hI.qh (by assumption) (by rw [← hcd]; assumption)
          have hN2 : MIall (stepG z.h ⟨o.k, o.a, o.b, o.c⟩).1 := step_MI hI.gh ⟨by omega, by omega⟩ (by omega) (by omega) hI.mh
          rw [hw1, ← hcd, ← hwk] at hl
          rw [← hg2] at hw2 hw3
          have hM : Mem [(k7, C (opc o) 32), (k8, C [.int .i64 cd, .int .u16 (mi wk)] 37)] w := (memK hh (by repeat (first | exact keeps_nil | apply keeps_cons (by repeat (first | exact find_head | apply find_tail | apply find_skip)) (by first  | rfl) | exact keeps_self | exact keeps_left | apply keeps_app | apply keeps_mv | apply keeps_skip)))
          refine d_step (fun _ => hM) ?_
          refine d_takeL (i := 4) hl rfl (by kernel_rfl) (by kernel_rfl) (by kernel_rfl) (by kernel_rfl) (by kernel_rfl) rfl trivial (fun _ _ _ h => h) (fun w => r_neqSame hl rfl rfl eqf37 shp37 rfl (fit37 (by rw [hcd]; exact step_cd _ _))) rfl ?_
          clear hl a; intro a hl
          refine d_done (by kernel_rfl) ?_
          try clear hM
          have hl2 := hl.add (t := 3) (hl.add (t := 4) (hl.add (t := 5) (hl.add (t := 18) (hl.add (t := 19) (hl.add (t := 20) (hl.add (t := 43) (hl.nil) rfl) rfl) rfl) rfl) rfl) rfl) rfl; clear hl; have hl := hl2; clear hl2
          refine then_normal ?_
          refine c_condF hl rfl ?_
          refine wp_skip ?_
          refine then_normal ?_
          refine c_region ?_
          refine wl (wl_val hl rfl trivial (r_move hl rfl) ?_)
          clear hl a; intro a hl
          refine wl (w_call hl hh rfl trivial rfl cal19 rfl (drain_spec hT2 bb tT tf (560 * z.i + 40) (400 * z.i + 400) ⟨by omega, by omega⟩ (by omega) (by omega) hH2 0 ⟨by omega, by omega⟩) (by repeat (first | exact keeps_nil | apply keeps_cons (by repeat (first | exact find_head | apply find_tail | apply find_skip)) (by first  | rfl) | exact keeps_self | exact keeps_left | apply keeps_app | apply keeps_mv | apply keeps_skip)) (pt_law hh hpre.2 (by repeat (first | exact keeps_nil | apply keeps_cons (by repeat (first | exact find_head | apply find_tail | apply find_skip)) (by first  | rfl) | exact keeps_self | exact keeps_left | apply keeps_app | apply keeps_mv | apply keeps_skip))) ?_)
          clear hl hh a w; intro vc Fc a w hR hl hh
          obtain ⟨rfl, h3, N3, hF3, hD3, hT3, hbm4, hbt4⟩ := hR
          try simp only [List.cons_append, List.nil_append, List.append_assoc, List.append_nil] at hh
          subst hF3
          refine w_nil ?_
          have hl2 := hl.add (t := 3) (hl.add (t := 4) (hl.add (t := 5) (hl.add (t := 18) (hl.add (t := 19) (hl.add (t := 20) (hl.nil) rfl) rfl) rfl) rfl) rfl) rfl; clear hl; have hl := hl2; clear hl2
          refine blk_normal ?_
          refine then_normal ?_
          refine c_region ?_
          first | refine wl (wl_val hl rfl trivial (r_add hl rfl rfl (by simp only [Fits]; omega)) ?_) | refine wl (wl_val hl rfl trivial (r_addW hl rfl rfl) ?_)
          clear hl a; intro a hl
          refine wl (wl_val hl rfl trivial (r_move hl rfl) ?_)
          clear hl a; intro a hl
          refine w_nil ?_
          have hl2 := hl.add (t := 3) (hl.add (t := 4) (hl.add (t := 5) (hl.add (t := 18) (hl.add (t := 19) (hl.add (t := 20) (hl.nil) rfl) rfl) rfl) rfl) rfl) rfl; clear hl; have hl := hl2; clear hl2
          refine then_normal ?_
          first | refine ⟨⟨g2, M2, z.h, z.N, IntKind.i64.wrap (z.s + o.a), z.i + 1⟩, (by simp only; omega), ⟨by simp only; omega, hI.skip hS2 hG3 hM2 (by rw [hg2]; exact step_4 (by assumption)) _⟩, hl.addE (t := 20) (hl.addE (t := 5) (hl.addE (t := 3) (hl.addE (t := 4) (hl.addE (t := 18) (hl.addE (t := 19) (hl.nil) rfl (by first | rfl | (congr 1; omega))) rfl (by first | rfl | (congr 1; omega))) rfl (by first | rfl | (congr 1; omega))) rfl (by first | rfl | (congr 1; omega))) rfl (by first | rfl | (congr 1; omega))) rfl (by first | rfl | (congr 1; omega)), hh.keep (by repeat (first | exact keeps_nil | apply keeps_cons (by repeat (first | exact find_head | apply find_tail | apply find_skip)) (by first  | rfl) | exact keeps_self | exact keeps_left | apply keeps_app | apply keeps_mv | apply keeps_skip))⟩ | refine ⟨⟨g2, M2, z.h, z.N, IntKind.i64.wrap (z.s + o.a), z.i + 1⟩, (by simp only; omega), ⟨by simp only; omega, hI.skip hS2 hG3 hM2 (by rw [hg2]; exact ref_core hI.gg (by omega) (by rw [← hcd]; assumption)) _⟩, hl.addE (t := 20) (hl.addE (t := 5) (hl.addE (t := 3) (hl.addE (t := 4) (hl.addE (t := 18) (hl.addE (t := 19) (hl.nil) rfl (by first | rfl | (congr 1; omega))) rfl (by first | rfl | (congr 1; omega))) rfl (by first | rfl | (congr 1; omega))) rfl (by first | rfl | (congr 1; omega))) rfl (by first | rfl | (congr 1; omega))) rfl (by first | rfl | (congr 1; omega)), hh.keep (by repeat (first | exact keeps_nil | apply keeps_cons (by repeat (first | exact find_head | apply find_tail | apply find_skip)) (by first  | rfl) | exact keeps_self | exact keeps_left | apply keeps_app | apply keeps_mv | apply keeps_skip))⟩ | refine ⟨⟨g2, M2, h3, N3, IntKind.i64.wrap (z.s + o.a), z.i + 1⟩, (by simp only; omega), ⟨by simp only; omega, hI.go hS2 hG3 hM2 hw2 hw3 hN2 hT3 hD3 _⟩, hl.addE (t := 20) (hl.addE (t := 5) (hl.addE (t := 3) (hl.addE (t := 4) (hl.addE (t := 18) (hl.addE (t := 19) (hl.nil) rfl (by first | rfl | (congr 1; omega))) rfl (by first | rfl | (congr 1; omega))) rfl (by first | rfl | (congr 1; omega))) rfl (by first | rfl | (congr 1; omega))) rfl (by first | rfl | (congr 1; omega))) rfl (by first | rfl | (congr 1; omega)), hh.keep (by repeat (first | exact keeps_nil | apply keeps_cons (by repeat (first | exact find_head | apply find_tail | apply find_skip)) (by first  | rfl) | exact keeps_self | exact keeps_left | apply keeps_app | apply keeps_mv | apply keeps_skip))⟩
    · intro hc1
      try simp only [decide_eq_true_eq, decide_eq_false_iff_not, Bool.not_eq_true', Bool.not_eq_false', Bool.not_eq_true, Bool.not_eq_false, Bool.and_eq_true, Bool.or_eq_true, Bool.and_eq_false_iff, Bool.or_eq_false_iff, Bool.not_not, ne_eq, Int.not_lt, Int.not_le, Decidable.not_not, beq_iff_eq, bne_iff_ne] at hc1
      refine wp_exit ?_
      refine then_exit ?_
      refine then_exit ?_
      refine blk_exit ?_
      refine then_normal ?_
      refine c_seq ?_
      refine c_region ?_
      refine wl (wl_val hl rfl trivial (r_move hl rfl) ?_)
      clear hl a; intro a hl
      refine wl (wl_val hl rfl trivial (r_move hl rfl) ?_)
      clear hl a; intro a hl
      refine wl (w_call hl hh rfl trivial rfl cal19 rfl (drain_spec hI.sg ba tT tf (40 * z.i) (400 * z.i) ⟨by omega, by omega⟩ (by omega) (by omega) hI.gg z.s hI.s) (by repeat (first | exact keeps_nil | apply keeps_cons (by repeat (first | exact find_head | apply find_tail | apply find_skip)) (by first  | rfl) | exact keeps_self | exact keeps_left | apply keeps_app | apply keeps_mv | apply keeps_skip)) (pt_law hh hpre.2 (by repeat (first | exact keeps_nil | apply keeps_cons (by repeat (first | exact find_head | apply find_tail | apply find_skip)) (by first  | rfl) | exact keeps_self | exact keeps_left | apply keeps_app | apply keeps_mv | apply keeps_skip))) ?_)
      clear hl hh a w; intro vc Fc a w hR hl hh
      obtain ⟨rfl, g3, M3, hF3, hD3, hS3, hbm4, hbt4⟩ := hR
      try simp only [List.cons_append, List.nil_append, List.append_assoc, List.append_nil] at hh
      subst hF3
      have hE9 := quiet_eq hD3.gi (hD3.mi hI.mg) hD3.qt hI.gh hI.mh hI.qh (hI.ep.trans hD3.ep.symm) (hI.tb.trans hD3.tb.symm)
      refine w_nil ?_
      have hl2 := hl.add (t := 3) (hl.add (t := 4) (hl.nil) rfl) rfl; clear hl; have hl := hl2; clear hl2
      refine then_normal ?_
      refine c_seq ?_
      refine c_region ?_
      refine wl (wl_val hl rfl trivial (r_move hl rfl) ?_)
      clear hl a; intro a hl
      refine wl (w_call hl hh rfl trivial rfl cal28 rfl (snap_spec hS3 ba (40 * z.i + 512) (400 * z.i) ⟨by omega, by omega⟩ hD3.gi) (by repeat (first | exact keeps_nil | apply keeps_cons (by repeat (first | exact find_head | apply find_tail | apply find_skip)) (by first  | rfl) | exact keeps_self | exact keeps_left | apply keeps_app | apply keeps_mv | apply keeps_skip)) (memK (E := sysL ba M3) hh (by repeat (first | exact keeps_nil | apply keeps_cons (by repeat (first | exact find_head | apply find_tail | apply find_skip)) (by first  | rfl) | exact keeps_self | exact keeps_left | apply keeps_app | apply keeps_mv | apply keeps_skip))) ?_)
      clear hl hh a w; intro vc Fc a w hR hl hh
      obtain ⟨ev2, bv2, Ee2, Eb2, rfl, hSn, rfl⟩ := hR
      try simp only [List.cons_append, List.nil_append, List.append_assoc, List.append_nil] at hh
      refine wl (wl_val hl rfl trivial (r_move hl rfl) ?_)
      clear hl a; intro a hl
      refine wl (w_call hl hh rfl trivial rfl cal28 rfl (snap_spec hI.sh bb (560 * z.i) (400 * z.i) ⟨by omega, by omega⟩ hI.gh) (by repeat (first | exact keeps_nil | apply keeps_cons (by repeat (first | exact find_head | apply find_tail | apply find_skip)) (by first  | rfl) | exact keeps_self | exact keeps_left | apply keeps_app | apply keeps_mv | apply keeps_skip)) (memK (E := sysL bb z.N) hh (by repeat (first | exact keeps_nil | apply keeps_cons (by repeat (first | exact find_head | apply find_tail | apply find_skip)) (by first  | rfl) | exact keeps_self | exact keeps_left | apply keeps_app | apply keeps_mv | apply keeps_skip))) ?_)
      clear hl hh a w; intro vc Fc a w hR hl hh
      obtain ⟨ev3, bv3, Ee3, Eb3, rfl, hSn2, rfl⟩ := hR
      try simp only [List.cons_append, List.nil_append, List.append_assoc, List.append_nil] at hh
      refine wl (w_alloc hl hh rfl trivial zero75 rfl ?_)
      clear hl hh a w; intro k9 a w hl hh
      refine wl (w_alloc hl hh rfl trivial zero75 rfl ?_)
      clear hl hh a w; intro k10 a w hl hh
      refine wl (w_storeA hl hh trivial agg75 rfl rfl (by repeat (first | exact find_head | apply find_tail | apply find_skip)) (by exact snC_len _ _ _) (by first | exact Nat.le_of_eq (arrL_length _ _).symm | (rw [snC_len]; exact Nat.le_refl _)) (by first | exact snC_one hSn | exact snC_one hSn2) (by exact setL_whole (by first | rw [snC_len, arrL_length] | rw [snC_len, snC_len])) ?_)
      clear hh w; intro w hh
      refine wl (w_storeA hl hh trivial agg75 rfl rfl (by repeat (first | exact find_head | apply find_tail | apply find_skip)) (by exact snC_len _ _ _) (by first | exact Nat.le_of_eq (arrL_length _ _).symm | (rw [snC_len]; exact Nat.le_refl _)) (by first | exact snC_one hSn | exact snC_one hSn2) (by exact setL_whole (by first | rw [snC_len, arrL_length] | rw [snC_len, snC_len])) ?_)
      clear hh w; intro w hh
      refine w_nil ?_
      have hl2 := hl.add (t := 9) (hl.add (t := 10) (hl.nil) rfl) rfl; clear hl; have hl := hl2; clear hl2
      refine then_normal ?_
      refine c_seq ?_
      refine c_region ?_
      refine wl (w_call hl hh rfl trivial rfl cal29 rfl (eqState_spec (g := g3) (B := 40 * z.i + 512) (Q := 400 * z.i) ⟨by omega, by omega⟩ hD3.gi k9 k10 ev2 bv2 ev3 bv3 Ee2 Eb2 Ee3 Eb3 hSn (hE9.snr hSn2)) (by repeat (first | exact keeps_nil | apply keeps_cons (by repeat (first | exact find_head | apply find_tail | apply find_skip)) (by first  | rfl) | exact keeps_self | exact keeps_left | apply keeps_app | apply keeps_mv | apply keeps_skip)) ⟨memK (E := snL k9 g3 ev2 bv2 Ee2 Eb2) hh (by repeat (first | exact keeps_nil | apply keeps_cons (by repeat (first | exact find_head | apply find_tail | apply find_skip)) (by first  | rfl) | exact keeps_self | exact keeps_left | apply keeps_app | apply keeps_mv | apply keeps_skip)), by have hx9 := memK (E := snL k10 z.h ev3 bv3 Ee3 Eb3) hh (by repeat (first | exact keeps_nil | apply keeps_cons (by repeat (first | exact find_head | apply find_tail | apply find_skip)) (by first  | rfl) | exact keeps_self | exact keeps_left | apply keeps_app | apply keeps_mv | apply keeps_skip)); unfold snL at hx9 ⊢; rw [hE9.snc] at hx9; exact hx9⟩ ?_)
      clear hl hh a w; intro vc Fc a w hR hl hh
      obtain ⟨rfl, rfl⟩ := hR
      try simp only [List.cons_append, List.nil_append, List.append_assoc, List.append_nil] at hh
      refine wl (wl_val hl rfl trivial (r_assign hl rfl) ?_)
      clear hl a; intro a hl
      refine w_nil ?_
      have hl2 := hl.add (t := 2) (hl.nil) rfl; clear hl; have hl := hl2; clear hl2
      refine then_normal ?_
      refine wp_ret ?_
      refine f_ret1 (F' := []) hl hh rfl rfl (by repeat (first | exact keeps_nil | apply keeps_cons (by repeat (first | exact find_head | apply find_tail | apply find_skip)) (by first  | rfl) | exact keeps_self | exact keeps_left | apply keeps_app | apply keeps_mv | apply keeps_skip)) ?_
      exact ⟨rfl, rfl⟩
end Go.Proofs.Qxb6500911aDoor

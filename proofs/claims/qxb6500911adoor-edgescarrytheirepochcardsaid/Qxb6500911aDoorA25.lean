import Derived.Test.Qxb6500911aDoorA24
namespace Go.Proofs.Qxb6500911aDoor
open Go.Eng
set_option linter.unusedVariables false
set_option linter.unusedSimpArgs false
theorem bld107 : buildOk Tryd.prog 107 [(0, 16), (16, 16)] = true := by kernel_rfl
theorem zero107 : zeroOk Tryd.prog 107 (.agg #[(.int .u64 0), (.int .u64 0), (.int .u64 0), (.int .u64 0), (.int .u64 0), (.int .u64 0), (.int .u64 0), (.int .u64 0), (.int .u64 0), (.int .u64 0), (.int .u64 0), (.int .u64 0), (.int .u64 0), (.int .u64 0), (.int .u64 0), (.int .u64 0), (.slice none 0 0), (.slice none 0 0), (.slice none 0 0), (.slice none 0 0), (.slice none 0 0), (.slice none 0 0), (.slice none 0 0), (.slice none 0 0), (.slice none 0 0), (.slice none 0 0), (.slice none 0 0), (.slice none 0 0), (.slice none 0 0), (.slice none 0 0), (.slice none 0 0), (.slice none 0 0)]) := by unfold zeroOk; kernel_rfl
theorem agg115 : aggOk Tryd.prog 115 320 = true := by kernel_rfl
theorem cal70 : callable Tryd.prog 70 = true := by kernel_rfl
theorem agg107 : aggOk Tryd.prog 107 32 = true := by kernel_rfl
theorem cal71 : callable Tryd.prog 71 = true := by kernel_rfl
theorem cal46 : callable Tryd.prog 46 = true := by kernel_rfl
theorem cal47 : callable Tryd.prog 47 = true := by kernel_rfl
theorem cal48 : callable Tryd.prog 48 = true := by kernel_rfl
/-! ## copies -/
structure CZ where
  f : Nat → Value
  E : Nat → List (Nat × Obj)
  i : Nat
structure CM1 (bx : Nat → List Ms) (z : CZ) : Prop where
  i : z.i ≤ 16
  r : ∀ b, b < z.i → Row (z.f b) (bx b).length (fl msc (bx b)) 7 83 (z.E b)
theorem CM1.next {bx : Nat → List Ms} {z : CZ} {v : Value} {X : List (Nat × Obj)} (h : CM1 bx z) (hi : z.i < 16) (h2 : Row v (bx z.i).length (fl msc (bx z.i)) 7 83 X) : CM1 bx ⟨updV z.f z.i v, updE z.E z.i X, z.i + 1⟩ := by
  refine ⟨by simp only; omega, fun c hc => ?_⟩
  simp only at hc ⊢
  by_cases e : c = z.i
  · subst e; rw [updV_self, updE_self]; exact h2
  · rw [updV_ne _ _ e, updE_ne _ _ e]; exact h.r c (by omega)
structure CT1 (tb : Tab) (z : CZ) : Prop where
  i : z.i ≤ 20
  h : ∀ r t, r < 20 → t < 16 → z.f (16 * r + t) = .int .i64 (tb.held r t)
  r : ∀ b, b < z.i → Row (z.f (320 + b)) (tb.q b).length (fl rqc (tb.q b)) 2 119 (z.E b)
theorem CT1.next {tb : Tab} {z : CZ} {v : Value} {X : List (Nat × Obj)} (h : CT1 tb z) (hi : z.i < 20) (h2 : Row v (tb.q z.i).length (fl rqc (tb.q z.i)) 2 119 X) : CT1 tb ⟨updV z.f (320 + z.i) v, updE z.E z.i X, z.i + 1⟩ := by
  refine ⟨by simp only; omega, fun r t hr ht => ?_, fun c hc => ?_⟩
  · simp only; rw [updV_ne _ _ (by omega)]; exact h.h r t hr ht
  · simp only at hc ⊢
    by_cases e : c = z.i
    · subst e; rw [updV_self, updE_self]; exact h2
    · rw [updV_ne _ _ (by omega), updE_ne _ _ e]; exact h.r c (by omega)
theorem tab_helds {tb : Tab} {f : Nat → Value} {E : Nat → List (Nat × Obj)} : ((arrL 340 f).drop (0 + 0)).take 320 = arrL 320 f := by
  rw [arrL_cut (by omega)]
  exact arrL_congr fun j hj => by rw [show 0 + 0 + j = j by omega]
theorem fill117 {g : Nat → Value} {pl : List (Nat × Nat)} (h0 : pl[0]? = some (0, 320)) : fillL pl (arrL 340 z117) [(0, .agg ⟨arrL 320 g⟩)] = some (arrL 340 (fun j => if j < 320 then g j else .slice none 0 0)) := by
  have e1 : (Value.agg ⟨arrL 320 g⟩).cells.toList = arrL 320 g := rfl
  rw [fillL_cons h0 (by rw [e1]; exact arrL_length _ _) (by rw [arrL_length]; omega), e1, arrL_setA (by omega)]
  simp only [fillL]
  congr 1
  refine arrL_congr fun j hj => ?_
  by_cases c : j < 320
  · rw [if_pos (by omega), if_pos c, Nat.sub_zero]
  · rw [if_neg (by omega), if_neg c]; unfold z117; rw [if_neg c]
/-- a shard's block, as clone hands it over -/
def shC (fz : Nat → Int) (v : Nat → Value) : Nat → Value := fun j => if j < 16 then .int .u64 (fz j) else v (j - 16)
theorem zeroC107 : zeroOk Tryd.prog 107 (.agg ⟨arrL 32 (shC (fun _ => 0) (fun _ => .slice none 0 0))⟩) := by unfold zeroOk; kernel_rfl
theorem fill107 {fz : Nat → Int} {pl : List (Nat × Nat)} (h0 : pl[0]? = some (0, 16)) : fillL pl (arrL 32 (shC (fun _ => 0) (fun _ => .slice none 0 0))) [(0, .agg ⟨arrL 16 (fun q => .int .u64 (fz q))⟩)] = some (arrL 32 (shC fz (upto 0 (fun _ => .slice none 0 0)))) := by
  have e1 : (Value.agg ⟨arrL 16 (fun q => .int .u64 (fz q))⟩).cells.toList = arrL 16 (fun q => .int .u64 (fz q)) := rfl
  rw [fillL_cons h0 (by rw [e1]; exact arrL_length _ _) (by rw [arrL_length]; omega), e1, arrL_setA (by omega)]
  simp only [fillL]
  congr 1
  refine arrL_congr fun j hj => ?_
  unfold shC upto
  by_cases c : j < 16
  · rw [if_pos (by omega), if_pos c, Nat.sub_zero]
  · rw [if_neg (by omega), if_neg c, if_neg c, if_neg (by omega)]
theorem shC_set {fz : Nat → Int} {v : Nat → Value} {i : Nat} {x : Value} (hi : i < 16) : setL (arrL 32 (shC fz (upto i v))) (0 + 16 + i * 1) [x] = arrL 32 (shC fz (upto (i + 1) (updV v i x))) := by
  rw [show 0 + 16 + i * 1 = 16 + i by omega, arrL_set (by omega)]
  refine arrL_congr fun j hj => ?_
  unfold updV shC upto
  by_cases c : j = 16 + i
  · subst c; rw [if_pos rfl, if_neg (by omega), if_pos (by omega)]; simp
  · rw [if_neg c]
    by_cases c2 : j < 16
    · rw [if_pos c2, if_pos c2]
    · rw [if_neg c2, if_neg c2]
      by_cases c3 : j - 16 < i
      · rw [if_pos c3, if_pos (by omega)]; simp only; rw [if_neg (by omega)]
      · rw [if_neg c3, if_neg (by omega)]
theorem shC_upto {fz : Nat → Int} {v : Nat → Value} : arrL 32 (shC fz (upto 16 v)) = arrL 32 (shC fz v) := arrL_congr fun j hj => by
  unfold shC upto
  by_cases c2 : j < 16
  · rw [if_pos c2, if_pos c2]
  · rw [if_neg c2, if_neg c2, if_pos (by omega)]
structure CW1 (ws : Nat → List Wt) (z : CZ) : Prop where
  i : z.i ≤ 16
  r : ∀ b, b < z.i → Row (z.f b) (ws b).length (fl wtc (ws b)) 18 151 (z.E b)
theorem CW1.next {ws : Nat → List Wt} {z : CZ} {v : Value} {X : List (Nat × Obj)} (h : CW1 ws z) (hi : z.i < 16) (h2 : Row v (ws z.i).length (fl wtc (ws z.i)) 18 151 X) : CW1 ws ⟨updV z.f z.i v, updE z.E z.i X, z.i + 1⟩ := by
  refine ⟨by simp only; omega, fun c hc => ?_⟩
  simp only at hc ⊢
  by_cases e : c = z.i
  · subst e; rw [updV_self, updE_self]; exact h2
  · rw [updV_ne _ _ e, updE_ne _ _ e]; exact h.r c (by omega)
theorem shC_one {fz : Nat → Int} {v : Nat → Value} (h : ∀ b, b < 16 → (v b).oneCell' = true) : (arrL 32 (shC fz v)).all (·.oneCell') = true := arrL_all2 fun j hj => by
  unfold shC
  by_cases c2 : j < 16
  · rw [if_pos c2]; rfl
  · rw [if_neg c2]; exact h _ (by omega)
theorem arr_whole32 (g : Nat → Value) : ((arrL 32 g).drop 0).take 32 = arrL 32 g := by rw [List.drop_zero, List.take_of_length_le (by rw [arrL_length]; omega)]
theorem fill110c {p q : Value} {ep : Nat → Int} (hp : p.cells.toList = [p]) (hq : q.cells.toList = [q]) {pl : List (Nat × Nat)} (h0 : pl[0]? = some (0, 1)) (h1 : pl[1]? = some (1, 1)) (h2 : pl[2]? = some (2, 16)) : fillL pl (arrL 146 z110) [(0, p), (1, q), (2, .agg ⟨arrL 16 (fun t => .int .u64 (ep t))⟩)] = some (arrL 146 (fgE (updV (updV z110 0 p) 1 q) ep)) := by
  have e1 : (Value.agg ⟨arrL 16 (fun t => .int .u64 (ep t))⟩).cells.toList = arrL 16 (fun t => .int .u64 (ep t)) := rfl
  rw [fillL_cons h0 (by rw [hp]; rfl) (by rw [arrL_length]; omega), hp, arrL_set (by omega), fillL_cons h1 (by rw [hq]; rfl) (by rw [arrL_length]; omega), hq, arrL_set (by omega), fillL_cons h2 (by rw [e1]; exact arrL_length _ _) (by rw [arrL_length]; omega), e1, arrL_setA (by omega)]
  simp only [fillL]
  congr 1
/-- a graph whose first c shards are copied -/
structure CG1 (g : Gs) (bm bt : Nat) (z : CZ) : Prop where
  i : z.i ≤ 4
  p0 : z.f 0 = .pointer (some ⟨bm, 0, none⟩)
  p1 : z.f 1 = .pointer (some ⟨bt, 0, none⟩)
  ep : ∀ t, t < 16 → z.f (2 + t) = .int .u64 (g.ep t)
  sh : ∀ c q, c < z.i → q < 16 → ShR z.f c q (flK g.flr c q) (wsK g.ws c q) (z.E (16 * c + q))
def cpE (E : Nat → List (Nat × Obj)) (c : Nat) (X : Nat → List (Nat × Obj)) : Nat → List (Nat × Obj) := fun j => if 16 * c ≤ j ∧ j < 16 * c + 16 then X (j - 16 * c) else E j
def cpF (f : Nat → Value) (c : Nat) (h : Nat → Value) : Nat → Value := fun j => if 0 + 18 + c * 32 ≤ j ∧ j < 0 + 18 + c * 32 + 32 then h (j - (0 + 18 + c * 32)) else f j
theorem CG1.next {g : Gs} {bm bt : Nat} {z : CZ} {v : Nat → Value} {X : Nat → List (Nat × Obj)} (h : CG1 g bm bt z) (hi : z.i < 4) (h2 : ∀ q, q < 16 → Row (v q) (wsK g.ws z.i q).length (fl wtc (wsK g.ws z.i q)) 18 151 (X q)) : CG1 g bm bt ⟨cpF z.f z.i (shC (flK g.flr z.i) v), cpE z.E z.i X, z.i + 1⟩ := by
  refine ⟨by simp only; omega, ?_, ?_, fun t ht => ?_, fun c q hc hq => ?_⟩
  · simp only [cpF]; rw [if_neg (by omega)]; exact h.p0
  · simp only [cpF]; rw [if_neg (by omega)]; exact h.p1
  · simp only [cpF]; rw [if_neg (by omega)]; exact h.ep t ht
  · simp only at hc ⊢
    by_cases e : c = z.i
    · subst e
      refine ⟨?_, ?_⟩
      · simp only [cpF, shC]
        rw [if_pos (by omega), if_pos (by omega)]; congr 2; omega
      · simp only [cpF, shC, cpE]
        rw [if_pos (by omega), if_neg (by omega), if_pos (by omega), show 34 + 32 * z.i + q - (0 + 18 + z.i * 32) - 16 = q by omega, show 16 * z.i + q - 16 * z.i = q by omega]
        exact h2 q hq
    · have := h.sh c q (by omega) hq
      refine ⟨?_, ?_⟩
      · simp only [cpF]; rw [if_neg (by omega)]; exact this.flr
      · simp only [cpF, cpE]; rw [if_neg (by omega), if_neg (by omega)]; exact this.row
theorem famS (E : Nat → List (Nat × Obj)) (n : Nat) : fam E (n + 1) = fam E n ++ E n := by
  conv => lhs; unfold fam
theorem fam_app (E : Nat → List (Nat × Obj)) (n : Nat) : ∀ m, fam E (n + m) = fam E n ++ fam (fun j => E (n + j)) m
  | 0 => by rw [fam0, List.append_nil]; rfl
  | m + 1 => by
    have e1 : fam E (n + m + 1) = fam E (n + m) ++ E (n + m) := famS _ _
    have e2 : fam (fun j => E (n + j)) (m + 1) = fam (fun j => E (n + j)) m ++ E (n + m) := famS _ _
    rw [show n + (m + 1) = n + m + 1 by omega]
    rw [e1, e2, fam_app E n m, List.append_assoc]
theorem fam_cp (E : Nat → List (Nat × Obj)) (c : Nat) (X : Nat → List (Nat × Obj)) : fam (cpE E c X) (16 * (c + 1)) = fam E (16 * c) ++ fam X 16 := by
  rw [show 16 * (c + 1) = 16 * c + 16 by omega, fam_app]
  congr 1
  · exact fam_congr fun j hj => by unfold cpE; rw [if_neg (by omega)]
  · exact fam_congr fun j hj => by unfold cpE; rw [if_pos (by omega)]; congr 1; omega
theorem CG1.done {g : Gs} {bm bt : Nat} {z : CZ} (h : CG1 g bm bt z) (hi : z.i = 4) : GrF g.ep g.flr g.ws bm bt z.f z.E := ⟨h.p0, h.p1, h.ep, fun c q hc hq => h.sh c q (by omega) hq⟩


set_option maxHeartbeats 2000000 in
theorem cloneM_spec {bx : Nat → List Ms} {f : Nat → Value} {E : Nat → List (Nat × Obj)} (hM0 : MacF bx f E) (bm : Nat) (h32 : ∀ b, b < 16 → (bx b).length ≤ 32) : SpK Tryd.prog 46 #[.pointer (some ⟨bm, 0, none⟩)] (Mem (mcL bm f E)) [] (fun v F' => ∃ bm' f' E', v = .pointer (some ⟨bm', 0, none⟩) ∧ F' = mcL bm' f' E' ∧ MacF bx f' E') := by
  refine f_enter (args := [.pointer (some ⟨bm, 0, none⟩)]) Tryd.func46 rfl Tryd.ntmps46 rfl ?_
  intro w0 w a hpre hl hh
  have hmM := hpre _ _ (List.mem_cons_self ..)
  simp only [slotsFrom, Nat.reduceAdd] at hl
  refine c_seq ?_
  refine c_region ?_
  refine wl (wl_val hl rfl trivial (r_assign hl rfl) ?_)
  clear hl a; intro a hl
  refine w_nil ?_
  have hl2 := hl.add (t := 0) (hl.nil) rfl; clear hl; have hl := hl2; clear hl2
  refine then_normal ?_
  refine c_seq ?_
  refine c_region ?_
  refine wl (w_call hl hh rfl trivial rfl cal35 rfl (newM_spec) (by repeat (first | exact keeps_nil | apply keeps_cons (by repeat (first | exact find_head | apply find_tail | apply find_skip)) (by first  | rfl) | exact keeps_self | exact keeps_left | apply keeps_app | apply keeps_mv | apply keeps_skip)) trivial ?_)
  clear hl hh a w; intro vc Fc a w hR hl hh
  obtain ⟨bn, rfl, rfl⟩ := hR
  try simp only [List.cons_append, List.nil_append, List.append_assoc, List.append_nil] at hh
  refine wl (wl_val hl rfl trivial (r_assign hl rfl) ?_)
  clear hl a; intro a hl
  refine w_nil ?_
  have hl2 := hl.add (t := 0) (hl.add (t := 3) (hl.nil) rfl) rfl; clear hl; have hl := hl2; clear hl2
  refine then_normal ?_
  refine c_seq ?_
  refine c_seq ?_
  refine c_region ?_
  refine wl (wl_val hl rfl trivial (r_move hl rfl) ?_)
  clear hl a; intro a hl
  refine w_nil ?_
  have hl2 := hl.add (t := 0) (hl.add (t := 3) (hl.add (t := 6) (hl.nil) rfl) rfl) rfl; clear hl; have hl := hl2; clear hl2
  refine then_normal ?_
  refine wp_block ?_
  obtain ⟨KS0, hKS0, hk⟩ := (hl.add (t := 0) (hl.add (t := 3) (hl.nil) rfl) rfl).name
  obtain ⟨HS0, hHS0, hh2⟩ := hh.nameT (A := [(bn, C (arrL 16 (fun _ => .slice none 0 0)) 103)]) (U := (fam (fun _ => []) 0)) (keeps_cons (b := bn) (o' := C (arrL 16 (fun _ => .slice none 0 0)) 103) (by repeat (first | exact find_head | apply find_tail | apply find_skip)) (by first | rfl) ((by rw [fam0]; repeat (first | exact keeps_nil | exact keeps_self | exact keeps_left | apply keeps_app | apply keeps_mv | apply keeps_skip))))
  refine c_loop (α := CZ) (fun z => 16 - z.i) (fun z a w => (CM1 bx z) ∧ Sl 23 ([(6, .int .i64 (z.i : Int))] ++ KS0) a ∧ Has _ w0 ([(bn, C (arrL 16 z.f) 103)] ++ (HS0 ++ (fam z.E z.i))) w) ⟨fun _ => .slice none 0 0, fun _ => [], 0⟩ ⟨⟨Nat.zero_le _, fun c hc => absurd hc (Nat.not_lt_zero _)⟩, hl.addE (t := 6) (hk) rfl (by first | rfl), hh2⟩ ?_
  clear hk hh2 hl hh a w
  intro z a w hI
  obtain ⟨hZ, hl, hh⟩ := hI
  subst hKS0; subst hHS0
  simp only [List.cons_append, List.nil_append, List.append_nil, List.append_assoc] at hl hh
  have hzi := hZ.i
  refine c_seq ?_
  refine c_region ?_
  refine wl (wl_val hl rfl trivial (r_lss hl rfl rfl) ?_)
  clear hl a; intro a hl
  refine w_nil ?_
  have hl2 := hl.add (t := 0) (hl.add (t := 3) (hl.add (t := 6) (hl.add (t := 7) (hl.nil) rfl) rfl) rfl) rfl; clear hl; have hl := hl2; clear hl2
  refine then_normal ?_
  refine c_seq ?_
  refine c_cond hl rfl ?_ ?_
  · intro hc0
    try simp only [decide_eq_true_eq, decide_eq_false_iff_not, Bool.not_eq_true', Bool.not_eq_false', Bool.not_eq_true, Bool.not_eq_false, Bool.and_eq_true, Bool.or_eq_true, Bool.and_eq_false_iff, Bool.or_eq_false_iff, Bool.not_not, ne_eq, Int.not_lt, Int.not_le, Decidable.not_not, beq_iff_eq, bne_iff_ne] at hc0
    obtain ⟨p9, c9, hpc⟩ := row_val (hM0.row z.i (by omega))
    have hb32 := h32 z.i (by omega)
    refine wp_skip ?_
    refine then_normal ?_
    refine c_seq ?_
    refine wp_block ?_
    refine c_seq ?_
    refine c_region ?_
    refine wl (wl_val hl rfl trivial (r_move hl rfl) ?_)
    clear hl a; intro a hl
    refine wl (wl_val hl rfl trivial (r_assign hl rfl) ?_)
    clear hl a; intro a hl
    refine w_nil ?_
    have hl2 := hl.add (t := 0) (hl.add (t := 3) (hl.add (t := 4) (hl.add (t := 6) (hl.nil) rfl) rfl) rfl) rfl; clear hl; have hl := hl2; clear hl2
    refine then_normal ?_
    refine c_draw [(bm, C (arrL 16 f) 103)] [11, 12] mixed hh ?_
    clear hh w; intro w hh
    have hM : Mem [(bm, C (arrL 16 f) 103)] w := (by (repeat (first | exact Mem.nil | refine Mem.consR hh (by assumption) (by simp) ?_ | refine Mem.cons hh.mem (by (repeat (first | exact find_head | apply find_tail | apply find_skip)); done) ?_ | fail)); done)
    refine d_take (i := 0) hl rfl (by kernel_rfl) (by kernel_rfl) (by kernel_rfl) (by kernel_rfl) (by kernel_rfl) rfl trivial (fun _ _ _ h => h) hM (fun w hC => r_move hl rfl) rfl ?_
    clear hl a; intro a hl
    refine d_take (i := 1) hl rfl (by kernel_rfl) (by kernel_rfl) (by kernel_rfl) (by kernel_rfl) (by kernel_rfl) rfl trivial (fun _ _ _ h => h) hM (fun w hC => r_move hl rfl) rfl ?_
    clear hl a; intro a hl
    refine d_take (i := 2) hl rfl (by kernel_rfl) (by kernel_rfl) (by kernel_rfl) (by kernel_rfl) (by kernel_rfl) rfl trivial (fun _ _ _ h => h) hM (fun w hC => r_move hl rfl) rfl ?_
    clear hl a; intro a hl
    refine d_take (i := 3) hl rfl (by kernel_rfl) (by kernel_rfl) (by kernel_rfl) (by kernel_rfl) (by kernel_rfl) rfl trivial (fun _ _ _ h => h) hM (fun w hC => r_move hl rfl) rfl ?_
    clear hl a; intro a hl
    refine d_take (i := 4) hl rfl (by kernel_rfl) (by kernel_rfl) (by kernel_rfl) (by kernel_rfl) (by kernel_rfl) rfl trivial (fun _ _ _ h => h) hM (fun w hC => r_nilCheck hl rfl) rfl ?_
    clear hl a; intro a hl
    refine d_take (i := 5) hl rfl (by kernel_rfl) (by kernel_rfl) (by kernel_rfl) (by kernel_rfl) (by kernel_rfl) rfl trivial (fun _ _ _ h => h) hM (fun w hC => r_field hl rfl fld103_0) rfl ?_
    clear hl a; intro a hl
    refine d_take (i := 6) hl rfl (by kernel_rfl) (by kernel_rfl) (by kernel_rfl) (by kernel_rfl) (by kernel_rfl) rfl trivial (fun _ _ _ h => h) hM (fun w hC => r_indexA hl rfl rfl arr73 (by omega) (by omega) (by first | (simp only [Int.reduceToNat]; rfl) | exact toNat_add1 _ | exact toNat_add2 _ _ | exact toNat_emod _ _ | exact Int.toNat_natCast _ | rfl)) rfl ?_
    clear hl a; intro a hl
    refine d_take (i := 7) hl rfl (by kernel_rfl) (by kernel_rfl) (by kernel_rfl) (by kernel_rfl) (by kernel_rfl) rfl trivial (fun _ _ _ h => h) hM (fun w hC => r_loadC hl rfl one72 hC (by repeat (first | exact find_head | apply find_tail | apply find_skip)) (by first | exact box_q (by omega) | rfl)) rfl ?_
    clear hl a; intro a hl
    rw [hpc] at hl
    refine d_take (i := 9) hl rfl (by kernel_rfl) (by kernel_rfl) (by kernel_rfl) (by kernel_rfl) (by kernel_rfl) rfl trivial (fun _ _ _ h => h) hM (fun w hC => r_nilCheck hl rfl) rfl ?_
    clear hl a; intro a hl
    refine d_take (i := 10) hl rfl (by kernel_rfl) (by kernel_rfl) (by kernel_rfl) (by kernel_rfl) (by kernel_rfl) rfl trivial (fun _ _ _ h => h) hM (fun w hC => r_field hl rfl fld103_0) rfl ?_
    clear hl a; intro a hl
    refine d_one (i := 8) (by kernel_rfl) rfl ?_
    try clear hM
    refine id (w_call hl hh rfl trivial rfl cal69 rfl (clB_spec (bx z.i) (by omega) p9 c9 (E z.i) (hpc ▸ hM0.row z.i (by omega))) (by repeat (first | exact keeps_nil | apply keeps_cons (by repeat (first | exact find_head | apply find_tail | apply find_skip)) (by first  | rfl) | exact keeps_self | exact keeps_left | apply keeps_app | apply keeps_mv | apply keeps_skip)) (mem_keep hh (mem_famR hpre (by omega))) ?_)
    clear hl hh a w; intro vc Fc a w hR hl hh
    try simp only [List.cons_append, List.nil_append, List.append_assoc, List.append_nil] at hh
    have hRb := hR
    clear hR
    generalize Fc = X at hh hRb
    generalize vc = vb at hl hRb
    have hM : Mem [(bm, C (arrL 16 f) 103)] w := (by (repeat (first | exact Mem.nil | refine Mem.consR hh (by assumption) (by simp) ?_ | refine Mem.cons hh.mem (by (repeat (first | exact find_head | apply find_tail | apply find_skip)); done) ?_ | fail)); done)
    refine d_step (fun _ => hM) ?_
    refine d_takeL (i := 11) hl rfl (by kernel_rfl) (by kernel_rfl) (by kernel_rfl) (by kernel_rfl) (by kernel_rfl) rfl trivial (fun _ _ _ h => h) (fun w => r_indexA hl rfl rfl arr73 (by omega) (by omega) (by first | (simp only [Int.reduceToNat]; rfl) | exact toNat_add1 _ | exact toNat_add2 _ _ | exact toNat_emod _ _ | exact Int.toNat_natCast _ | rfl)) rfl ?_
    clear hl a; intro a hl
    refine d_one (i := 12) (by kernel_rfl) rfl ?_
    try clear hM
    refine id (w_store hl hh trivial one72 rfl rfl (by repeat (first | exact find_head | apply find_tail | apply find_skip)) (by first | (simp; done) | (simp; omega) | (rw [arrL_length]; omega)) (by first | rfl | assumption | (apply Row.one; assumption)) (by first | exact set_box (by omega) | (simp only [setL, List.getElem?_cons_zero, List.getElem?_cons_succ, Value.cells, List.take_zero, List.take_succ_cons, List.take_nil, List.drop_zero, List.drop_succ_cons, List.drop_nil, List.length_cons, List.length_nil, List.cons_append, List.nil_append, List.append_nil, Nat.zero_add, Nat.add_zero, Nat.reduceAdd, Nat.reduceBEq, Nat.reduceEqDiff, Nat.ble, BEq.rfl, Bool.and_true, Bool.and_self, cond_true, beq_self_eq_true]; rfl)) ?_)
    clear hh w; intro w hh
    refine d_step (fun h => absurd h (by decide)) ?_
    refine d_done (by kernel_rfl) ?_
    try clear hM
    have hl2 := hl.add (t := 0) (hl.add (t := 3) (hl.add (t := 6) (hl.nil) rfl) rfl) rfl; clear hl; have hl := hl2; clear hl2
    refine blk_normal ?_
    refine then_normal ?_
    refine c_region ?_
    first | refine wl (wl_val hl rfl trivial (r_add hl rfl rfl (by simp only [Fits]; omega)) ?_) | refine wl (wl_val hl rfl trivial (r_addW hl rfl rfl) ?_)
    clear hl a; intro a hl
    refine wl (wl_val hl rfl trivial (r_move hl rfl) ?_)
    clear hl a; intro a hl
    refine w_nil ?_
    have hl2 := hl.add (t := 0) (hl.add (t := 3) (hl.add (t := 6) (hl.nil) rfl) rfl) rfl; clear hl; have hl := hl2; clear hl2
    refine then_normal ?_
    refine ⟨⟨updV z.f z.i vb, updE z.E z.i X, z.i + 1⟩, (by simp only; omega), (hZ.next (by omega) hRb), hl.addE (t := 6) (hl.addE (t := 0) (hl.addE (t := 3) (hl.nil) rfl (by first | rfl | (congr 1; omega))) rfl (by first | rfl | (congr 1; omega))) rfl (by first | rfl | (congr 1; omega)), (by dsimp only; rw [fam_snoc]; exact hh.keep (by repeat (first | exact keeps_nil | apply keeps_cons (by repeat (first | exact find_head | apply find_tail | apply find_skip)) (by first  | rfl) | exact keeps_self | exact keeps_left | apply keeps_app | apply keeps_mv | apply keeps_skip)))⟩
  · intro hc0
    try simp only [decide_eq_true_eq, decide_eq_false_iff_not, Bool.not_eq_true', Bool.not_eq_false', Bool.not_eq_true, Bool.not_eq_false, Bool.and_eq_true, Bool.or_eq_true, Bool.and_eq_false_iff, Bool.or_eq_false_iff, Bool.not_not, ne_eq, Int.not_lt, Int.not_le, Decidable.not_not, beq_iff_eq, bne_iff_ne] at hc0
    have hz16 : z.i = 16 := by omega
    rw [hz16] at hh
    have hZr := hZ.r
    rw [hz16] at hZr
    refine wp_exit ?_
    refine then_exit ?_
    refine then_exit ?_
    refine blk_exit ?_
    refine then_normal ?_
    refine c_seq ?_
    refine c_region ?_
    refine wl (wl_val hl rfl trivial (r_move hl rfl) ?_)
    clear hl a; intro a hl
    refine wl (wl_val hl rfl trivial (r_assign hl rfl) ?_)
    clear hl a; intro a hl
    refine w_nil ?_
    have hl2 := hl.add (t := 2) (hl.nil) rfl; clear hl; have hl := hl2; clear hl2
    refine then_normal ?_
    refine wp_ret ?_
    refine f_ret1 (F' := (mcL bn z.f z.E)) hl hh rfl rfl (by repeat (first | exact keeps_nil | apply keeps_cons (by repeat (first | exact find_head | apply find_tail | apply find_skip)) (by first  | rfl) | exact keeps_self | exact keeps_left | apply keeps_app | apply keeps_mv | apply keeps_skip)) ?_
    exact ⟨bn, z.f, z.E, rfl, rfl, ⟨hZr⟩⟩

set_option maxHeartbeats 2000000 in
theorem cloneT_spec {tb : Tab} {f : Nat → Value} {E : Nat → List (Nat × Obj)} (hT : TabF tb f E) (bt : Nat) (hI : TI tb) : SpK Tryd.prog 47 #[.pointer (some ⟨bt, 0, none⟩)] (Mem (tbL bt f E)) [] (fun v F' => ∃ bt' f' E', v = .pointer (some ⟨bt', 0, none⟩) ∧ F' = tbL bt' f' E' ∧ TabF tb f' E') := by
  refine f_enter (args := [.pointer (some ⟨bt, 0, none⟩)]) Tryd.func47 rfl Tryd.ntmps47 rfl ?_
  intro w0 w a hpre hl hh
  have hmT := hpre _ _ (List.mem_cons_self ..)
  simp only [slotsFrom, Nat.reduceAdd] at hl
  refine c_seq ?_
  refine c_region ?_
  refine wl (wl_val hl rfl trivial (r_assign hl rfl) ?_)
  clear hl a; intro a hl
  refine w_nil ?_
  have hl2 := hl.add (t := 0) (hl.nil) rfl; clear hl; have hl := hl2; clear hl2
  refine then_normal ?_
  refine c_seq ?_
  refine c_region ?_
  refine wl (wl_val hl rfl trivial (r_move hl rfl) ?_)
  clear hl a; intro a hl
  refine wl (wl_val hl rfl trivial (r_nilCheck hl rfl) ?_)
  clear hl a; intro a hl
  refine wl (wl_val hl rfl trivial (r_field hl rfl fld117_0) ?_)
  clear hl a; intro a hl
  first | refine wl (w_loadA hl hh rfl trivial agg115 rfl (by repeat (first | exact find_head | apply find_tail | apply find_skip)) (by first | (simp only [List.getElem?_cons_zero, List.getElem?_cons_succ, Value.cells, List.take_zero, List.take_succ_cons, List.take_nil, List.drop_zero, List.drop_succ_cons, List.drop_nil, List.length_cons, List.length_nil, List.cons_append, List.nil_append, List.append_nil, Nat.zero_add, Nat.add_zero, Nat.reduceAdd, Nat.reduceBEq, Nat.reduceEqDiff, Nat.ble, BEq.rfl, Bool.and_true, Bool.and_self, cond_true, beq_self_eq_true]; rfl)) (by first | rfl | (simp; done)) ?_) | refine wl (w_loadRA hl hh rfl trivial agg115 rfl hmT (by simp) (tab_helds (tb := tb) (E := E)) (arrL_length _ _) ?_)
  clear hl a; intro a hl
  refine wl (wl_val hl rfl trivial (r_build hl rfl zero117 bld117 (fill117 rfl)) ?_)
  clear hl a; intro a hl
  refine wl (w_box hl hh rfl trivial rfl rfl ?_)
  clear hl hh a w; intro k10 a w hl hh
  refine wl (wl_val hl rfl trivial (r_assign hl rfl) ?_)
  clear hl a; intro a hl
  refine w_nil ?_
  have hl2 := hl.add (t := 0) (hl.add (t := 3) (hl.nil) rfl) rfl; clear hl; have hl := hl2; clear hl2
  refine then_normal ?_
  refine c_seq ?_
  refine c_seq ?_
  refine c_region ?_
  refine wl (wl_val hl rfl trivial (r_move hl rfl) ?_)
  clear hl a; intro a hl
  refine w_nil ?_
  have hl2 := hl.add (t := 0) (hl.add (t := 3) (hl.add (t := 11) (hl.nil) rfl) rfl) rfl; clear hl; have hl := hl2; clear hl2
  refine then_normal ?_
  refine wp_block ?_
  obtain ⟨KS0, hKS0, hk⟩ := (hl.add (t := 0) (hl.add (t := 3) (hl.nil) rfl) rfl).name
  obtain ⟨HS0, hHS0, hh2⟩ := hh.nameT (A := [(k10, C (arrL 340 (fun j => if j < 320 then f j else .slice none 0 0)) 117)]) (U := (fam (fun _ => []) 0)) (keeps_cons (b := k10) (o' := C (arrL 340 (fun j => if j < 320 then f j else .slice none 0 0)) 117) (by repeat (first | exact find_head | apply find_tail | apply find_skip)) (by first | rfl) ((by rw [fam0]; repeat (first | exact keeps_nil | exact keeps_self | exact keeps_left | apply keeps_app | apply keeps_mv | apply keeps_skip))))
  refine c_loop (α := CZ) (fun z => 20 - z.i) (fun z a w => (CT1 tb z) ∧ Sl 28 ([(11, .int .i64 (z.i : Int))] ++ KS0) a ∧ Has _ w0 ([(k10, C (arrL 340 z.f) 117)] ++ (HS0 ++ (fam z.E z.i))) w) ⟨fun j => if j < 320 then f j else .slice none 0 0, fun _ => [], 0⟩ ⟨⟨Nat.zero_le _, fun r t hr ht => by simp only; rw [if_pos (by omega)]; exact hT.held r t hr ht, fun c hc => absurd hc (Nat.not_lt_zero _)⟩, hl.addE (t := 11) (hk) rfl (by first | rfl), hh2⟩ ?_
  clear hk hh2 hl hh a w
  intro z a w hI
  obtain ⟨hZ, hl, hh⟩ := hI
  subst hKS0; subst hHS0
  simp only [List.cons_append, List.nil_append, List.append_nil, List.append_assoc] at hl hh
  have hzi := hZ.i
  refine c_seq ?_
  refine c_region ?_
  refine wl (wl_val hl rfl trivial (r_lss hl rfl rfl) ?_)
  clear hl a; intro a hl
  refine w_nil ?_
  have hl2 := hl.add (t := 0) (hl.add (t := 3) (hl.add (t := 11) (hl.add (t := 12) (hl.nil) rfl) rfl) rfl) rfl; clear hl; have hl := hl2; clear hl2
  refine then_normal ?_
  refine c_seq ?_
  refine c_cond hl rfl ?_ ?_
  · intro hc0
    try simp only [decide_eq_true_eq, decide_eq_false_iff_not, Bool.not_eq_true', Bool.not_eq_false', Bool.not_eq_true, Bool.not_eq_false, Bool.and_eq_true, Bool.or_eq_true, Bool.and_eq_false_iff, Bool.or_eq_false_iff, Bool.not_not, ne_eq, Int.not_lt, Int.not_le, Decidable.not_not, beq_iff_eq, bne_iff_ne] at hc0
    obtain ⟨p9, c9, hpc⟩ := row_val (hT.row z.i (by omega))
    have hb32 := hI.len z.i (by omega)
    refine wp_skip ?_
    refine then_normal ?_
    refine c_seq ?_
    refine wp_block ?_
    refine c_seq ?_
    refine c_region ?_
    refine wl (wl_val hl rfl trivial (r_move hl rfl) ?_)
    clear hl a; intro a hl
    refine wl (wl_val hl rfl trivial (r_assign hl rfl) ?_)
    clear hl a; intro a hl
    refine w_nil ?_
    have hl2 := hl.add (t := 0) (hl.add (t := 3) (hl.add (t := 4) (hl.add (t := 11) (hl.nil) rfl) rfl) rfl) rfl; clear hl; have hl := hl2; clear hl2
    refine then_normal ?_
    refine c_draw [(bt, C (arrL 340 f) 117)] [11, 12] mixed hh ?_
    clear hh w; intro w hh
    have hM : Mem [(bt, C (arrL 340 f) 117)] w := (by (repeat (first | exact Mem.nil | refine Mem.consR hh (by assumption) (by simp) ?_ | refine Mem.cons hh.mem (by (repeat (first | exact find_head | apply find_tail | apply find_skip)); done) ?_ | fail)); done)
    refine d_take (i := 0) hl rfl (by kernel_rfl) (by kernel_rfl) (by kernel_rfl) (by kernel_rfl) (by kernel_rfl) rfl trivial (fun _ _ _ h => h) hM (fun w hC => r_move hl rfl) rfl ?_
    clear hl a; intro a hl
    refine d_take (i := 1) hl rfl (by kernel_rfl) (by kernel_rfl) (by kernel_rfl) (by kernel_rfl) (by kernel_rfl) rfl trivial (fun _ _ _ h => h) hM (fun w hC => r_move hl rfl) rfl ?_
    clear hl a; intro a hl
    refine d_take (i := 2) hl rfl (by kernel_rfl) (by kernel_rfl) (by kernel_rfl) (by kernel_rfl) (by kernel_rfl) rfl trivial (fun _ _ _ h => h) hM (fun w hC => r_move hl rfl) rfl ?_
    clear hl a; intro a hl
    refine d_take (i := 3) hl rfl (by kernel_rfl) (by kernel_rfl) (by kernel_rfl) (by kernel_rfl) (by kernel_rfl) rfl trivial (fun _ _ _ h => h) hM (fun w hC => r_move hl rfl) rfl ?_
    clear hl a; intro a hl
    refine d_take (i := 4) hl rfl (by kernel_rfl) (by kernel_rfl) (by kernel_rfl) (by kernel_rfl) (by kernel_rfl) rfl trivial (fun _ _ _ h => h) hM (fun w hC => r_nilCheck hl rfl) rfl ?_
    clear hl a; intro a hl
    refine d_take (i := 5) hl rfl (by kernel_rfl) (by kernel_rfl) (by kernel_rfl) (by kernel_rfl) (by kernel_rfl) rfl trivial (fun _ _ _ h => h) hM (fun w hC => r_field hl rfl fld117_1) rfl ?_
    clear hl a; intro a hl
    refine d_take (i := 6) hl rfl (by kernel_rfl) (by kernel_rfl) (by kernel_rfl) (by kernel_rfl) (by kernel_rfl) rfl trivial (fun _ _ _ h => h) hM (fun w hC => r_indexA hl rfl rfl arr113 (by omega) (by omega) (by first | (simp only [Int.reduceToNat]; rfl) | exact toNat_add1 _ | exact toNat_add2 _ _ | exact toNat_emod _ _ | exact Int.toNat_natCast _ | rfl)) rfl ?_
    clear hl a; intro a hl
    refine d_take (i := 7) hl rfl (by kernel_rfl) (by kernel_rfl) (by kernel_rfl) (by kernel_rfl) (by kernel_rfl) rfl trivial (fun _ _ _ h => h) hM (fun w hC => r_loadC hl rfl one112 hC (by repeat (first | exact find_head | apply find_tail | apply find_skip)) (by first | exact tab_q (by omega) | rfl)) rfl ?_
    clear hl a; intro a hl
    rw [hpc] at hl
    refine d_take (i := 9) hl rfl (by kernel_rfl) (by kernel_rfl) (by kernel_rfl) (by kernel_rfl) (by kernel_rfl) rfl trivial (fun _ _ _ h => h) hM (fun w hC => r_nilCheck hl rfl) rfl ?_
    clear hl a; intro a hl
    refine d_take (i := 10) hl rfl (by kernel_rfl) (by kernel_rfl) (by kernel_rfl) (by kernel_rfl) (by kernel_rfl) rfl trivial (fun _ _ _ h => h) hM (fun w hC => r_field hl rfl fld117_1) rfl ?_
    clear hl a; intro a hl
    refine d_one (i := 8) (by kernel_rfl) rfl ?_
    try clear hM
    refine id (w_call hl hh rfl trivial rfl cal70 rfl (clQ_spec (tb.q z.i) (by omega) p9 c9 (E z.i) (hpc ▸ hT.row z.i (by omega))) (by repeat (first | exact keeps_nil | apply keeps_cons (by repeat (first | exact find_head | apply find_tail | apply find_skip)) (by first  | rfl) | exact keeps_self | exact keeps_left | apply keeps_app | apply keeps_mv | apply keeps_skip)) (mem_keep hh (mem_famR hpre (by omega))) ?_)
    clear hl hh a w; intro vc Fc a w hR hl hh
    try simp only [List.cons_append, List.nil_append, List.append_assoc, List.append_nil] at hh
    have hRb := hR
    clear hR
    generalize Fc = X at hh hRb
    generalize vc = vb at hl hRb
    have hM : Mem [(bt, C (arrL 340 f) 117)] w := (by (repeat (first | exact Mem.nil | refine Mem.consR hh (by assumption) (by simp) ?_ | refine Mem.cons hh.mem (by (repeat (first | exact find_head | apply find_tail | apply find_skip)); done) ?_ | fail)); done)
    refine d_step (fun _ => hM) ?_
    refine d_takeL (i := 11) hl rfl (by kernel_rfl) (by kernel_rfl) (by kernel_rfl) (by kernel_rfl) (by kernel_rfl) rfl trivial (fun _ _ _ h => h) (fun w => r_indexA hl rfl rfl arr113 (by omega) (by omega) (by first | (simp only [Int.reduceToNat]; rfl) | exact toNat_add1 _ | exact toNat_add2 _ _ | exact toNat_emod _ _ | exact Int.toNat_natCast _ | rfl)) rfl ?_
    clear hl a; intro a hl
    refine d_one (i := 12) (by kernel_rfl) rfl ?_
    try clear hM
    refine id (w_store hl hh trivial one112 rfl rfl (by repeat (first | exact find_head | apply find_tail | apply find_skip)) (by first | (simp; done) | (simp; omega) | (rw [arrL_length]; omega)) (by first | rfl | assumption | (apply Row.one; assumption)) (by first | exact set_q (by omega) | (simp only [setL, List.getElem?_cons_zero, List.getElem?_cons_succ, Value.cells, List.take_zero, List.take_succ_cons, List.take_nil, List.drop_zero, List.drop_succ_cons, List.drop_nil, List.length_cons, List.length_nil, List.cons_append, List.nil_append, List.append_nil, Nat.zero_add, Nat.add_zero, Nat.reduceAdd, Nat.reduceBEq, Nat.reduceEqDiff, Nat.ble, BEq.rfl, Bool.and_true, Bool.and_self, cond_true, beq_self_eq_true]; rfl)) ?_)
    clear hh w; intro w hh
    refine d_step (fun h => absurd h (by decide)) ?_
    refine d_done (by kernel_rfl) ?_
    try clear hM
    have hl2 := hl.add (t := 0) (hl.add (t := 3) (hl.add (t := 11) (hl.nil) rfl) rfl) rfl; clear hl; have hl := hl2; clear hl2
    refine blk_normal ?_
    refine then_normal ?_
    refine c_region ?_
    first | refine wl (wl_val hl rfl trivial (r_add hl rfl rfl (by simp only [Fits]; omega)) ?_) | refine wl (wl_val hl rfl trivial (r_addW hl rfl rfl) ?_)
    clear hl a; intro a hl
    refine wl (wl_val hl rfl trivial (r_move hl rfl) ?_)
    clear hl a; intro a hl
    refine w_nil ?_
    have hl2 := hl.add (t := 0) (hl.add (t := 3) (hl.add (t := 11) (hl.nil) rfl) rfl) rfl; clear hl; have hl := hl2; clear hl2
    refine then_normal ?_
    refine ⟨⟨updV z.f (320 + z.i) vb, updE z.E z.i X, z.i + 1⟩, (by simp only; omega), (hZ.next (by omega) hRb), hl.addE (t := 11) (hl.addE (t := 0) (hl.addE (t := 3) (hl.nil) rfl (by first | rfl | (congr 1; omega))) rfl (by first | rfl | (congr 1; omega))) rfl (by first | rfl | (congr 1; omega)), (by dsimp only; rw [fam_snoc]; exact hh.keep (by repeat (first | exact keeps_nil | apply keeps_cons (by repeat (first | exact find_head | apply find_tail | apply find_skip)) (by first  | rfl) | exact keeps_self | exact keeps_left | apply keeps_app | apply keeps_mv | apply keeps_skip)))⟩
  · intro hc0
    try simp only [decide_eq_true_eq, decide_eq_false_iff_not, Bool.not_eq_true', Bool.not_eq_false', Bool.not_eq_true, Bool.not_eq_false, Bool.and_eq_true, Bool.or_eq_true, Bool.and_eq_false_iff, Bool.or_eq_false_iff, Bool.not_not, ne_eq, Int.not_lt, Int.not_le, Decidable.not_not, beq_iff_eq, bne_iff_ne] at hc0
    have hz16 : z.i = 20 := by omega
    rw [hz16] at hh
    have hZr := hZ.r
    rw [hz16] at hZr
    refine wp_exit ?_
    refine then_exit ?_
    refine then_exit ?_
    refine blk_exit ?_
    refine then_normal ?_
    refine c_seq ?_
    refine c_region ?_
    refine wl (wl_val hl rfl trivial (r_move hl rfl) ?_)
    clear hl a; intro a hl
    refine wl (wl_val hl rfl trivial (r_assign hl rfl) ?_)
    clear hl a; intro a hl
    refine w_nil ?_
    have hl2 := hl.add (t := 2) (hl.nil) rfl; clear hl; have hl := hl2; clear hl2
    refine then_normal ?_
    refine wp_ret ?_
    refine f_ret1 (F' := (tbL k10 z.f z.E)) hl hh rfl rfl (by repeat (first | exact keeps_nil | apply keeps_cons (by repeat (first | exact find_head | apply find_tail | apply find_skip)) (by first  | rfl) | exact keeps_self | exact keeps_left | apply keeps_app | apply keeps_mv | apply keeps_skip)) ?_
    exact ⟨k10, z.f, z.E, rfl, rfl, ⟨hZ.h, hZr⟩⟩

set_option maxHeartbeats 2000000 in
theorem cloneS_spec {g : Gs} {M : Mm} (hS : SysF g M) (bg : Nat) (B Q : Int) (hq : BQ B Q) (hG : GI B Q g) (cc : Nat) (hc : cc < 4) : SpK Tryd.prog 48 #[.pointer (some ⟨bg, 0 + 18 + cc * 32, none⟩)] (Mem (sysL bg M)) [] (fun v F' => ∃ x X, v = .agg ⟨arrL 32 (shC (flK g.flr cc) x)⟩ ∧ F' = fam X 16 ∧ ∀ q, q < 16 → Row (x q) (wsK g.ws cc q).length (fl wtc (wsK g.ws cc q)) 18 151 (X q)) := by
  refine f_enter (args := [.pointer (some ⟨bg, 0 + 18 + cc * 32, none⟩)]) Tryd.func48 rfl Tryd.ntmps48 rfl ?_
  intro w0 w a hpre hl hh
  have hmG := hpre _ _ (List.mem_append_left _ (List.mem_cons_self ..))
  have hmF := (mem_app hpre).1
  simp only [slotsFrom, Nat.reduceAdd] at hl
  refine c_seq ?_
  refine c_region ?_
  refine wl (w_alloc hl hh rfl trivial zero107 rfl ?_)
  clear hl hh a w; intro k2 a w hl hh
  refine w_nil ?_
  have hl2 := hl.add (t := 0) (hl.add (t := 2) (hl.nil) rfl) rfl; clear hl; have hl := hl2; clear hl2
  refine then_normal ?_
  refine c_seq ?_
  refine c_region ?_
  refine wl (wl_val hl rfl trivial (r_move hl rfl) ?_)
  clear hl a; intro a hl
  refine wl (wl_val hl rfl trivial (r_nilCheck hl rfl) ?_)
  clear hl a; intro a hl
  refine wl (wl_val hl rfl trivial (r_field hl rfl fld107_0) ?_)
  clear hl a; intro a hl
  first | refine wl (w_loadA hl hh rfl trivial agg50 rfl (by repeat (first | exact find_head | apply find_tail | apply find_skip)) (by first | (simp only [List.getElem?_cons_zero, List.getElem?_cons_succ, Value.cells, List.take_zero, List.take_succ_cons, List.take_nil, List.drop_zero, List.drop_succ_cons, List.drop_nil, List.length_cons, List.length_nil, List.cons_append, List.nil_append, List.append_nil, Nat.zero_add, Nat.add_zero, Nat.reduceAdd, Nat.reduceBEq, Nat.reduceEqDiff, Nat.ble, BEq.rfl, Bool.and_true, Bool.and_self, cond_true, beq_self_eq_true]; rfl)) (by first | rfl | (simp; done)) ?_) | refine wl (w_loadRA hl hh rfl trivial agg50 rfl hmG (by simp) (gr_floor hS.gr hc) (arrL_length _ _) ?_)
  clear hl a; intro a hl
  refine wl (wl_val hl rfl trivial (r_build hl rfl zeroC107 bld107 (fill107 rfl)) ?_)
  clear hl a; intro a hl
  refine wl (w_alloc hl hh rfl trivial zero107 rfl ?_)
  clear hl hh a w; intro k3 a w hl hh
  refine wl (w_storeA hl hh trivial agg107 rfl rfl (by repeat (first | exact find_head | apply find_tail | apply find_skip)) (by exact arrL_length _ _) (by first | exact Nat.le_refl _ | exact Nat.le_of_eq (arrL_length _ _).symm | (rw [arrL_length]; exact Nat.le_refl _)) (by first | exact shC_one (fun b _ => upto_one (fun j hj => absurd hj (Nat.not_lt_zero _)) b) | exact shC_one (fun b hb => (hZr b hb).one)) (by exact setL_whole (by first | rw [arrL_length, arrL_length] | (rw [arrL_length]; rfl))) ?_)
  clear hh w; intro w hh
  refine w_nil ?_
  have hl2 := hl.add (t := 0) (hl.add (t := 2) (hl.add (t := 3) (hl.nil) rfl) rfl) rfl; clear hl; have hl := hl2; clear hl2
  refine then_normal ?_
  refine c_seq ?_
  refine c_seq ?_
  refine c_region ?_
  refine wl (wl_val hl rfl trivial (r_move hl rfl) ?_)
  clear hl a; intro a hl
  refine w_nil ?_
  have hl2 := hl.add (t := 0) (hl.add (t := 2) (hl.add (t := 3) (hl.add (t := 10) (hl.nil) rfl) rfl) rfl) rfl; clear hl; have hl := hl2; clear hl2
  refine then_normal ?_
  refine wp_block ?_
  obtain ⟨KS0, hKS0, hk⟩ := (hl.add (t := 0) (hl.add (t := 2) (hl.add (t := 3) (hl.nil) rfl) rfl) rfl).name
  obtain ⟨HS0, hHS0, hh2⟩ := hh.nameT (A := [(k3, C (arrL 32 (shC (flK g.flr cc) (upto 0 (fun _ => .slice none 0 0)))) 107)]) (U := (fam (fun _ => []) 0)) (keeps_cons (b := k3) (o' := C (arrL 32 (shC (flK g.flr cc) (upto 0 (fun _ => .slice none 0 0)))) 107) (by repeat (first | exact find_head | apply find_tail | apply find_skip)) (by first | rfl) ((by rw [fam0]; repeat (first | exact keeps_nil | exact keeps_self | exact keeps_left | apply keeps_app | apply keeps_mv | apply keeps_skip))))
  refine c_loop (α := CZ) (fun z => 16 - z.i) (fun z a w => (CW1 (wsK g.ws cc) z) ∧ Sl 25 ([(10, .int .i64 (z.i : Int))] ++ KS0) a ∧ Has _ w0 ([(k3, C (arrL 32 (shC (flK g.flr cc) (upto z.i z.f))) 107)] ++ (HS0 ++ (fam z.E z.i))) w) ⟨fun _ => .slice none 0 0, fun _ => [], 0⟩ ⟨⟨Nat.zero_le _, fun c hc => absurd hc (Nat.not_lt_zero _)⟩, hl.addE (t := 10) (hk) rfl (by first | rfl), hh2⟩ ?_
  clear hk hh2 hl hh a w
  intro z a w hI
  obtain ⟨hZ, hl, hh⟩ := hI
  subst hKS0; subst hHS0
  simp only [List.cons_append, List.nil_append, List.append_nil, List.append_assoc] at hl hh
  have hzi := hZ.i
  refine c_seq ?_
  refine c_region ?_
  refine wl (wl_val hl rfl trivial (r_lss hl rfl rfl) ?_)
  clear hl a; intro a hl
  refine w_nil ?_
  have hl2 := hl.add (t := 0) (hl.add (t := 2) (hl.add (t := 3) (hl.add (t := 10) (hl.add (t := 11) (hl.nil) rfl) rfl) rfl) rfl) rfl; clear hl; have hl := hl2; clear hl2
  refine then_normal ?_
  refine c_seq ?_
  refine c_cond hl rfl ?_ ?_
  · intro hc0
    try simp only [decide_eq_true_eq, decide_eq_false_iff_not, Bool.not_eq_true', Bool.not_eq_false', Bool.not_eq_true, Bool.not_eq_false, Bool.and_eq_true, Bool.or_eq_true, Bool.and_eq_false_iff, Bool.or_eq_false_iff, Bool.not_not, ne_eq, Int.not_lt, Int.not_le, Decidable.not_not, beq_iff_eq, bne_iff_ne] at hc0
    obtain ⟨p9, c9, hpc⟩ := row_val (hS.gr.sh cc z.i hc (by omega)).row
    refine wp_skip ?_
    refine then_normal ?_
    refine c_seq ?_
    refine wp_block ?_
    refine c_seq ?_
    refine c_region ?_
    refine wl (wl_val hl rfl trivial (r_move hl rfl) ?_)
    clear hl a; intro a hl
    refine wl (wl_val hl rfl trivial (r_assign hl rfl) ?_)
    clear hl a; intro a hl
    refine w_nil ?_
    have hl2 := hl.add (t := 0) (hl.add (t := 2) (hl.add (t := 3) (hl.add (t := 4) (hl.add (t := 10) (hl.nil) rfl) rfl) rfl) rfl) rfl; clear hl; have hl := hl2; clear hl2
    refine then_normal ?_
    refine c_region ?_
    refine wl (wl_val hl rfl trivial (r_move hl rfl) ?_)
    clear hl a; intro a hl
    refine wl (wl_val hl rfl trivial (r_move hl rfl) ?_)
    clear hl a; intro a hl
    refine wl (wl_val hl rfl trivial (r_move hl rfl) ?_)
    clear hl a; intro a hl
    refine wl (wl_val hl rfl trivial (r_nilCheck hl rfl) ?_)
    clear hl a; intro a hl
    refine wl (wl_val hl rfl trivial (r_field hl rfl fld107_1) ?_)
    clear hl a; intro a hl
    refine wl (wl_val hl rfl trivial (r_indexA hl rfl rfl arr105 (by omega) (by omega) (by first | (simp only [Int.reduceToNat]; rfl) | exact toNat_add1 _ | exact toNat_add2 _ _ | exact toNat_emod _ _ | exact Int.toNat_natCast _ | rfl)) ?_)
    clear hl a; intro a hl
    first | refine wl (w_load hl hh rfl trivial one104 rfl (by repeat (first | exact find_head | apply find_tail | apply find_skip)) (by first | rfl) ?_) | refine wl (w_loadR hl hh rfl trivial one104 rfl hmG (by simp) (sh_waits hc (by omega)) ?_)
    clear hl a; intro a hl
    rw [hpc] at hl
    refine wl (w_call hl hh rfl trivial rfl cal71 rfl (clW_spec (wsK g.ws cc z.i) (wsK_len hG hq cc z.i (by omega)) p9 c9 (M.Eg (16 * cc + z.i)) (hpc ▸ (hS.gr.sh cc z.i hc (by omega)).row)) (by repeat (first | exact keeps_nil | apply keeps_cons (by repeat (first | exact find_head | apply find_tail | apply find_skip)) (by first  | rfl) | exact keeps_self | exact keeps_left | apply keeps_app | apply keeps_mv | apply keeps_skip)) (mem_keep hh (mem_famR hmF (by omega))) ?_)
    clear hl hh a w; intro vc Fc a w hR hl hh
    try simp only [List.cons_append, List.nil_append, List.append_assoc, List.append_nil] at hh
    have hRb := hR
    clear hR
    generalize Fc = X at hh hRb
    generalize vc = vb at hl hRb
    refine wl (wl_val hl rfl trivial (r_field hl rfl fld107_1) ?_)
    clear hl a; intro a hl
    refine wl (wl_val hl rfl trivial (r_indexA hl rfl rfl arr105 (by omega) (by omega) (by first | (simp only [Int.reduceToNat]; rfl) | exact toNat_add1 _ | exact toNat_add2 _ _ | exact toNat_emod _ _ | exact Int.toNat_natCast _ | rfl)) ?_)
    clear hl a; intro a hl
    refine wl (w_store hl hh trivial one104 rfl rfl (by repeat (first | exact find_head | apply find_tail | apply find_skip)) (by first | (simp; done) | (simp; omega) | (rw [arrL_length]; omega)) (by first | rfl | assumption | (apply Row.one; assumption)) (by first | exact shC_set (by omega) | (simp only [setL, List.getElem?_cons_zero, List.getElem?_cons_succ, Value.cells, List.take_zero, List.take_succ_cons, List.take_nil, List.drop_zero, List.drop_succ_cons, List.drop_nil, List.length_cons, List.length_nil, List.cons_append, List.nil_append, List.append_nil, Nat.zero_add, Nat.add_zero, Nat.reduceAdd, Nat.reduceBEq, Nat.reduceEqDiff, Nat.ble, BEq.rfl, Bool.and_true, Bool.and_self, cond_true, beq_self_eq_true]; rfl)) ?_)
    clear hh w; intro w hh
    refine w_nil ?_
    have hl2 := hl.add (t := 0) (hl.add (t := 2) (hl.add (t := 3) (hl.add (t := 10) (hl.nil) rfl) rfl) rfl) rfl; clear hl; have hl := hl2; clear hl2
    refine blk_normal ?_
    refine then_normal ?_
    refine c_region ?_
    first | refine wl (wl_val hl rfl trivial (r_add hl rfl rfl (by simp only [Fits]; omega)) ?_) | refine wl (wl_val hl rfl trivial (r_addW hl rfl rfl) ?_)
    clear hl a; intro a hl
    refine wl (wl_val hl rfl trivial (r_move hl rfl) ?_)
    clear hl a; intro a hl
    refine w_nil ?_
    have hl2 := hl.add (t := 0) (hl.add (t := 2) (hl.add (t := 3) (hl.add (t := 10) (hl.nil) rfl) rfl) rfl) rfl; clear hl; have hl := hl2; clear hl2
    refine then_normal ?_
    refine ⟨⟨updV z.f z.i vb, updE z.E z.i X, z.i + 1⟩, (by simp only; omega), (hZ.next (by omega) hRb), hl.addE (t := 10) (hl.addE (t := 0) (hl.addE (t := 2) (hl.addE (t := 3) (hl.nil) rfl (by first | rfl | (congr 1; omega))) rfl (by first | rfl | (congr 1; omega))) rfl (by first | rfl | (congr 1; omega))) rfl (by first | rfl | (congr 1; omega)), (by dsimp only; rw [fam_snoc]; exact hh.keep (by repeat (first | exact keeps_nil | apply keeps_cons (by repeat (first | exact find_head | apply find_tail | apply find_skip)) (by first  | rfl) | exact keeps_self | exact keeps_left | apply keeps_app | apply keeps_mv | apply keeps_skip)))⟩
  · intro hc0
    try simp only [decide_eq_true_eq, decide_eq_false_iff_not, Bool.not_eq_true', Bool.not_eq_false', Bool.not_eq_true, Bool.not_eq_false, Bool.and_eq_true, Bool.or_eq_true, Bool.and_eq_false_iff, Bool.or_eq_false_iff, Bool.not_not, ne_eq, Int.not_lt, Int.not_le, Decidable.not_not, beq_iff_eq, bne_iff_ne] at hc0
    have hz16 : z.i = 16 := by omega
    rw [hz16, shC_upto] at hh
    have hZr := hZ.r
    rw [hz16] at hZr
    refine wp_exit ?_
    refine then_exit ?_
    refine then_exit ?_
    refine blk_exit ?_
    refine then_normal ?_
    refine c_seq ?_
    refine c_region ?_
    first | refine wl (w_loadA hl hh rfl trivial agg107 rfl (by repeat (first | exact find_head | apply find_tail | apply find_skip)) (by exact arr_whole32 _) (by exact arrL_length _ _) ?_) | refine wl (w_loadRA hl hh rfl trivial agg107 rfl hmG (by simp) (gr_floor hS.gr hc) (arrL_length _ _) ?_)
    clear hl a; intro a hl
    refine wl (w_storeA hl hh trivial agg107 rfl rfl (by repeat (first | exact find_head | apply find_tail | apply find_skip)) (by exact arrL_length _ _) (by first | exact Nat.le_refl _ | exact Nat.le_of_eq (arrL_length _ _).symm | (rw [arrL_length]; exact Nat.le_refl _)) (by first | exact shC_one (fun b _ => upto_one (fun j hj => absurd hj (Nat.not_lt_zero _)) b) | exact shC_one (fun b hb => (hZr b hb).one)) (by exact setL_whole (by first | rw [arrL_length, arrL_length] | (rw [arrL_length]; rfl))) ?_)
    clear hh w; intro w hh
    refine w_nil ?_
    have hl2 := hl.add (t := 2) (hl.nil) rfl; clear hl; have hl := hl2; clear hl2
    refine then_normal ?_
    refine wp_ret ?_
    refine f_retC (F' := (fam z.E 16)) hl hh rfl rfl agg107 (by repeat (first | exact find_head | apply find_tail | apply find_skip)) (by first | rfl | exact arrL_length _ _ | (simp; done)) (by repeat (first | exact keeps_nil | apply keeps_cons (by repeat (first | exact find_head | apply find_tail | apply find_skip)) (by first  | rfl) | exact keeps_self | exact keeps_left | apply keeps_app | apply keeps_mv | apply keeps_skip)) ?_
    exact ⟨z.f, z.E, rfl, rfl, hZr⟩

set_option maxHeartbeats 4000000 in
theorem clone_spec {g : Gs} {M : Mm} (hS : SysF g M) (bg : Nat) (B Q : Int) (hq : BQ B Q) (hG : GI B Q g) : SpK Tryd.prog 18 #[.pointer (some ⟨bg, 0, none⟩)] (Mem (sysL bg M)) [] (fun v F' => ∃ bg' M', v = .pointer (some ⟨bg', 0, none⟩) ∧ F' = sysL bg' M' ∧ SysF g M') := by
  refine f_enter (args := [.pointer (some ⟨bg, 0, none⟩)]) Tryd.func18 rfl Tryd.ntmps18 rfl ?_
  intro w0 w a hpre hl hh
  have hmG := hpre _ _ (List.mem_append_left _ (List.mem_cons_self ..))
  have hmF := (mem_app hpre).1
  have hmM := (mem_app (mem_app hpre).2).1
  have hmT := (mem_app (mem_app hpre).2).2
  simp only [slotsFrom, Nat.reduceAdd] at hl
  refine c_seq ?_
  refine c_region ?_
  refine wl (wl_val hl rfl trivial (r_assign hl rfl) ?_)
  clear hl a; intro a hl
  refine w_nil ?_
  have hl2 := hl.add (t := 0) (hl.nil) rfl; clear hl; have hl := hl2; clear hl2
  refine then_normal ?_
  refine c_seq ?_
  refine c_draw [(bg, C (arrL 146 M.fg) 110)] [14, 15, 16] mixed hh ?_
  clear hh w; intro w hh
  have hM : Mem [(bg, C (arrL 146 M.fg) 110)] w := (by (repeat (first | exact Mem.nil | refine Mem.consR hh (by assumption) (by simp) ?_ | refine Mem.cons hh.mem (by (repeat (first | exact find_head | apply find_tail | apply find_skip)); done) ?_ | fail)); done)
  refine d_take (i := 0) hl rfl (by kernel_rfl) (by kernel_rfl) (by kernel_rfl) (by kernel_rfl) (by kernel_rfl) rfl trivial (fun _ _ _ h => h) hM (fun w hC => r_move hl rfl) rfl ?_
  clear hl a; intro a hl
  refine d_take (i := 1) hl rfl (by kernel_rfl) (by kernel_rfl) (by kernel_rfl) (by kernel_rfl) (by kernel_rfl) rfl trivial (fun _ _ _ h => h) hM (fun w hC => r_nilCheck hl rfl) rfl ?_
  clear hl a; intro a hl
  refine d_take (i := 2) hl rfl (by kernel_rfl) (by kernel_rfl) (by kernel_rfl) (by kernel_rfl) (by kernel_rfl) rfl trivial (fun _ _ _ h => h) hM (fun w hC => r_field hl rfl fld110_0) rfl ?_
  clear hl a; intro a hl
  refine d_take (i := 3) hl rfl (by kernel_rfl) (by kernel_rfl) (by kernel_rfl) (by kernel_rfl) (by kernel_rfl) rfl trivial (fun _ _ _ h => h) hM (fun w hC => r_loadC hl rfl one25 hC (by repeat (first | exact find_head | apply find_tail | apply find_skip)) (by first | exact fg_p0 hS.gr.p0 | exact fg_p1 hS.gr.p1 | rfl)) rfl ?_
  clear hl a; intro a hl
  refine d_take (i := 5) hl rfl (by kernel_rfl) (by kernel_rfl) (by kernel_rfl) (by kernel_rfl) (by kernel_rfl) rfl trivial (fun _ _ _ h => h) hM (fun w hC => r_move hl rfl) rfl ?_
  clear hl a; intro a hl
  refine d_take (i := 6) hl rfl (by kernel_rfl) (by kernel_rfl) (by kernel_rfl) (by kernel_rfl) (by kernel_rfl) rfl trivial (fun _ _ _ h => h) hM (fun w hC => r_nilCheck hl rfl) rfl ?_
  clear hl a; intro a hl
  refine d_take (i := 7) hl rfl (by kernel_rfl) (by kernel_rfl) (by kernel_rfl) (by kernel_rfl) (by kernel_rfl) rfl trivial (fun _ _ _ h => h) hM (fun w hC => r_field hl rfl fld110_1) rfl ?_
  clear hl a; intro a hl
  refine d_take (i := 8) hl rfl (by kernel_rfl) (by kernel_rfl) (by kernel_rfl) (by kernel_rfl) (by kernel_rfl) rfl trivial (fun _ _ _ h => h) hM (fun w hC => r_loadC hl rfl one26 hC (by repeat (first | exact find_head | apply find_tail | apply find_skip)) (by first | exact fg_p0 hS.gr.p0 | exact fg_p1 hS.gr.p1 | rfl)) rfl ?_
  clear hl a; intro a hl
  refine d_take (i := 10) hl rfl (by kernel_rfl) (by kernel_rfl) (by kernel_rfl) (by kernel_rfl) (by kernel_rfl) rfl trivial (fun _ _ _ h => h) hM (fun w hC => r_move hl rfl) rfl ?_
  clear hl a; intro a hl
  refine d_take (i := 11) hl rfl (by kernel_rfl) (by kernel_rfl) (by kernel_rfl) (by kernel_rfl) (by kernel_rfl) rfl trivial (fun _ _ _ h => h) hM (fun w hC => r_nilCheck hl rfl) rfl ?_
  clear hl a; intro a hl
  refine d_take (i := 12) hl rfl (by kernel_rfl) (by kernel_rfl) (by kernel_rfl) (by kernel_rfl) (by kernel_rfl) rfl trivial (fun _ _ _ h => h) hM (fun w hC => r_field hl rfl fld110_2) rfl ?_
  clear hl a; intro a hl
  refine d_take (i := 13) hl rfl (by kernel_rfl) (by kernel_rfl) (by kernel_rfl) (by kernel_rfl) (by kernel_rfl) rfl trivial (fun _ _ _ h => h) hM (fun w hC => r_loadCA hl rfl agg50 hC (by repeat (first | exact find_head | apply find_tail | apply find_skip)) (by exact gr_eps hS.gr) (by exact arrL_length _ _)) rfl ?_
  clear hl a; intro a hl
  refine d_one (i := 4) (by kernel_rfl) rfl ?_
  try clear hM
  refine id (w_call hl hh rfl trivial rfl cal46 rfl (cloneM_spec hS.mc M.bm hG.b32) (by repeat (first | exact keeps_nil | apply keeps_cons (by repeat (first | exact find_head | apply find_tail | apply find_skip)) (by first  | rfl) | exact keeps_self | exact keeps_left | apply keeps_app | apply keeps_mv | apply keeps_skip)) (mem_keep hh hmM) ?_)
  clear hl hh a w; intro vc Fc a w hR hl hh
  obtain ⟨bn, fn, En, rfl, rfl, hMn⟩ := hR
  try simp only [List.cons_append, List.nil_append, List.append_assoc, List.append_nil] at hh
  have hM : Mem [(bg, C (arrL 146 M.fg) 110)] w := (by (repeat (first | exact Mem.nil | refine Mem.consR hh (by assumption) (by simp) ?_ | refine Mem.cons hh.mem (by (repeat (first | exact find_head | apply find_tail | apply find_skip)); done) ?_ | fail)); done)
  refine d_step (fun _ => hM) ?_
  refine d_one (i := 9) (by kernel_rfl) rfl ?_
  try clear hM
  refine id (w_call hl hh rfl trivial rfl cal47 rfl (cloneT_spec hS.tb M.bt hG.ti) (by repeat (first | exact keeps_nil | apply keeps_cons (by repeat (first | exact find_head | apply find_tail | apply find_skip)) (by first  | rfl) | exact keeps_self | exact keeps_left | apply keeps_app | apply keeps_mv | apply keeps_skip)) (mem_keep hh hmT) ?_)
  clear hl hh a w; intro vc Fc a w hR hl hh
  obtain ⟨bu, fu, Eu, rfl, rfl, hTu⟩ := hR
  try simp only [List.cons_append, List.nil_append, List.append_assoc, List.append_nil] at hh
  have hM : Mem [(bg, C (arrL 146 M.fg) 110)] w := (by (repeat (first | exact Mem.nil | refine Mem.consR hh (by assumption) (by simp) ?_ | refine Mem.cons hh.mem (by (repeat (first | exact find_head | apply find_tail | apply find_skip)); done) ?_ | fail)); done)
  refine d_step (fun _ => hM) ?_
  refine d_takeL (i := 14) hl rfl (by kernel_rfl) (by kernel_rfl) (by kernel_rfl) (by kernel_rfl) (by kernel_rfl) rfl trivial (fun _ _ _ h => h) (fun w => r_build hl rfl zero110 bld110 (fill110c rfl rfl rfl rfl rfl)) rfl ?_
  clear hl a; intro a hl
  refine d_one (i := 15) (by kernel_rfl) rfl ?_
  try clear hM
  refine id (w_box hl hh rfl trivial rfl rfl ?_)
  clear hl hh a w; intro k20 a w hl hh
  refine d_step (fun h => absurd h (by decide)) ?_
  refine d_takeL (i := 16) hl rfl (by kernel_rfl) (by kernel_rfl) (by kernel_rfl) (by kernel_rfl) (by kernel_rfl) rfl trivial (fun _ _ _ h => h) (fun w => r_assign hl rfl) rfl ?_
  clear hl a; intro a hl
  refine d_done (by kernel_rfl) ?_
  try clear hM
  have hl2 := hl.add (t := 0) (hl.add (t := 3) (hl.nil) rfl) rfl; clear hl; have hl := hl2; clear hl2
  refine then_normal ?_
  refine c_seq ?_
  refine c_seq ?_
  refine c_region ?_
  refine wl (wl_val hl rfl trivial (r_move hl rfl) ?_)
  clear hl a; intro a hl
  refine w_nil ?_
  have hl2 := hl.add (t := 0) (hl.add (t := 3) (hl.add (t := 21) (hl.nil) rfl) rfl) rfl; clear hl; have hl := hl2; clear hl2
  refine then_normal ?_
  refine wp_block ?_
  obtain ⟨KS0, hKS0, hk⟩ := (hl.add (t := 0) (hl.add (t := 3) (hl.nil) rfl) rfl).name
  obtain ⟨HS0, hHS0, hh2⟩ := hh.nameT (A := [(k20, C (arrL 146 (fgE (updV (updV z110 0 (.pointer (some ⟨bn, 0, none⟩))) 1 (.pointer (some ⟨bu, 0, none⟩))) g.ep)) 110)]) (U := (fam (fun _ => []) 0)) (keeps_cons (b := k20) (o' := C (arrL 146 (fgE (updV (updV z110 0 (.pointer (some ⟨bn, 0, none⟩))) 1 (.pointer (some ⟨bu, 0, none⟩))) g.ep)) 110) (by repeat (first | exact find_head | apply find_tail | apply find_skip)) (by first | rfl) ((by rw [fam0]; repeat (first | exact keeps_nil | exact keeps_self | exact keeps_left | apply keeps_app | apply keeps_mv | apply keeps_skip))))
  refine c_loop (α := CZ) (fun z => 4 - z.i) (fun z a w => (CG1 g bn bu z) ∧ Sl 37 ([(21, .int .i64 (z.i : Int))] ++ KS0) a ∧ Has _ w0 ([(k20, C (arrL 146 z.f) 110)] ++ (HS0 ++ (fam z.E (16 * z.i)))) w) ⟨fgE (updV (updV z110 0 (.pointer (some ⟨bn, 0, none⟩))) 1 (.pointer (some ⟨bu, 0, none⟩))) g.ep, fun _ => [], 0⟩ ⟨⟨Nat.zero_le _, rfl, rfl, fun t ht => fgE_in _ _ ht, fun c q hc _ => absurd hc (Nat.not_lt_zero _)⟩, hl.addE (t := 21) (hk) rfl (by first | rfl), hh2⟩ ?_
  clear hk hh2 hl hh a w
  intro z a w hI
  obtain ⟨hZ, hl, hh⟩ := hI
  subst hKS0; subst hHS0
  simp only [List.cons_append, List.nil_append, List.append_nil, List.append_assoc] at hl hh
  have hzi := hZ.i
  refine c_seq ?_
  refine c_region ?_
  refine wl (wl_val hl rfl trivial (r_lss hl rfl rfl) ?_)
  clear hl a; intro a hl
  refine w_nil ?_
  have hl2 := hl.add (t := 0) (hl.add (t := 3) (hl.add (t := 21) (hl.add (t := 22) (hl.nil) rfl) rfl) rfl) rfl; clear hl; have hl := hl2; clear hl2
  refine then_normal ?_
  refine c_seq ?_
  refine c_cond hl rfl ?_ ?_
  · intro hc0
    try simp only [decide_eq_true_eq, decide_eq_false_iff_not, Bool.not_eq_true', Bool.not_eq_false', Bool.not_eq_true, Bool.not_eq_false, Bool.and_eq_true, Bool.or_eq_true, Bool.and_eq_false_iff, Bool.or_eq_false_iff, Bool.not_not, ne_eq, Int.not_lt, Int.not_le, Decidable.not_not, beq_iff_eq, bne_iff_ne] at hc0
    refine wp_skip ?_
    refine then_normal ?_
    refine c_seq ?_
    refine wp_block ?_
    refine c_seq ?_
    refine c_region ?_
    refine wl (wl_val hl rfl trivial (r_move hl rfl) ?_)
    clear hl a; intro a hl
    refine wl (wl_val hl rfl trivial (r_assign hl rfl) ?_)
    clear hl a; intro a hl
    refine w_nil ?_
    have hl2 := hl.add (t := 0) (hl.add (t := 3) (hl.add (t := 4) (hl.add (t := 21) (hl.nil) rfl) rfl) rfl) rfl; clear hl; have hl := hl2; clear hl2
    refine then_normal ?_
    refine c_draw [] [10, 11] mixed hh ?_
    clear hh w; intro w hh
    have hM : Mem [] w := Mem.nil
    refine d_take (i := 0) hl rfl (by kernel_rfl) (by kernel_rfl) (by kernel_rfl) (by kernel_rfl) (by kernel_rfl) rfl trivial (fun _ _ _ h => h) hM (fun w hC => r_move hl rfl) rfl ?_
    clear hl a; intro a hl
    refine d_take (i := 1) hl rfl (by kernel_rfl) (by kernel_rfl) (by kernel_rfl) (by kernel_rfl) (by kernel_rfl) rfl trivial (fun _ _ _ h => h) hM (fun w hC => r_move hl rfl) rfl ?_
    clear hl a; intro a hl
    refine d_take (i := 2) hl rfl (by kernel_rfl) (by kernel_rfl) (by kernel_rfl) (by kernel_rfl) (by kernel_rfl) rfl trivial (fun _ _ _ h => h) hM (fun w hC => r_move hl rfl) rfl ?_
    clear hl a; intro a hl
    refine d_take (i := 3) hl rfl (by kernel_rfl) (by kernel_rfl) (by kernel_rfl) (by kernel_rfl) (by kernel_rfl) rfl trivial (fun _ _ _ h => h) hM (fun w hC => r_move hl rfl) rfl ?_
    clear hl a; intro a hl
    refine d_take (i := 4) hl rfl (by kernel_rfl) (by kernel_rfl) (by kernel_rfl) (by kernel_rfl) (by kernel_rfl) rfl trivial (fun _ _ _ h => h) hM (fun w hC => r_nilCheck hl rfl) rfl ?_
    clear hl a; intro a hl
    refine d_take (i := 5) hl rfl (by kernel_rfl) (by kernel_rfl) (by kernel_rfl) (by kernel_rfl) (by kernel_rfl) rfl trivial (fun _ _ _ h => h) hM (fun w hC => r_field hl rfl fld110_3) rfl ?_
    clear hl a; intro a hl
    refine d_take (i := 6) hl rfl (by kernel_rfl) (by kernel_rfl) (by kernel_rfl) (by kernel_rfl) (by kernel_rfl) rfl trivial (fun _ _ _ h => h) hM (fun w hC => r_indexA hl rfl rfl arr108 (by omega) (by omega) (by first | (simp only [Int.reduceToNat]; rfl) | exact toNat_add1 _ | exact toNat_add2 _ _ | exact toNat_emod _ _ | exact Int.toNat_natCast _ | rfl)) rfl ?_
    clear hl a; intro a hl
    refine d_take (i := 8) hl rfl (by kernel_rfl) (by kernel_rfl) (by kernel_rfl) (by kernel_rfl) (by kernel_rfl) rfl trivial (fun _ _ _ h => h) hM (fun w hC => r_nilCheck hl rfl) rfl ?_
    clear hl a; intro a hl
    refine d_take (i := 9) hl rfl (by kernel_rfl) (by kernel_rfl) (by kernel_rfl) (by kernel_rfl) (by kernel_rfl) rfl trivial (fun _ _ _ h => h) hM (fun w hC => r_field hl rfl fld110_3) rfl ?_
    clear hl a; intro a hl
    refine d_one (i := 7) (by kernel_rfl) rfl ?_
    try clear hM
    refine id (w_call hl hh rfl trivial rfl cal48 rfl (cloneS_spec hS bg B Q hq hG z.i (by omega)) (by repeat (first | exact keeps_nil | apply keeps_cons (by repeat (first | exact find_head | apply find_tail | apply find_skip)) (by first  | rfl) | exact keeps_self | exact keeps_left | apply keeps_app | apply keeps_mv | apply keeps_skip)) (mem_keep hh hpre) ?_)
    clear hl hh a w; intro vc Fc a w hR hl hh
    obtain ⟨x, X, rfl, rfl, hRx⟩ := hR
    try simp only [List.cons_append, List.nil_append, List.append_assoc, List.append_nil] at hh
    have hM : Mem [] w := Mem.nil
    refine d_step (fun _ => hM) ?_
    refine d_takeL (i := 10) hl rfl (by kernel_rfl) (by kernel_rfl) (by kernel_rfl) (by kernel_rfl) (by kernel_rfl) rfl trivial (fun _ _ _ h => h) (fun w => r_indexA hl rfl rfl arr108 (by omega) (by omega) (by first | (simp only [Int.reduceToNat]; rfl) | exact toNat_add1 _ | exact toNat_add2 _ _ | exact toNat_emod _ _ | exact Int.toNat_natCast _ | rfl)) rfl ?_
    clear hl a; intro a hl
    refine d_one (i := 11) (by kernel_rfl) rfl ?_
    try clear hM
    refine id (w_storeA hl hh trivial agg107 rfl rfl (by repeat (first | exact find_head | apply find_tail | apply find_skip)) (by exact arrL_length _ _) (by rw [arrL_length]; omega) (by exact shC_one (fun b hb => (hRx b hb).one)) (by exact arrL_setA (by omega)) ?_)
    clear hh w; intro w hh
    refine d_step (fun h => absurd h (by decide)) ?_
    refine d_done (by kernel_rfl) ?_
    try clear hM
    have hl2 := hl.add (t := 0) (hl.add (t := 3) (hl.add (t := 21) (hl.nil) rfl) rfl) rfl; clear hl; have hl := hl2; clear hl2
    refine blk_normal ?_
    refine then_normal ?_
    refine c_region ?_
    first | refine wl (wl_val hl rfl trivial (r_add hl rfl rfl (by simp only [Fits]; omega)) ?_) | refine wl (wl_val hl rfl trivial (r_addW hl rfl rfl) ?_)
    clear hl a; intro a hl
    refine wl (wl_val hl rfl trivial (r_move hl rfl) ?_)
    clear hl a; intro a hl
    refine w_nil ?_
    have hl2 := hl.add (t := 0) (hl.add (t := 3) (hl.add (t := 21) (hl.nil) rfl) rfl) rfl; clear hl; have hl := hl2; clear hl2
    refine then_normal ?_
    refine ⟨⟨cpF z.f z.i (shC (flK g.flr z.i) x), cpE z.E z.i X, z.i + 1⟩, (by simp only; omega), (hZ.next (by omega) hRx), hl.addE (t := 21) (hl.addE (t := 0) (hl.addE (t := 3) (hl.nil) rfl (by first | rfl | (congr 1; omega))) rfl (by first | rfl | (congr 1; omega))) rfl (by first | rfl | (congr 1; omega)), (by dsimp only; rw [fam_cp]; exact hh.keep (by repeat (first | exact keeps_nil | apply keeps_cons (by repeat (first | exact find_head | apply find_tail | apply find_skip)) (by first  | rfl) | exact keeps_self | exact keeps_left | apply keeps_app | apply keeps_mv | apply keeps_skip)))⟩
  · intro hc0
    try simp only [decide_eq_true_eq, decide_eq_false_iff_not, Bool.not_eq_true', Bool.not_eq_false', Bool.not_eq_true, Bool.not_eq_false, Bool.and_eq_true, Bool.or_eq_true, Bool.and_eq_false_iff, Bool.or_eq_false_iff, Bool.not_not, ne_eq, Int.not_lt, Int.not_le, Decidable.not_not, beq_iff_eq, bne_iff_ne] at hc0
    have hz4 : z.i = 4 := by omega
    rw [hz4] at hh
    have hh2 := hh.keep (F' := ((k20, C (arrL 146 z.f) 110) :: (fam z.E (16 * 4) ++ (mcL bn fn En ++ tbL bu fu Eu)))) (by repeat (first | exact keeps_nil | apply keeps_cons (by repeat (first | exact find_head | apply find_tail | apply find_skip)) (by first  | rfl) | exact keeps_self | exact keeps_left | apply keeps_app | apply keeps_mv | apply keeps_skip))
    clear hh
    have hh := hh2
    clear hh2
    refine wp_exit ?_
    refine then_exit ?_
    refine then_exit ?_
    refine blk_exit ?_
    refine then_normal ?_
    refine c_seq ?_
    refine c_region ?_
    refine wl (wl_val hl rfl trivial (r_move hl rfl) ?_)
    clear hl a; intro a hl
    refine wl (wl_val hl rfl trivial (r_assign hl rfl) ?_)
    clear hl a; intro a hl
    refine w_nil ?_
    have hl2 := hl.add (t := 2) (hl.nil) rfl; clear hl; have hl := hl2; clear hl2
    refine then_normal ?_
    refine wp_ret ?_
    refine f_ret1 (F' := ((k20, C (arrL 146 z.f) 110) :: (fam z.E (16 * 4) ++ (mcL bn fn En ++ tbL bu fu Eu)))) hl hh rfl rfl (by repeat (first | exact keeps_nil | apply keeps_cons (by repeat (first | exact find_head | apply find_tail | apply find_skip)) (by first  | rfl) | exact keeps_self | exact keeps_left | apply keeps_app | apply keeps_mv | apply keeps_skip)) ?_
    exact ⟨k20, ⟨bn, bu, z.f, fn, fu, z.E, En, Eu⟩, rfl, rfl, ⟨hZ.done hz4, hMn, hTu⟩⟩
end Go.Proofs.Qxb6500911aDoor

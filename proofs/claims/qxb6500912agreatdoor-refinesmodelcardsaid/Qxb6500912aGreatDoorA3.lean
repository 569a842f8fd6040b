import Derived.Test.Qxb6500912aGreatDoorA2
namespace Go.Proofs.Qxb6500912aGreatDoor
open Go.Eng
set_option linter.unusedVariables false
set_option linter.unusedSimpArgs false
theorem fld85_1 : fieldOk Tryz.prog 85 1 1 = true := by kernel_rfl
theorem fld40_0 : fieldOk Tryz.prog 40 0 0 = true := by kernel_rfl
theorem one38 : oneOk Tryz.prog 38 = true := by kernel_rfl
theorem fld40_1 : fieldOk Tryz.prog 40 1 1 = true := by kernel_rfl
theorem fld40_2 : fieldOk Tryz.prog 40 2 2 = true := by kernel_rfl
theorem cal38 : callable Tryz.prog 38 = true := by kernel_rfl
theorem fld33_0 : fieldOk Tryz.prog 33 0 0 = true := by kernel_rfl
theorem agg31 : aggOk Tryz.prog 31 7 = true := by kernel_rfl
theorem zero31 : zeroOk Tryz.prog 31 (.agg #[(.int .u32 0), (.int .u32 0), (.int .u32 0), (.int .u32 0), (.int .u32 0), (.int .u32 0), (.bool false)]) := by unfold zeroOk; kernel_rfl
theorem fld33_1 : fieldOk Tryz.prog 33 1 7 = true := by kernel_rfl
theorem one26 : oneOk Tryz.prog 26 = true := by kernel_rfl
theorem zero85 : zeroOk Tryz.prog 85 (.agg #[(.int .u32 0), (.int .u32 0), (.int .i64 0), (.slice none 0 0)]) := by unfold zeroOk; kernel_rfl
theorem bld85 : buildOk Tryz.prog 85 [(0, 1), (1, 1), (2, 1), (3, 1)] = true := by kernel_rfl
theorem agg33 : aggOk Tryz.prog 33 10 = true := by kernel_rfl
theorem cal29 : callable Tryz.prog 29 = true := by kernel_rfl
theorem ifc26 : ifcT Tryz.prog 26 = true := by kernel_rfl
theorem fld33_2 : fieldOk Tryz.prog 33 2 8 = true := by kernel_rfl
theorem zero66 : zeroOk Tryz.prog 66 (.agg #[(.int .u32 0), (.int .u32 0), (.int .u32 0), (.int .u32 0), (.int .u32 0), (.int .u32 0), (.bool false), (.int .u32 0), (.pointer none), (.int .u32 0), (.int .u32 0), (.int .u32 0), (.int .u32 0), (.int .u32 0), (.int .u8 0), (.int .u32 0), (.int .u32 0), (.int .u32 0), (.bool false), (.bool false), (.bool false)]) := by unfold zeroOk; kernel_rfl
theorem bld66 : buildOk Tryz.prog 66 [(0, 7), (7, 1), (8, 1), (9, 1), (10, 1), (11, 1), (12, 1), (13, 1), (14, 1), (15, 1), (16, 1), (17, 1), (18, 1), (19, 1), (20, 1)] = true := by kernel_rfl
theorem fld33_3 : fieldOk Tryz.prog 33 3 9 = true := by kernel_rfl
theorem cal31 : callable Tryz.prog 31 = true := by kernel_rfl
/-! ## reports, the making of a controller -/
def rexP (s : CS) (at_ e : Int) : CS :=
  if at_ = 0 then (if lessP s.high e then { s with forced := false, high := e } else { s with forced := false }) else (if lessP s.high e then { s with high := e } else s)
def sentP (s : CS) (k q n : Int) : CS :=
  if k = 1 then (if q = s.nxt ∧ n ≤ 2147483647 - flightP s then { s with nxt := (s.nxt + n) % 4294967296 } else s) else
  if n = 0 ∨ flightP s ≤ (q - s.una) % 4294967296 ∨ flightP s - (q - s.una) % 4294967296 < n then s else
  if k = 3 then { s with resc := true } else
  if k = 2 then rexP s ((q - s.una) % 4294967296) ((q + n) % 4294967296) else s
section sent
variable {s : CS} {k q n : Int}
theorem sentP_1 (h : k = 1) (h1 : q = s.nxt) (h2 : n ≤ 2147483647 - flightP s) : sentP s k q n = { s with nxt := (s.nxt + n) % 4294967296 } := by unfold sentP; rw [if_pos h, if_pos ⟨h1, h2⟩]
theorem sentP_2 (h : k = 1) (h2 : 2147483647 - flightP s < n) : sentP s k q n = s := by unfold sentP; rw [if_pos h, if_neg (by omega)]
theorem sentP_3 (h : k = 1) (h2 : ¬ q = s.nxt) : sentP s k q n = s := by unfold sentP; rw [if_pos h, if_neg (fun z => h2 z.1)]
theorem sentP_4 (h : ¬ k = 1) (h2 : n = 0) : sentP s k q n = s := by unfold sentP; rw [if_neg h, if_pos (.inl h2)]
theorem sentP_5 (h : ¬ k = 1) (h2 : flightP s ≤ (q - s.una) % 4294967296) : sentP s k q n = s := by unfold sentP; rw [if_neg h, if_pos (.inr (.inl h2))]
theorem sentP_6 (h : ¬ k = 1) (h2 : flightP s - (q - s.una) % 4294967296 < n) : sentP s k q n = s := by unfold sentP; rw [if_neg h, if_pos (.inr (.inr h2))]
theorem sentP_7 (h0 : ¬ n = 0) (h1 : (q - s.una) % 4294967296 < flightP s) (h2 : n ≤ flightP s - (q - s.una) % 4294967296) (h : k = 3) : sentP s k q n = { s with resc := true } := by
  unfold sentP; rw [if_neg (by omega), if_neg (by omega), if_pos h]
theorem sentP_8 (h0 : ¬ n = 0) (h1 : (q - s.una) % 4294967296 < flightP s) (h2 : n ≤ flightP s - (q - s.una) % 4294967296) (h : k = 2) : sentP s k q n = rexP s ((q - s.una) % 4294967296) ((q + n) % 4294967296) := by
  unfold sentP; rw [if_neg (by omega), if_neg (by omega), if_neg (by omega), if_pos h]
theorem sentP_9 (h : ¬ k = 1) (h2 : ¬ k = 2) (h3 : ¬ k = 3) : sentP s k q n = s := by
  unfold sentP; rw [if_neg h, if_neg h3, if_neg h2]; split <;> rfl
theorem rexP_1 {x e : Int} (h : x = 0) (h2 : lessP s.high e = true) : rexP s x e = { s with forced := false, high := e } := by unfold rexP; rw [if_pos h, if_pos h2]
theorem rexP_2 {x e : Int} (h : x = 0) (h2 : lessP s.high e = false) : rexP s x e = { s with forced := false } := by unfold rexP; rw [if_pos h, if_neg (by simp [h2])]
theorem rexP_3 {x e : Int} (h : ¬ x = 0) (h2 : lessP s.high e = true) : rexP s x e = { s with high := e } := by unfold rexP; rw [if_neg h, if_pos h2]
theorem rexP_4 {x e : Int} (h : ¬ x = 0) (h2 : lessP s.high e = false) : rexP s x e = s := by unfold rexP; rw [if_neg h, if_neg (by simp [h2])]
end sent
theorem high_ok {s : CS} (h : Ok s) {x : Int} (hx : U x) : Ok { s with high := x } := by
  obtain ⟨⟨h1, h2, h3, h4, h5, h6, h7⟩, h8, h9, h10, h11, h12, h13, h14, h15, h16⟩ := h
  exact ⟨⟨h1, h2, h3, h4, h5, h6, h7⟩, h8, h9, h10, h11, h12, h13, h14, hx, h16⟩
theorem sentP_ok {s : CS} (h : Ok s) (k q n : Int) : Ok (sentP s k q n) := by
  have hm : ∀ x : Int, U (x % 4294967296) := fun x => ⟨by omega, by omega⟩
  unfold sentP
  split
  · split
    · obtain ⟨⟨h1, h2, h3, h4, h5, h6, h7⟩, h8, h9, h10, h11, h12, h13, h14, h15, h16⟩ := h
      exact ⟨⟨h1, h2, h3, h4, h5, h6, h7⟩, h8, h9, h10, h11, hm _, h13, h14, h15, h16⟩
    · exact h
  split
  · exact h
  split
  · obtain ⟨⟨h1, h2, h3, h4, h5, h6, h7⟩, h8, h9, h10, h11, h12, h13, h14, h15, h16⟩ := h
    exact ⟨⟨h1, h2, h3, h4, h5, h6, h7⟩, h8, h9, h10, h11, h12, h13, h14, h15, h16⟩
  split
  · unfold rexP; split
    · split
      · exact high_ok (forced_ok h false) (hm _)
      · exact forced_ok h false
    · split
      · exact high_ok h (hm _)
      · exact h
  · exact h
/-- a configuration's cells -/
structure CF where
  init : Int
  maxc : Int
  bn : Int
  bd : Int
  abc : Int
  dupt : Int
  idle : Bool
  mss : Int
  start : Int
  sack : Bool
def cfL (c : CF) : List Value := [.int .u32 c.init, .int .u32 c.maxc, .int .u32 c.bn, .int .u32 c.bd, .int .u32 c.abc, .int .u32 c.dupt, .bool c.idle, .int .u32 c.mss, .int .u32 c.start, .bool c.sack]
structure CFok (c : CF) : Prop where
  init : U c.init
  maxc : U c.maxc
  bn : U c.bn
  bd : U c.bd
  abc : U c.abc
  dupt : U c.dupt
  mss : U c.mss
  start : U c.start
def CV (c : CF) : Prop := (1 ≤ c.mss ∧ c.mss ≤ 65535) ∧ (2 * c.mss ≤ c.maxc ∧ c.maxc ≤ 1073741824) ∧ c.init ≤ 64 ∧ (1 ≤ c.bn ∧ c.bn < c.bd) ∧ (1 ≤ c.abc ∧ c.abc ≤ 4) ∧ (1 ≤ c.dupt ∧ c.dupt ≤ 16)
/-- as it is made: 'x' its window -/
def newX (c : CF) (x : Int) : CS :=
  { init := c.init, maxc := c.maxc, bn := c.bn, bd := c.bd, abc := c.abc, dupt := c.dupt, idle := c.idle, mss := c.mss, cwnd := x, ssth := c.maxc, credit := 0, una := c.start, nxt := c.start, phase := 0, recov := (c.start - 1) % 4294967296, high := c.start, dups := 0, forced := false, timed := false, resc := false }
def newP (c : CF) : CS := newX c (initW (newX c 0))
theorem newX_cf {c : CF} (h : CFok c) (hv : CV c) (x : Int) : Cf (newX c x) := by
  obtain ⟨v1, v2, v3, v4, v5, v6⟩ := hv
  exact ⟨⟨h.init.1, v3⟩, v2, v4, h.bd.2, v5, v6, v1⟩
theorem newP_ok {c : CF} (h : CFok c) (hv : CV c) : Ok (newP c) := by
  have hc := newX_cf h hv (initW (newX c 0))
  have hp := segP_bd (newX_cf h hv 0)
  have hv2 := hv
  obtain ⟨v1, v2, v3, v4, v5, v6⟩ := hv2
  have hb := prod_bd (a := segP (newX c 0)) (b := c.mss) (A := 64) (B := 65535) (by omega) (by omega)
  have hm : c.mss ≤ segP (newX c 0) * c.mss := by
    have := Int.mul_le_mul_of_nonneg_right hp.1 (show (0 : Int) ≤ c.mss by omega)
    omega
  have hs := h.start
  refine ⟨hc, ?_, ⟨v2.1, Int.le_refl _⟩, u0, hs, hs, p0, ⟨by show 0 ≤ (c.start - 1) % 4294967296; omega, by show (c.start - 1) % 4294967296 < 4294967296; omega⟩, hs, u0⟩
  show c.mss ≤ min (segP (newX c 0) * c.mss) c.maxc ∧ min (segP (newX c 0) * c.mss) c.maxc ≤ c.maxc
  omega


set_option maxHeartbeats 1000000 in
theorem sent_spec (sb : Nat) (bu bn : Int) (bv : Value) (x : Int) : Sp Tryz.prog 38 #[.pointer (some ⟨sb, 0, none⟩), .int .u32 x] [(sb, C (bdL bu bn bv) 85)] (fun v F' => v = .tuple #[] ∧ F' = [(sb, C (bdL bu x bv) 85)]) := by
  refine f_enter (args := [.pointer (some ⟨sb, 0, none⟩), .int .u32 x]) Tryz.func38 rfl Tryz.ntmps38 rfl ?_
  intro w0 w a hpre hl hh
  simp only [slotsFrom, Nat.reduceAdd] at hl
  refine c_region ?_
  refine wl (wl_val hl rfl trivial (r_move hl rfl) ?_)
  clear hl a; intro a hl
  refine wl (wl_val hl rfl trivial (r_move hl rfl) ?_)
  clear hl a; intro a hl
  refine wl (wl_val hl rfl trivial (r_nilCheck hl rfl) ?_)
  clear hl a; intro a hl
  refine wl (wl_val hl rfl trivial (r_field hl rfl fld85_1) ?_)
  clear hl a; intro a hl
  refine wl (w_store hl hh trivial one29 rfl rfl (by repeat (first | exact find_head | apply find_tail)) (by first | (simp; done) | (simp; omega) | (simp [bdL]; done)) (by first | rfl | assumption | (apply Row.one; assumption)) (by first | (simp only [bdL, setL, List.getElem?_cons_zero, List.getElem?_cons_succ, Value.cells, List.take_zero, List.take_succ_cons, List.take_nil, List.drop_zero, List.drop_succ_cons, List.drop_nil, List.length_cons, List.length_nil, List.cons_append, List.nil_append, List.append_nil, Nat.zero_add, Nat.add_zero, Nat.reduceAdd, Nat.reduceBEq, Nat.reduceEqDiff, Nat.ble, BEq.rfl, Bool.and_true, Bool.and_self, cond_true, beq_self_eq_true]; rfl) | (simp only [setL, List.getElem?_cons_zero, List.getElem?_cons_succ, Value.cells, List.take_zero, List.take_succ_cons, List.take_nil, List.drop_zero, List.drop_succ_cons, List.drop_nil, List.length_cons, List.length_nil, List.cons_append, List.nil_append, List.append_nil, Nat.zero_add, Nat.add_zero, Nat.reduceAdd, Nat.reduceBEq, Nat.reduceEqDiff, Nat.ble, BEq.rfl, Bool.and_true, Bool.and_self, cond_true, beq_self_eq_true]; rfl)) ?_)
  clear hh w; intro w hh
  refine w_nil ?_
  have hl2 := hl.nil; clear hl; have hl := hl2; clear hl2
  refine f_end0 (F' := [(sb, C (bdL bu x bv) 85)]) hl hh rfl (by repeat (first | exact keeps_nil | apply keeps_cons (by repeat (first | exact find_head | apply find_tail)) (by first  | rfl) | exact keeps_self | apply keeps_mv)) ?_
  exact ⟨rfl, rfl⟩

set_option maxHeartbeats 1000000 in
theorem onSentN_spec (cp : Nat) (s : CS) (hs : Ok s) (hf : flightP s ≤ 2147483647) (k q n : Int) (hq : U q) (hn : U n) : Sp Tryz.prog 16 #[.pointer (some ⟨cp, 0, none⟩), .agg ⟨[.int .u8 k, .int .u32 q, .int .u32 n]⟩] [(cp, C (encC (s) none) 66)] (fun v F' => v = .tuple #[] ∧ F' = [(cp, C (encC (sentP s k q n) none) 66)]) := by
  refine f_enter (args := [.pointer (some ⟨cp, 0, none⟩), .agg ⟨[.int .u8 k, .int .u32 q, .int .u32 n]⟩]) Tryz.func16 rfl Tryz.ntmps16 rfl ?_
  intro w0 w a hpre hl hh
  have o1 := hs.init; have o2 := hs.maxc; have o3 := hs.bn; have o4 := hs.bd; have o5 := hs.abc; have o6 := hs.dupt; have o7 := hs.mss; have o8 := hs.cwnd; have o9 := hs.ssth; have o10 := hs.credit; have o11 := hs.una; have o12 := hs.nxt; have o13 := hs.phase; have o14 := hs.recov; have o15 := hs.high; have o16 := hs.dups; have o17 := flightP_U s
  simp only [slotsFrom, Nat.reduceAdd] at hl
  refine c_seq ?_
  refine c_region ?_
  refine wl (w_box hl hh rfl trivial rfl rfl ?_)
  clear hl hh a w; intro k3 a w hl hh
  refine w_nil ?_
  have hl2 := hl.add (t := 0) (hl.add (t := 3) (hl.nil) rfl) rfl; clear hl; have hl := hl2; clear hl2
  refine then_normal ?_
  refine c_seq ?_
  refine c_region ?_
  refine wl (wl_val hl rfl trivial (r_move hl rfl) ?_)
  clear hl a; intro a hl
  refine wl (w_call hl hh rfl trivial rfl cal33 rfl (flight_spec cp s none) (by repeat (first | exact keeps_nil | apply keeps_cons (by repeat (first | exact find_head | apply find_tail)) (by first  | rfl) | exact keeps_self | apply keeps_mv)) (hh.mem _ _ (Find.mem (by repeat (first | exact find_head | apply find_tail)))) ?_)
  clear hl hh a w; intro vc Fc a w hR hl hh
  obtain ⟨rfl, rfl⟩ := hR
  try simp only [List.cons_append, List.nil_append] at hh
  refine wl (wl_val hl rfl trivial (r_assign hl rfl) ?_)
  clear hl a; intro a hl
  refine w_nil ?_
  have hl2 := hl.add (t := 0) (hl.add (t := 3) (hl.add (t := 4) (hl.nil) rfl) rfl) rfl; clear hl; have hl := hl2; clear hl2
  refine then_normal ?_
  refine c_seq ?_
  refine c_seq ?_
  refine c_region ?_
  refine wl (wl_val hl rfl trivial (r_field hl rfl fld40_0) ?_)
  clear hl a; intro a hl
  refine wl (w_load hl hh rfl trivial one38 rfl (by repeat (first | exact find_head | apply find_tail)) (by first | rfl | rfl) ?_)
  clear hl a; intro a hl
  refine wl (wl_val hl rfl trivial (r_eql hl rfl rfl) ?_)
  clear hl a; intro a hl
  refine w_nil ?_
  have hl2 := hl.add (t := 0) (hl.add (t := 3) (hl.add (t := 4) (hl.add (t := 11) (hl.nil) rfl) rfl) rfl) rfl; clear hl; have hl := hl2; clear hl2
  refine then_normal ?_
  refine c_cond hl rfl ?_ ?_
  · intro hc0
    try simp only [decide_eq_true_eq, decide_eq_false_iff_not, Bool.not_eq_true', Bool.not_eq_false', Bool.not_eq_true, Bool.not_eq_false, Bool.and_eq_true, Bool.or_eq_true, Bool.and_eq_false_iff, Bool.or_eq_false_iff, Bool.not_not, ne_eq, Int.not_lt, Int.not_le, Decidable.not_not, beq_iff_eq, bne_iff_ne] at hc0
    refine c_seq ?_
    refine c_seq ?_
    refine c_draw [(k3, C [.int .u8 k, .int .u32 q, .int .u32 n] 40), (cp, C (encC (s) none) 66)] [12, 13] mixed hh ?_
    clear hh w; intro w hh
    have hM : Mem [(k3, C [.int .u8 k, .int .u32 q, .int .u32 n] 40), (cp, C (encC (s) none) 66)] w := (by (repeat (first | exact Mem.nil | refine Mem.cons hh.mem (by (repeat (first | exact find_head | apply find_tail)); done) ?_ | refine Mem.consR hh (by assumption) (by simp) ?_ | fail)); done)
    refine d_take (i := 0) hl rfl (by kernel_rfl) (by kernel_rfl) (by kernel_rfl) (by kernel_rfl) (by kernel_rfl) rfl trivial (fun _ _ _ h => h) hM (fun w hC => r_field hl rfl fld40_1) rfl ?_
    clear hl a; intro a hl
    refine d_take (i := 1) hl rfl (by kernel_rfl) (by kernel_rfl) (by kernel_rfl) (by kernel_rfl) (by kernel_rfl) rfl trivial (fun _ _ _ h => h) hM (fun w hC => r_loadC hl rfl one29 hC (by repeat (first | exact find_head | apply find_tail)) (by first | rfl | rfl)) rfl ?_
    clear hl a; intro a hl
    refine d_take (i := 2) hl rfl (by kernel_rfl) (by kernel_rfl) (by kernel_rfl) (by kernel_rfl) (by kernel_rfl) rfl trivial (fun _ _ _ h => h) hM (fun w hC => r_move hl rfl) rfl ?_
    clear hl a; intro a hl
    refine d_take (i := 3) hl rfl (by kernel_rfl) (by kernel_rfl) (by kernel_rfl) (by kernel_rfl) (by kernel_rfl) rfl trivial (fun _ _ _ h => h) hM (fun w hC => r_nilCheck hl rfl) rfl ?_
    clear hl a; intro a hl
    refine d_take (i := 4) hl rfl (by kernel_rfl) (by kernel_rfl) (by kernel_rfl) (by kernel_rfl) (by kernel_rfl) rfl trivial (fun _ _ _ h => h) hM (fun w hC => r_field hl rfl fld66_7) rfl ?_
    clear hl a; intro a hl
    refine d_take (i := 5) hl rfl (by kernel_rfl) (by kernel_rfl) (by kernel_rfl) (by kernel_rfl) (by kernel_rfl) rfl trivial (fun _ _ _ h => h) hM (fun w hC => r_loadC hl rfl one29 hC (by repeat (first | exact find_head | apply find_tail)) (by first | rfl | rfl)) rfl ?_
    clear hl a; intro a hl
    refine d_take (i := 6) hl rfl (by kernel_rfl) (by kernel_rfl) (by kernel_rfl) (by kernel_rfl) (by kernel_rfl) rfl trivial (fun _ _ _ h => h) hM (fun w hC => r_eql hl rfl rfl) rfl ?_
    clear hl a; intro a hl
    refine d_take (i := 7) hl rfl (by kernel_rfl) (by kernel_rfl) (by kernel_rfl) (by kernel_rfl) (by kernel_rfl) rfl trivial (fun _ _ _ h => h) hM (fun w hC => r_move hl rfl) rfl ?_
    clear hl a; intro a hl
    refine sl_split (t := 19) hl rfl ?_ ?_
    · intro hg1; clear hl; intro hl
      try simp only [decide_eq_true_eq, decide_eq_false_iff_not, Bool.not_eq_true', Bool.not_eq_false', Bool.not_eq_true, Bool.not_eq_false, Bool.and_eq_true, Bool.or_eq_true, Bool.and_eq_false_iff, Bool.or_eq_false_iff, Bool.not_not, ne_eq, Int.not_lt, Int.not_le, Decidable.not_not, beq_iff_eq, bne_iff_ne] at hg1
      refine d_take (i := 8) hl rfl (by kernel_rfl) (by kernel_rfl) (by kernel_rfl) (by kernel_rfl) (by kernel_rfl) rfl ⟨_, _, rfl, rfl, rfl⟩ (fun _ _ _ h => h) hM (fun w hC => r_field hl rfl fld40_2) rfl ?_
      clear hl a; intro a hl
      refine d_take (i := 9) hl rfl (by kernel_rfl) (by kernel_rfl) (by kernel_rfl) (by kernel_rfl) (by kernel_rfl) rfl ⟨_, _, rfl, rfl, rfl⟩ (fun _ _ _ h => h) hM (fun w hC => r_loadC hl rfl one29 hC (by repeat (first | exact find_head | apply find_tail)) (by first | rfl | rfl)) rfl ?_
      clear hl a; intro a hl
      refine d_take (i := 10) hl rfl (by kernel_rfl) (by kernel_rfl) (by kernel_rfl) (by kernel_rfl) (by kernel_rfl) rfl ⟨_, _, rfl, rfl, rfl⟩ (fun _ _ _ h => h) hM (fun w hC => r_move hl rfl) rfl ?_
      clear hl a; intro a hl
      first | refine d_take (i := 11) hl rfl (by kernel_rfl) (by kernel_rfl) (by kernel_rfl) (by kernel_rfl) (by kernel_rfl) rfl ⟨_, _, rfl, rfl, rfl⟩ (fun _ _ _ h => h) hM (fun w hC => r_sub hl rfl rfl (by simp only [Fits]; omega)) rfl ?_ | refine d_take (i := 11) hl rfl (by kernel_rfl) (by kernel_rfl) (by kernel_rfl) (by kernel_rfl) (by kernel_rfl) rfl ⟨_, _, rfl, rfl, rfl⟩ (fun _ _ _ h => h) hM (fun w hC => r_subM wm_u32 hl rfl rfl) rfl ?_
      clear hl a; intro a hl
      refine d_takeL (i := 12) hl rfl (by kernel_rfl) (by kernel_rfl) (by kernel_rfl) (by kernel_rfl) (by kernel_rfl) rfl ⟨_, _, rfl, rfl, rfl⟩ (fun _ _ _ h => h) (fun w => r_leq hl rfl rfl) rfl ?_
      clear hl a; intro a hl
      refine d_takeL (i := 13) hl rfl (by kernel_rfl) (by kernel_rfl) (by kernel_rfl) (by kernel_rfl) (by kernel_rfl) rfl trivial (fun _ _ _ h => h) (fun w => r_pickT hl rfl rfl) rfl ?_
      clear hl a; intro a hl
      refine d_done (by kernel_rfl) ?_
      try clear hM
      have hl2 := hl.add (t := 0) (hl.add (t := 3) (hl.add (t := 25) (hl.nil) rfl) rfl) rfl; clear hl; have hl := hl2; clear hl2
      refine then_normal ?_
      refine c_cond hl rfl ?_ ?_
      · intro hc1
        try simp only [decide_eq_true_eq, decide_eq_false_iff_not, Bool.not_eq_true', Bool.not_eq_false', Bool.not_eq_true, Bool.not_eq_false, Bool.and_eq_true, Bool.or_eq_true, Bool.and_eq_false_iff, Bool.or_eq_false_iff, Bool.not_not, ne_eq, Int.not_lt, Int.not_le, Decidable.not_not, beq_iff_eq, bne_iff_ne] at hc1
        refine c_seq ?_
        refine c_draw [(k3, C [.int .u8 k, .int .u32 q, .int .u32 n] 40), (cp, C (encC (s) none) 66)] [6, 7, 8, 9] mixed hh ?_
        clear hh w; intro w hh
        have hM : Mem [(k3, C [.int .u8 k, .int .u32 q, .int .u32 n] 40), (cp, C (encC (s) none) 66)] w := (by (repeat (first | exact Mem.nil | refine Mem.cons hh.mem (by (repeat (first | exact find_head | apply find_tail)); done) ?_ | refine Mem.consR hh (by assumption) (by simp) ?_ | fail)); done)
        refine d_take (i := 0) hl rfl (by kernel_rfl) (by kernel_rfl) (by kernel_rfl) (by kernel_rfl) (by kernel_rfl) rfl trivial (fun _ _ _ h => h) hM (fun w hC => r_move hl rfl) rfl ?_
        clear hl a; intro a hl
        refine d_take (i := 1) hl rfl (by kernel_rfl) (by kernel_rfl) (by kernel_rfl) (by kernel_rfl) (by kernel_rfl) rfl trivial (fun _ _ _ h => h) hM (fun w hC => r_nilCheck hl rfl) rfl ?_
        clear hl a; intro a hl
        refine d_take (i := 2) hl rfl (by kernel_rfl) (by kernel_rfl) (by kernel_rfl) (by kernel_rfl) (by kernel_rfl) rfl trivial (fun _ _ _ h => h) hM (fun w hC => r_field hl rfl fld66_7) rfl ?_
        clear hl a; intro a hl
        refine d_take (i := 3) hl rfl (by kernel_rfl) (by kernel_rfl) (by kernel_rfl) (by kernel_rfl) (by kernel_rfl) rfl trivial (fun _ _ _ h => h) hM (fun w hC => r_loadC hl rfl one29 hC (by repeat (first | exact find_head | apply find_tail)) (by first | rfl | rfl)) rfl ?_
        clear hl a; intro a hl
        refine d_take (i := 4) hl rfl (by kernel_rfl) (by kernel_rfl) (by kernel_rfl) (by kernel_rfl) (by kernel_rfl) rfl trivial (fun _ _ _ h => h) hM (fun w hC => r_field hl rfl fld40_2) rfl ?_
        clear hl a; intro a hl
        refine d_take (i := 5) hl rfl (by kernel_rfl) (by kernel_rfl) (by kernel_rfl) (by kernel_rfl) (by kernel_rfl) rfl trivial (fun _ _ _ h => h) hM (fun w hC => r_loadC hl rfl one29 hC (by repeat (first | exact find_head | apply find_tail)) (by first | rfl | rfl)) rfl ?_
        clear hl a; intro a hl
        refine d_takeL (i := 6) hl rfl (by kernel_rfl) (by kernel_rfl) (by kernel_rfl) (by kernel_rfl) (by kernel_rfl) rfl trivial (fun _ _ _ h => h) (fun w => r_addM wm_u32 hl rfl rfl) rfl ?_
        clear hl a; intro a hl
        refine d_takeL (i := 7) hl rfl (by kernel_rfl) (by kernel_rfl) (by kernel_rfl) (by kernel_rfl) (by kernel_rfl) rfl trivial (fun _ _ _ h => h) (fun w => r_nilCheck hl rfl) rfl ?_
        clear hl a; intro a hl
        refine d_takeL (i := 8) hl rfl (by kernel_rfl) (by kernel_rfl) (by kernel_rfl) (by kernel_rfl) (by kernel_rfl) rfl trivial (fun _ _ _ h => h) (fun w => r_field hl rfl fld66_7) rfl ?_
        clear hl a; intro a hl
        refine d_one (i := 9) (by kernel_rfl) rfl ?_
        try clear hM
        refine id (w_store hl hh trivial one29 rfl rfl (by repeat (first | exact find_head | apply find_tail)) (by first | (simp; done) | (simp; omega)) (by first | rfl | assumption | (apply Row.one; assumption)) (by first | (simp only [encC, setL, List.getElem?_cons_zero, List.getElem?_cons_succ, Value.cells, List.take_zero, List.take_succ_cons, List.take_nil, List.drop_zero, List.drop_succ_cons, List.drop_nil, List.length_cons, List.length_nil, List.cons_append, List.nil_append, List.append_nil, Nat.zero_add, Nat.add_zero, Nat.reduceAdd, Nat.reduceBEq, Nat.reduceEqDiff, Nat.ble, BEq.rfl, Bool.and_true, Bool.and_self, cond_true, beq_self_eq_true]; rfl) | (simp only [setL, List.getElem?_cons_zero, List.getElem?_cons_succ, Value.cells, List.take_zero, List.take_succ_cons, List.take_nil, List.drop_zero, List.drop_succ_cons, List.drop_nil, List.length_cons, List.length_nil, List.cons_append, List.nil_append, List.append_nil, Nat.zero_add, Nat.add_zero, Nat.reduceAdd, Nat.reduceBEq, Nat.reduceEqDiff, Nat.ble, BEq.rfl, Bool.and_true, Bool.and_self, cond_true, beq_self_eq_true]; rfl)) ?_)
        clear hh w; intro w hh
        refine d_step (fun h => absurd h (by decide)) ?_
        refine d_done (by kernel_rfl) ?_
        try clear hM
        have hl2 := hl.add (t := 0) (hl.nil) rfl; clear hl; have hl := hl2; clear hl2
        refine then_normal ?_
        refine c_seq ?_
        refine c_region ?_
        refine wl (wl_val hl rfl trivial (r_move hl rfl) ?_)
        clear hl a; intro a hl
        refine wl (wl_val hl rfl trivial (r_nilCheck hl rfl) ?_)
        clear hl a; intro a hl
        refine wl (wl_val hl rfl trivial (r_field hl rfl fld66_2) ?_)
        clear hl a; intro a hl
        refine wl (w_load hl hh rfl trivial one64 rfl (by repeat (first | exact find_head | apply find_tail)) (by first | rfl | rfl) ?_)
        clear hl a; intro a hl
        refine wl (wl_val hl rfl trivial (r_neq_pointer hl rfl rfl ptr64) ?_)
        clear hl a; intro a hl
        refine w_nil ?_
        have hl2 := hl.add (t := 0) (hl.add (t := 39) (hl.nil) rfl) rfl; clear hl; have hl := hl2; clear hl2
        refine then_normal ?_
        refine c_cond hl rfl ?_ ?_
        · intro hc2
          try simp only [decide_eq_true_eq, decide_eq_false_iff_not, Bool.not_eq_true', Bool.not_eq_false', Bool.not_eq_true, Bool.not_eq_false, Bool.and_eq_true, Bool.or_eq_true, Bool.and_eq_false_iff, Bool.or_eq_false_iff, Bool.not_not, ne_eq, Int.not_lt, Int.not_le, Decidable.not_not, beq_iff_eq, bne_iff_ne] at hc2
          exfalso; first | contradiction | omega | (simp at *; done)
        · intro hc2
          try simp only [decide_eq_true_eq, decide_eq_false_iff_not, Bool.not_eq_true', Bool.not_eq_false', Bool.not_eq_true, Bool.not_eq_false, Bool.and_eq_true, Bool.or_eq_true, Bool.and_eq_false_iff, Bool.or_eq_false_iff, Bool.not_not, ne_eq, Int.not_lt, Int.not_le, Decidable.not_not, beq_iff_eq, bne_iff_ne] at hc2
          refine wp_skip ?_
          refine then_normal ?_
          refine wp_ret ?_
          refine then_ret ?_
          refine f_ret0 (F' := [(cp, C (encC (sentP s k q n) none) 66)]) hl hh rfl (by repeat (first | exact keeps_nil | apply keeps_cons (by repeat (first | exact find_head | apply find_tail)) (by first  | (have h9 := sentP_1 (s := s) (k := k) (q := q) (n := n) (by assumption) (by assumption) (by assumption); exact blk_eq (congrArg (fun z => encC z none) h9.symm)) | (have h9 := sentP_2 (s := s) (k := k) (q := q) (n := n) (by assumption) (by assumption); exact blk_eq (congrArg (fun z => encC z none) h9.symm)) | (have h9 := sentP_3 (s := s) (k := k) (q := q) (n := n) (by assumption) (by assumption); exact blk_eq (congrArg (fun z => encC z none) h9.symm)) | (have h9 := sentP_4 (s := s) (k := k) (q := q) (n := n) (by assumption) (by assumption); exact blk_eq (congrArg (fun z => encC z none) h9.symm)) | (have h9 := sentP_5 (s := s) (k := k) (q := q) (n := n) (by assumption) (by assumption); exact blk_eq (congrArg (fun z => encC z none) h9.symm)) | (have h9 := sentP_6 (s := s) (k := k) (q := q) (n := n) (by assumption) (by assumption); exact blk_eq (congrArg (fun z => encC z none) h9.symm)) | (have h9 := sentP_7 (s := s) (k := k) (q := q) (n := n) (by assumption) (by assumption) (by assumption) (by assumption); exact blk_eq (congrArg (fun z => encC z none) h9.symm)) | (have h9 := (sentP_8 (s := s) (k := k) (q := q) (n := n) (by assumption) (by assumption) (by assumption) (by assumption)).trans (rexP_1 (s := s) (x := (q - s.una) % 4294967296) (e := (q + n) % 4294967296) (by assumption) (by assumption)); exact blk_eq (congrArg (fun z => encC z none) h9.symm)) | (have h9 := (sentP_8 (s := s) (k := k) (q := q) (n := n) (by assumption) (by assumption) (by assumption) (by assumption)).trans (rexP_2 (s := s) (x := (q - s.una) % 4294967296) (e := (q + n) % 4294967296) (by assumption) (by assumption)); exact blk_eq (congrArg (fun z => encC z none) h9.symm)) | (have h9 := (sentP_8 (s := s) (k := k) (q := q) (n := n) (by assumption) (by assumption) (by assumption) (by assumption)).trans (rexP_3 (s := s) (x := (q - s.una) % 4294967296) (e := (q + n) % 4294967296) (by assumption) (by assumption)); exact blk_eq (congrArg (fun z => encC z none) h9.symm)) | (have h9 := (sentP_8 (s := s) (k := k) (q := q) (n := n) (by assumption) (by assumption) (by assumption) (by assumption)).trans (rexP_4 (s := s) (x := (q - s.una) % 4294967296) (e := (q + n) % 4294967296) (by assumption) (by assumption)); exact blk_eq (congrArg (fun z => encC z none) h9.symm)) | (have h9 := sentP_9 (s := s) (k := k) (q := q) (n := n) (by assumption) (by assumption) (by assumption); exact blk_eq (congrArg (fun z => encC z none) h9.symm)) | (have h9 := sentP_1 (s := s) (k := k) (q := q) (n := n) (by assumption) (by assumption) (by assumption); exact blk_eq (congrArg (fun z => bdL bu z bv) (congrArg CS.nxt h9).symm)) | (have h9 := sentP_2 (s := s) (k := k) (q := q) (n := n) (by assumption) (by assumption); exact blk_eq (congrArg (fun z => bdL bu z bv) (congrArg CS.nxt h9).symm)) | (have h9 := sentP_3 (s := s) (k := k) (q := q) (n := n) (by assumption) (by assumption); exact blk_eq (congrArg (fun z => bdL bu z bv) (congrArg CS.nxt h9).symm)) | (have h9 := sentP_4 (s := s) (k := k) (q := q) (n := n) (by assumption) (by assumption); exact blk_eq (congrArg (fun z => bdL bu z bv) (congrArg CS.nxt h9).symm)) | (have h9 := sentP_5 (s := s) (k := k) (q := q) (n := n) (by assumption) (by assumption); exact blk_eq (congrArg (fun z => bdL bu z bv) (congrArg CS.nxt h9).symm)) | (have h9 := sentP_6 (s := s) (k := k) (q := q) (n := n) (by assumption) (by assumption); exact blk_eq (congrArg (fun z => bdL bu z bv) (congrArg CS.nxt h9).symm)) | (have h9 := sentP_7 (s := s) (k := k) (q := q) (n := n) (by assumption) (by assumption) (by assumption) (by assumption); exact blk_eq (congrArg (fun z => bdL bu z bv) (congrArg CS.nxt h9).symm)) | (have h9 := (sentP_8 (s := s) (k := k) (q := q) (n := n) (by assumption) (by assumption) (by assumption) (by assumption)).trans (rexP_1 (s := s) (x := (q - s.una) % 4294967296) (e := (q + n) % 4294967296) (by assumption) (by assumption)); exact blk_eq (congrArg (fun z => bdL bu z bv) (congrArg CS.nxt h9).symm)) | (have h9 := (sentP_8 (s := s) (k := k) (q := q) (n := n) (by assumption) (by assumption) (by assumption) (by assumption)).trans (rexP_2 (s := s) (x := (q - s.una) % 4294967296) (e := (q + n) % 4294967296) (by assumption) (by assumption)); exact blk_eq (congrArg (fun z => bdL bu z bv) (congrArg CS.nxt h9).symm)) | (have h9 := (sentP_8 (s := s) (k := k) (q := q) (n := n) (by assumption) (by assumption) (by assumption) (by assumption)).trans (rexP_3 (s := s) (x := (q - s.una) % 4294967296) (e := (q + n) % 4294967296) (by assumption) (by assumption)); exact blk_eq (congrArg (fun z => bdL bu z bv) (congrArg CS.nxt h9).symm)) | (have h9 := (sentP_8 (s := s) (k := k) (q := q) (n := n) (by assumption) (by assumption) (by assumption) (by assumption)).trans (rexP_4 (s := s) (x := (q - s.una) % 4294967296) (e := (q + n) % 4294967296) (by assumption) (by assumption)); exact blk_eq (congrArg (fun z => bdL bu z bv) (congrArg CS.nxt h9).symm)) | (have h9 := sentP_9 (s := s) (k := k) (q := q) (n := n) (by assumption) (by assumption) (by assumption); exact blk_eq (congrArg (fun z => bdL bu z bv) (congrArg CS.nxt h9).symm)) | exact absurd hc2 (by simp) | rfl) | exact keeps_self | apply keeps_mv)) ?_
          exact ⟨rfl, rfl⟩
      · intro hc1
        try simp only [decide_eq_true_eq, decide_eq_false_iff_not, Bool.not_eq_true', Bool.not_eq_false', Bool.not_eq_true, Bool.not_eq_false, Bool.and_eq_true, Bool.or_eq_true, Bool.and_eq_false_iff, Bool.or_eq_false_iff, Bool.not_not, ne_eq, Int.not_lt, Int.not_le, Decidable.not_not, beq_iff_eq, bne_iff_ne] at hc1
        refine wp_skip ?_
        refine then_normal ?_
        refine wp_ret ?_
        refine then_ret ?_
        refine f_ret0 (F' := [(cp, C (encC (sentP s k q n) none) 66)]) hl hh rfl (by repeat (first | exact keeps_nil | apply keeps_cons (by repeat (first | exact find_head | apply find_tail)) (by first  | (have h9 := sentP_1 (s := s) (k := k) (q := q) (n := n) (by assumption) (by assumption) (by assumption); exact blk_eq (congrArg (fun z => encC z none) h9.symm)) | (have h9 := sentP_2 (s := s) (k := k) (q := q) (n := n) (by assumption) (by assumption); exact blk_eq (congrArg (fun z => encC z none) h9.symm)) | (have h9 := sentP_3 (s := s) (k := k) (q := q) (n := n) (by assumption) (by assumption); exact blk_eq (congrArg (fun z => encC z none) h9.symm)) | (have h9 := sentP_4 (s := s) (k := k) (q := q) (n := n) (by assumption) (by assumption); exact blk_eq (congrArg (fun z => encC z none) h9.symm)) | (have h9 := sentP_5 (s := s) (k := k) (q := q) (n := n) (by assumption) (by assumption); exact blk_eq (congrArg (fun z => encC z none) h9.symm)) | (have h9 := sentP_6 (s := s) (k := k) (q := q) (n := n) (by assumption) (by assumption); exact blk_eq (congrArg (fun z => encC z none) h9.symm)) | (have h9 := sentP_7 (s := s) (k := k) (q := q) (n := n) (by assumption) (by assumption) (by assumption) (by assumption); exact blk_eq (congrArg (fun z => encC z none) h9.symm)) | (have h9 := (sentP_8 (s := s) (k := k) (q := q) (n := n) (by assumption) (by assumption) (by assumption) (by assumption)).trans (rexP_1 (s := s) (x := (q - s.una) % 4294967296) (e := (q + n) % 4294967296) (by assumption) (by assumption)); exact blk_eq (congrArg (fun z => encC z none) h9.symm)) | (have h9 := (sentP_8 (s := s) (k := k) (q := q) (n := n) (by assumption) (by assumption) (by assumption) (by assumption)).trans (rexP_2 (s := s) (x := (q - s.una) % 4294967296) (e := (q + n) % 4294967296) (by assumption) (by assumption)); exact blk_eq (congrArg (fun z => encC z none) h9.symm)) | (have h9 := (sentP_8 (s := s) (k := k) (q := q) (n := n) (by assumption) (by assumption) (by assumption) (by assumption)).trans (rexP_3 (s := s) (x := (q - s.una) % 4294967296) (e := (q + n) % 4294967296) (by assumption) (by assumption)); exact blk_eq (congrArg (fun z => encC z none) h9.symm)) | (have h9 := (sentP_8 (s := s) (k := k) (q := q) (n := n) (by assumption) (by assumption) (by assumption) (by assumption)).trans (rexP_4 (s := s) (x := (q - s.una) % 4294967296) (e := (q + n) % 4294967296) (by assumption) (by assumption)); exact blk_eq (congrArg (fun z => encC z none) h9.symm)) | (have h9 := sentP_9 (s := s) (k := k) (q := q) (n := n) (by assumption) (by assumption) (by assumption); exact blk_eq (congrArg (fun z => encC z none) h9.symm)) | (have h9 := sentP_1 (s := s) (k := k) (q := q) (n := n) (by assumption) (by assumption) (by assumption); exact blk_eq (congrArg (fun z => bdL bu z bv) (congrArg CS.nxt h9).symm)) | (have h9 := sentP_2 (s := s) (k := k) (q := q) (n := n) (by assumption) (by assumption); exact blk_eq (congrArg (fun z => bdL bu z bv) (congrArg CS.nxt h9).symm)) | (have h9 := sentP_3 (s := s) (k := k) (q := q) (n := n) (by assumption) (by assumption); exact blk_eq (congrArg (fun z => bdL bu z bv) (congrArg CS.nxt h9).symm)) | (have h9 := sentP_4 (s := s) (k := k) (q := q) (n := n) (by assumption) (by assumption); exact blk_eq (congrArg (fun z => bdL bu z bv) (congrArg CS.nxt h9).symm)) | (have h9 := sentP_5 (s := s) (k := k) (q := q) (n := n) (by assumption) (by assumption); exact blk_eq (congrArg (fun z => bdL bu z bv) (congrArg CS.nxt h9).symm)) | (have h9 := sentP_6 (s := s) (k := k) (q := q) (n := n) (by assumption) (by assumption); exact blk_eq (congrArg (fun z => bdL bu z bv) (congrArg CS.nxt h9).symm)) | (have h9 := sentP_7 (s := s) (k := k) (q := q) (n := n) (by assumption) (by assumption) (by assumption) (by assumption); exact blk_eq (congrArg (fun z => bdL bu z bv) (congrArg CS.nxt h9).symm)) | (have h9 := (sentP_8 (s := s) (k := k) (q := q) (n := n) (by assumption) (by assumption) (by assumption) (by assumption)).trans (rexP_1 (s := s) (x := (q - s.una) % 4294967296) (e := (q + n) % 4294967296) (by assumption) (by assumption)); exact blk_eq (congrArg (fun z => bdL bu z bv) (congrArg CS.nxt h9).symm)) | (have h9 := (sentP_8 (s := s) (k := k) (q := q) (n := n) (by assumption) (by assumption) (by assumption) (by assumption)).trans (rexP_2 (s := s) (x := (q - s.una) % 4294967296) (e := (q + n) % 4294967296) (by assumption) (by assumption)); exact blk_eq (congrArg (fun z => bdL bu z bv) (congrArg CS.nxt h9).symm)) | (have h9 := (sentP_8 (s := s) (k := k) (q := q) (n := n) (by assumption) (by assumption) (by assumption) (by assumption)).trans (rexP_3 (s := s) (x := (q - s.una) % 4294967296) (e := (q + n) % 4294967296) (by assumption) (by assumption)); exact blk_eq (congrArg (fun z => bdL bu z bv) (congrArg CS.nxt h9).symm)) | (have h9 := (sentP_8 (s := s) (k := k) (q := q) (n := n) (by assumption) (by assumption) (by assumption) (by assumption)).trans (rexP_4 (s := s) (x := (q - s.una) % 4294967296) (e := (q + n) % 4294967296) (by assumption) (by assumption)); exact blk_eq (congrArg (fun z => bdL bu z bv) (congrArg CS.nxt h9).symm)) | (have h9 := sentP_9 (s := s) (k := k) (q := q) (n := n) (by assumption) (by assumption) (by assumption); exact blk_eq (congrArg (fun z => bdL bu z bv) (congrArg CS.nxt h9).symm)) | exact absurd hc2 (by simp) | rfl) | exact keeps_self | apply keeps_mv)) ?_
        exact ⟨rfl, rfl⟩
    · intro hg1; clear hl; intro hl
      try simp only [decide_eq_true_eq, decide_eq_false_iff_not, Bool.not_eq_true', Bool.not_eq_false', Bool.not_eq_true, Bool.not_eq_false, Bool.and_eq_true, Bool.or_eq_true, Bool.and_eq_false_iff, Bool.or_eq_false_iff, Bool.not_not, ne_eq, Int.not_lt, Int.not_le, Decidable.not_not, beq_iff_eq, bne_iff_ne] at hg1
      refine d_skip (i := 8) hl rfl (by kernel_rfl) (by kernel_rfl) (by kernel_rfl) (by kernel_rfl) (by kernel_rfl) rfl ⟨_, _, rfl, rfl, rfl⟩ (fun _ _ _ h => h) hM ?_
      clear hl a; intro a hl
      refine d_skip (i := 9) hl rfl (by kernel_rfl) (by kernel_rfl) (by kernel_rfl) (by kernel_rfl) (by kernel_rfl) rfl ⟨_, _, rfl, rfl, rfl⟩ (fun _ _ _ h => h) hM ?_
      clear hl a; intro a hl
      refine d_skip (i := 10) hl rfl (by kernel_rfl) (by kernel_rfl) (by kernel_rfl) (by kernel_rfl) (by kernel_rfl) rfl ⟨_, _, rfl, rfl, rfl⟩ (fun _ _ _ h => h) hM ?_
      clear hl a; intro a hl
      refine d_skip (i := 11) hl rfl (by kernel_rfl) (by kernel_rfl) (by kernel_rfl) (by kernel_rfl) (by kernel_rfl) rfl ⟨_, _, rfl, rfl, rfl⟩ (fun _ _ _ h => h) hM ?_
      clear hl a; intro a hl
      refine d_skip (i := 12) hl rfl (by kernel_rfl) (by kernel_rfl) (by kernel_rfl) (by kernel_rfl) (by kernel_rfl) rfl ⟨_, _, rfl, rfl, rfl⟩ (fun _ _ _ h => h) hM ?_
      clear hl a; intro a hl
      refine d_takeL (i := 13) hl rfl (by kernel_rfl) (by kernel_rfl) (by kernel_rfl) (by kernel_rfl) (by kernel_rfl) rfl trivial (fun _ _ _ h => h) (fun w => r_pickF hl rfl rfl) rfl ?_
      clear hl a; intro a hl
      refine d_done (by kernel_rfl) ?_
      try clear hM
      have hl2 := hl.add (t := 0) (hl.add (t := 3) (hl.add (t := 25) (hl.nil) rfl) rfl) rfl; clear hl; have hl := hl2; clear hl2
      refine then_normal ?_
      refine c_condF hl rfl ?_
      refine wp_skip ?_
      refine then_normal ?_
      refine wp_ret ?_
      refine then_ret ?_
      refine f_ret0 (F' := [(cp, C (encC (sentP s k q n) none) 66)]) hl hh rfl (by repeat (first | exact keeps_nil | apply keeps_cons (by repeat (first | exact find_head | apply find_tail)) (by first  | (have h9 := sentP_1 (s := s) (k := k) (q := q) (n := n) (by assumption) (by assumption) (by assumption); exact blk_eq (congrArg (fun z => encC z none) h9.symm)) | (have h9 := sentP_2 (s := s) (k := k) (q := q) (n := n) (by assumption) (by assumption); exact blk_eq (congrArg (fun z => encC z none) h9.symm)) | (have h9 := sentP_3 (s := s) (k := k) (q := q) (n := n) (by assumption) (by assumption); exact blk_eq (congrArg (fun z => encC z none) h9.symm)) | (have h9 := sentP_4 (s := s) (k := k) (q := q) (n := n) (by assumption) (by assumption); exact blk_eq (congrArg (fun z => encC z none) h9.symm)) | (have h9 := sentP_5 (s := s) (k := k) (q := q) (n := n) (by assumption) (by assumption); exact blk_eq (congrArg (fun z => encC z none) h9.symm)) | (have h9 := sentP_6 (s := s) (k := k) (q := q) (n := n) (by assumption) (by assumption); exact blk_eq (congrArg (fun z => encC z none) h9.symm)) | (have h9 := sentP_7 (s := s) (k := k) (q := q) (n := n) (by assumption) (by assumption) (by assumption) (by assumption); exact blk_eq (congrArg (fun z => encC z none) h9.symm)) | (have h9 := (sentP_8 (s := s) (k := k) (q := q) (n := n) (by assumption) (by assumption) (by assumption) (by assumption)).trans (rexP_1 (s := s) (x := (q - s.una) % 4294967296) (e := (q + n) % 4294967296) (by assumption) (by assumption)); exact blk_eq (congrArg (fun z => encC z none) h9.symm)) | (have h9 := (sentP_8 (s := s) (k := k) (q := q) (n := n) (by assumption) (by assumption) (by assumption) (by assumption)).trans (rexP_2 (s := s) (x := (q - s.una) % 4294967296) (e := (q + n) % 4294967296) (by assumption) (by assumption)); exact blk_eq (congrArg (fun z => encC z none) h9.symm)) | (have h9 := (sentP_8 (s := s) (k := k) (q := q) (n := n) (by assumption) (by assumption) (by assumption) (by assumption)).trans (rexP_3 (s := s) (x := (q - s.una) % 4294967296) (e := (q + n) % 4294967296) (by assumption) (by assumption)); exact blk_eq (congrArg (fun z => encC z none) h9.symm)) | (have h9 := (sentP_8 (s := s) (k := k) (q := q) (n := n) (by assumption) (by assumption) (by assumption) (by assumption)).trans (rexP_4 (s := s) (x := (q - s.una) % 4294967296) (e := (q + n) % 4294967296) (by assumption) (by assumption)); exact blk_eq (congrArg (fun z => encC z none) h9.symm)) | (have h9 := sentP_9 (s := s) (k := k) (q := q) (n := n) (by assumption) (by assumption) (by assumption); exact blk_eq (congrArg (fun z => encC z none) h9.symm)) | (have h9 := sentP_1 (s := s) (k := k) (q := q) (n := n) (by assumption) (by assumption) (by assumption); exact blk_eq (congrArg (fun z => bdL bu z bv) (congrArg CS.nxt h9).symm)) | (have h9 := sentP_2 (s := s) (k := k) (q := q) (n := n) (by assumption) (by assumption); exact blk_eq (congrArg (fun z => bdL bu z bv) (congrArg CS.nxt h9).symm)) | (have h9 := sentP_3 (s := s) (k := k) (q := q) (n := n) (by assumption) (by assumption); exact blk_eq (congrArg (fun z => bdL bu z bv) (congrArg CS.nxt h9).symm)) | (have h9 := sentP_4 (s := s) (k := k) (q := q) (n := n) (by assumption) (by assumption); exact blk_eq (congrArg (fun z => bdL bu z bv) (congrArg CS.nxt h9).symm)) | (have h9 := sentP_5 (s := s) (k := k) (q := q) (n := n) (by assumption) (by assumption); exact blk_eq (congrArg (fun z => bdL bu z bv) (congrArg CS.nxt h9).symm)) | (have h9 := sentP_6 (s := s) (k := k) (q := q) (n := n) (by assumption) (by assumption); exact blk_eq (congrArg (fun z => bdL bu z bv) (congrArg CS.nxt h9).symm)) | (have h9 := sentP_7 (s := s) (k := k) (q := q) (n := n) (by assumption) (by assumption) (by assumption) (by assumption); exact blk_eq (congrArg (fun z => bdL bu z bv) (congrArg CS.nxt h9).symm)) | (have h9 := (sentP_8 (s := s) (k := k) (q := q) (n := n) (by assumption) (by assumption) (by assumption) (by assumption)).trans (rexP_1 (s := s) (x := (q - s.una) % 4294967296) (e := (q + n) % 4294967296) (by assumption) (by assumption)); exact blk_eq (congrArg (fun z => bdL bu z bv) (congrArg CS.nxt h9).symm)) | (have h9 := (sentP_8 (s := s) (k := k) (q := q) (n := n) (by assumption) (by assumption) (by assumption) (by assumption)).trans (rexP_2 (s := s) (x := (q - s.una) % 4294967296) (e := (q + n) % 4294967296) (by assumption) (by assumption)); exact blk_eq (congrArg (fun z => bdL bu z bv) (congrArg CS.nxt h9).symm)) | (have h9 := (sentP_8 (s := s) (k := k) (q := q) (n := n) (by assumption) (by assumption) (by assumption) (by assumption)).trans (rexP_3 (s := s) (x := (q - s.una) % 4294967296) (e := (q + n) % 4294967296) (by assumption) (by assumption)); exact blk_eq (congrArg (fun z => bdL bu z bv) (congrArg CS.nxt h9).symm)) | (have h9 := (sentP_8 (s := s) (k := k) (q := q) (n := n) (by assumption) (by assumption) (by assumption) (by assumption)).trans (rexP_4 (s := s) (x := (q - s.una) % 4294967296) (e := (q + n) % 4294967296) (by assumption) (by assumption)); exact blk_eq (congrArg (fun z => bdL bu z bv) (congrArg CS.nxt h9).symm)) | (have h9 := sentP_9 (s := s) (k := k) (q := q) (n := n) (by assumption) (by assumption) (by assumption); exact blk_eq (congrArg (fun z => bdL bu z bv) (congrArg CS.nxt h9).symm)) | exact absurd hc2 (by simp) | rfl) | exact keeps_self | apply keeps_mv)) ?_
      exact ⟨rfl, rfl⟩
  · intro hc0
    try simp only [decide_eq_true_eq, decide_eq_false_iff_not, Bool.not_eq_true', Bool.not_eq_false', Bool.not_eq_true, Bool.not_eq_false, Bool.and_eq_true, Bool.or_eq_true, Bool.and_eq_false_iff, Bool.or_eq_false_iff, Bool.not_not, ne_eq, Int.not_lt, Int.not_le, Decidable.not_not, beq_iff_eq, bne_iff_ne] at hc0
    refine wp_skip ?_
    refine then_normal ?_
    refine c_seq ?_
    refine c_draw [(k3, C [.int .u8 k, .int .u32 q, .int .u32 n] 40), (cp, C (encC (s) none) 66)] [6, 7] mixed hh ?_
    clear hh w; intro w hh
    have hM : Mem [(k3, C [.int .u8 k, .int .u32 q, .int .u32 n] 40), (cp, C (encC (s) none) 66)] w := (by (repeat (first | exact Mem.nil | refine Mem.cons hh.mem (by (repeat (first | exact find_head | apply find_tail)); done) ?_ | refine Mem.consR hh (by assumption) (by simp) ?_ | fail)); done)
    refine d_take (i := 0) hl rfl (by kernel_rfl) (by kernel_rfl) (by kernel_rfl) (by kernel_rfl) (by kernel_rfl) rfl trivial (fun _ _ _ h => h) hM (fun w hC => r_field hl rfl fld40_1) rfl ?_
    clear hl a; intro a hl
    refine d_take (i := 1) hl rfl (by kernel_rfl) (by kernel_rfl) (by kernel_rfl) (by kernel_rfl) (by kernel_rfl) rfl trivial (fun _ _ _ h => h) hM (fun w hC => r_loadC hl rfl one29 hC (by repeat (first | exact find_head | apply find_tail)) (by first | rfl | rfl)) rfl ?_
    clear hl a; intro a hl
    refine d_take (i := 2) hl rfl (by kernel_rfl) (by kernel_rfl) (by kernel_rfl) (by kernel_rfl) (by kernel_rfl) rfl trivial (fun _ _ _ h => h) hM (fun w hC => r_move hl rfl) rfl ?_
    clear hl a; intro a hl
    refine d_take (i := 3) hl rfl (by kernel_rfl) (by kernel_rfl) (by kernel_rfl) (by kernel_rfl) (by kernel_rfl) rfl trivial (fun _ _ _ h => h) hM (fun w hC => r_nilCheck hl rfl) rfl ?_
    clear hl a; intro a hl
    refine d_take (i := 4) hl rfl (by kernel_rfl) (by kernel_rfl) (by kernel_rfl) (by kernel_rfl) (by kernel_rfl) rfl trivial (fun _ _ _ h => h) hM (fun w hC => r_field hl rfl fld66_6) rfl ?_
    clear hl a; intro a hl
    refine d_take (i := 5) hl rfl (by kernel_rfl) (by kernel_rfl) (by kernel_rfl) (by kernel_rfl) (by kernel_rfl) rfl trivial (fun _ _ _ h => h) hM (fun w hC => r_loadC hl rfl one29 hC (by repeat (first | exact find_head | apply find_tail)) (by first | rfl | rfl)) rfl ?_
    clear hl a; intro a hl
    refine d_takeL (i := 6) hl rfl (by kernel_rfl) (by kernel_rfl) (by kernel_rfl) (by kernel_rfl) (by kernel_rfl) rfl trivial (fun _ _ _ h => h) (fun w => r_subM wm_u32 hl rfl rfl) rfl ?_
    clear hl a; intro a hl
    refine d_takeL (i := 7) hl rfl (by kernel_rfl) (by kernel_rfl) (by kernel_rfl) (by kernel_rfl) (by kernel_rfl) rfl trivial (fun _ _ _ h => h) (fun w => r_assign hl rfl) rfl ?_
    clear hl a; intro a hl
    refine d_done (by kernel_rfl) ?_
    try clear hM
    have hl2 := hl.add (t := 0) (hl.add (t := 3) (hl.add (t := 4) (hl.add (t := 5) (hl.nil) rfl) rfl) rfl) rfl; clear hl; have hl := hl2; clear hl2
    refine then_normal ?_
    refine c_seq ?_
    refine c_seq ?_
    refine c_region ?_
    refine wl (wl_val hl rfl trivial (r_field hl rfl fld40_2) ?_)
    clear hl a; intro a hl
    refine wl (w_load hl hh rfl trivial one29 rfl (by repeat (first | exact find_head | apply find_tail)) (by first | rfl | rfl) ?_)
    clear hl a; intro a hl
    refine wl (wl_val hl rfl trivial (r_eql hl rfl rfl) ?_)
    clear hl a; intro a hl
    refine wl (wl_val hl rfl trivial (r_move hl rfl) ?_)
    clear hl a; intro a hl
    refine sl_split (t := 59) hl rfl ?_ ?_
    · intro hg2; clear hl; intro hl
      try simp only [decide_eq_true_eq, decide_eq_false_iff_not, Bool.not_eq_true', Bool.not_eq_false', Bool.not_eq_true, Bool.not_eq_false, Bool.and_eq_true, Bool.or_eq_true, Bool.and_eq_false_iff, Bool.or_eq_false_iff, Bool.not_not, ne_eq, Int.not_lt, Int.not_le, Decidable.not_not, beq_iff_eq, bne_iff_ne] at hg2
      refine wl (wl_skip hl rfl ⟨_, _, rfl, rfl, rfl⟩ ?_)
      clear hl a; intro a hl
      refine wl (wl_skip hl rfl ⟨_, _, rfl, rfl, rfl⟩ ?_)
      clear hl a; intro a hl
      refine wl (wl_skip hl rfl ⟨_, _, rfl, rfl, rfl⟩ ?_)
      clear hl a; intro a hl
      refine wl (wl_val hl rfl trivial (r_pickT hl rfl rfl) ?_)
      clear hl a; intro a hl
      refine wl (wl_val hl rfl trivial (r_move hl rfl) ?_)
      clear hl a; intro a hl
      refine wl (wl_skip hl rfl ⟨_, _, rfl, rfl, rfl⟩ ?_)
      clear hl a; intro a hl
      refine wl (wl_skip hl rfl ⟨_, _, rfl, rfl, rfl⟩ ?_)
      clear hl a; intro a hl
      refine wl (wl_skip hl rfl ⟨_, _, rfl, rfl, rfl⟩ ?_)
      clear hl a; intro a hl
      refine wl (wl_skip hl rfl ⟨_, _, rfl, rfl, rfl⟩ ?_)
      clear hl a; intro a hl
      refine wl (wl_skip hl rfl ⟨_, _, rfl, rfl, rfl⟩ ?_)
      clear hl a; intro a hl
      refine wl (wl_skip hl rfl ⟨_, _, rfl, rfl, rfl⟩ ?_)
      clear hl a; intro a hl
      refine wl (wl_val hl rfl trivial (r_pickT hl rfl rfl) ?_)
      clear hl a; intro a hl
      refine w_nil ?_
      have hl2 := hl.add (t := 0) (hl.add (t := 3) (hl.add (t := 5) (hl.add (t := 71) (hl.nil) rfl) rfl) rfl) rfl; clear hl; have hl := hl2; clear hl2
      refine then_normal ?_
      refine c_condT hl rfl ?_
      refine wp_ret ?_
      refine then_ret ?_
      refine f_ret0 (F' := [(cp, C (encC (sentP s k q n) none) 66)]) hl hh rfl (by repeat (first | exact keeps_nil | apply keeps_cons (by repeat (first | exact find_head | apply find_tail)) (by first  | (have h9 := sentP_1 (s := s) (k := k) (q := q) (n := n) (by assumption) (by assumption) (by assumption); exact blk_eq (congrArg (fun z => encC z none) h9.symm)) | (have h9 := sentP_2 (s := s) (k := k) (q := q) (n := n) (by assumption) (by assumption); exact blk_eq (congrArg (fun z => encC z none) h9.symm)) | (have h9 := sentP_3 (s := s) (k := k) (q := q) (n := n) (by assumption) (by assumption); exact blk_eq (congrArg (fun z => encC z none) h9.symm)) | (have h9 := sentP_4 (s := s) (k := k) (q := q) (n := n) (by assumption) (by assumption); exact blk_eq (congrArg (fun z => encC z none) h9.symm)) | (have h9 := sentP_5 (s := s) (k := k) (q := q) (n := n) (by assumption) (by assumption); exact blk_eq (congrArg (fun z => encC z none) h9.symm)) | (have h9 := sentP_6 (s := s) (k := k) (q := q) (n := n) (by assumption) (by assumption); exact blk_eq (congrArg (fun z => encC z none) h9.symm)) | (have h9 := sentP_7 (s := s) (k := k) (q := q) (n := n) (by assumption) (by assumption) (by assumption) (by assumption); exact blk_eq (congrArg (fun z => encC z none) h9.symm)) | (have h9 := (sentP_8 (s := s) (k := k) (q := q) (n := n) (by assumption) (by assumption) (by assumption) (by assumption)).trans (rexP_1 (s := s) (x := (q - s.una) % 4294967296) (e := (q + n) % 4294967296) (by assumption) (by assumption)); exact blk_eq (congrArg (fun z => encC z none) h9.symm)) | (have h9 := (sentP_8 (s := s) (k := k) (q := q) (n := n) (by assumption) (by assumption) (by assumption) (by assumption)).trans (rexP_2 (s := s) (x := (q - s.una) % 4294967296) (e := (q + n) % 4294967296) (by assumption) (by assumption)); exact blk_eq (congrArg (fun z => encC z none) h9.symm)) | (have h9 := (sentP_8 (s := s) (k := k) (q := q) (n := n) (by assumption) (by assumption) (by assumption) (by assumption)).trans (rexP_3 (s := s) (x := (q - s.una) % 4294967296) (e := (q + n) % 4294967296) (by assumption) (by assumption)); exact blk_eq (congrArg (fun z => encC z none) h9.symm)) | (have h9 := (sentP_8 (s := s) (k := k) (q := q) (n := n) (by assumption) (by assumption) (by assumption) (by assumption)).trans (rexP_4 (s := s) (x := (q - s.una) % 4294967296) (e := (q + n) % 4294967296) (by assumption) (by assumption)); exact blk_eq (congrArg (fun z => encC z none) h9.symm)) | (have h9 := sentP_9 (s := s) (k := k) (q := q) (n := n) (by assumption) (by assumption) (by assumption); exact blk_eq (congrArg (fun z => encC z none) h9.symm)) | (have h9 := sentP_1 (s := s) (k := k) (q := q) (n := n) (by assumption) (by assumption) (by assumption); exact blk_eq (congrArg (fun z => bdL bu z bv) (congrArg CS.nxt h9).symm)) | (have h9 := sentP_2 (s := s) (k := k) (q := q) (n := n) (by assumption) (by assumption); exact blk_eq (congrArg (fun z => bdL bu z bv) (congrArg CS.nxt h9).symm)) | (have h9 := sentP_3 (s := s) (k := k) (q := q) (n := n) (by assumption) (by assumption); exact blk_eq (congrArg (fun z => bdL bu z bv) (congrArg CS.nxt h9).symm)) | (have h9 := sentP_4 (s := s) (k := k) (q := q) (n := n) (by assumption) (by assumption); exact blk_eq (congrArg (fun z => bdL bu z bv) (congrArg CS.nxt h9).symm)) | (have h9 := sentP_5 (s := s) (k := k) (q := q) (n := n) (by assumption) (by assumption); exact blk_eq (congrArg (fun z => bdL bu z bv) (congrArg CS.nxt h9).symm)) | (have h9 := sentP_6 (s := s) (k := k) (q := q) (n := n) (by assumption) (by assumption); exact blk_eq (congrArg (fun z => bdL bu z bv) (congrArg CS.nxt h9).symm)) | (have h9 := sentP_7 (s := s) (k := k) (q := q) (n := n) (by assumption) (by assumption) (by assumption) (by assumption); exact blk_eq (congrArg (fun z => bdL bu z bv) (congrArg CS.nxt h9).symm)) | (have h9 := (sentP_8 (s := s) (k := k) (q := q) (n := n) (by assumption) (by assumption) (by assumption) (by assumption)).trans (rexP_1 (s := s) (x := (q - s.una) % 4294967296) (e := (q + n) % 4294967296) (by assumption) (by assumption)); exact blk_eq (congrArg (fun z => bdL bu z bv) (congrArg CS.nxt h9).symm)) | (have h9 := (sentP_8 (s := s) (k := k) (q := q) (n := n) (by assumption) (by assumption) (by assumption) (by assumption)).trans (rexP_2 (s := s) (x := (q - s.una) % 4294967296) (e := (q + n) % 4294967296) (by assumption) (by assumption)); exact blk_eq (congrArg (fun z => bdL bu z bv) (congrArg CS.nxt h9).symm)) | (have h9 := (sentP_8 (s := s) (k := k) (q := q) (n := n) (by assumption) (by assumption) (by assumption) (by assumption)).trans (rexP_3 (s := s) (x := (q - s.una) % 4294967296) (e := (q + n) % 4294967296) (by assumption) (by assumption)); exact blk_eq (congrArg (fun z => bdL bu z bv) (congrArg CS.nxt h9).symm)) | (have h9 := (sentP_8 (s := s) (k := k) (q := q) (n := n) (by assumption) (by assumption) (by assumption) (by assumption)).trans (rexP_4 (s := s) (x := (q - s.una) % 4294967296) (e := (q + n) % 4294967296) (by assumption) (by assumption)); exact blk_eq (congrArg (fun z => bdL bu z bv) (congrArg CS.nxt h9).symm)) | (have h9 := sentP_9 (s := s) (k := k) (q := q) (n := n) (by assumption) (by assumption) (by assumption); exact blk_eq (congrArg (fun z => bdL bu z bv) (congrArg CS.nxt h9).symm)) | exact absurd hc2 (by simp) | rfl) | exact keeps_self | apply keeps_mv)) ?_
      exact ⟨rfl, rfl⟩
    · intro hg2; clear hl; intro hl
      try simp only [decide_eq_true_eq, decide_eq_false_iff_not, Bool.not_eq_true', Bool.not_eq_false', Bool.not_eq_true, Bool.not_eq_false, Bool.and_eq_true, Bool.or_eq_true, Bool.and_eq_false_iff, Bool.or_eq_false_iff, Bool.not_not, ne_eq, Int.not_lt, Int.not_le, Decidable.not_not, beq_iff_eq, bne_iff_ne] at hg2
      refine wl (wl_val hl rfl ⟨_, _, rfl, rfl, rfl⟩ (r_move hl rfl) ?_)
      clear hl a; intro a hl
      refine wl (wl_val hl rfl ⟨_, _, rfl, rfl, rfl⟩ (r_move hl rfl) ?_)
      clear hl a; intro a hl
      refine wl (wl_val hl rfl ⟨_, _, rfl, rfl, rfl⟩ (r_geq hl rfl rfl) ?_)
      clear hl a; intro a hl
      refine wl (wl_val hl rfl trivial (r_pickF hl rfl rfl) ?_)
      clear hl a; intro a hl
      refine wl (wl_val hl rfl trivial (r_move hl rfl) ?_)
      clear hl a; intro a hl
      refine sl_split (t := 64) hl rfl ?_ ?_
      · intro hg3; clear hl; intro hl
        try simp only [decide_eq_true_eq, decide_eq_false_iff_not, Bool.not_eq_true', Bool.not_eq_false', Bool.not_eq_true, Bool.not_eq_false, Bool.and_eq_true, Bool.or_eq_true, Bool.and_eq_false_iff, Bool.or_eq_false_iff, Bool.not_not, ne_eq, Int.not_lt, Int.not_le, Decidable.not_not, beq_iff_eq, bne_iff_ne] at hg3
        refine wl (wl_skip hl rfl ⟨_, _, rfl, rfl, rfl⟩ ?_)
        clear hl a; intro a hl
        refine wl (wl_skip hl rfl ⟨_, _, rfl, rfl, rfl⟩ ?_)
        clear hl a; intro a hl
        refine wl (wl_skip hl rfl ⟨_, _, rfl, rfl, rfl⟩ ?_)
        clear hl a; intro a hl
        refine wl (wl_skip hl rfl ⟨_, _, rfl, rfl, rfl⟩ ?_)
        clear hl a; intro a hl
        refine wl (wl_skip hl rfl ⟨_, _, rfl, rfl, rfl⟩ ?_)
        clear hl a; intro a hl
        refine wl (wl_skip hl rfl ⟨_, _, rfl, rfl, rfl⟩ ?_)
        clear hl a; intro a hl
        refine wl (wl_val hl rfl trivial (r_pickT hl rfl rfl) ?_)
        clear hl a; intro a hl
        refine w_nil ?_
        have hl2 := hl.add (t := 0) (hl.add (t := 3) (hl.add (t := 5) (hl.add (t := 71) (hl.nil) rfl) rfl) rfl) rfl; clear hl; have hl := hl2; clear hl2
        refine then_normal ?_
        refine c_condT hl rfl ?_
        refine wp_ret ?_
        refine then_ret ?_
        refine f_ret0 (F' := [(cp, C (encC (sentP s k q n) none) 66)]) hl hh rfl (by repeat (first | exact keeps_nil | apply keeps_cons (by repeat (first | exact find_head | apply find_tail)) (by first  | (have h9 := sentP_1 (s := s) (k := k) (q := q) (n := n) (by assumption) (by assumption) (by assumption); exact blk_eq (congrArg (fun z => encC z none) h9.symm)) | (have h9 := sentP_2 (s := s) (k := k) (q := q) (n := n) (by assumption) (by assumption); exact blk_eq (congrArg (fun z => encC z none) h9.symm)) | (have h9 := sentP_3 (s := s) (k := k) (q := q) (n := n) (by assumption) (by assumption); exact blk_eq (congrArg (fun z => encC z none) h9.symm)) | (have h9 := sentP_4 (s := s) (k := k) (q := q) (n := n) (by assumption) (by assumption); exact blk_eq (congrArg (fun z => encC z none) h9.symm)) | (have h9 := sentP_5 (s := s) (k := k) (q := q) (n := n) (by assumption) (by assumption); exact blk_eq (congrArg (fun z => encC z none) h9.symm)) | (have h9 := sentP_6 (s := s) (k := k) (q := q) (n := n) (by assumption) (by assumption); exact blk_eq (congrArg (fun z => encC z none) h9.symm)) | (have h9 := sentP_7 (s := s) (k := k) (q := q) (n := n) (by assumption) (by assumption) (by assumption) (by assumption); exact blk_eq (congrArg (fun z => encC z none) h9.symm)) | (have h9 := (sentP_8 (s := s) (k := k) (q := q) (n := n) (by assumption) (by assumption) (by assumption) (by assumption)).trans (rexP_1 (s := s) (x := (q - s.una) % 4294967296) (e := (q + n) % 4294967296) (by assumption) (by assumption)); exact blk_eq (congrArg (fun z => encC z none) h9.symm)) | (have h9 := (sentP_8 (s := s) (k := k) (q := q) (n := n) (by assumption) (by assumption) (by assumption) (by assumption)).trans (rexP_2 (s := s) (x := (q - s.una) % 4294967296) (e := (q + n) % 4294967296) (by assumption) (by assumption)); exact blk_eq (congrArg (fun z => encC z none) h9.symm)) | (have h9 := (sentP_8 (s := s) (k := k) (q := q) (n := n) (by assumption) (by assumption) (by assumption) (by assumption)).trans (rexP_3 (s := s) (x := (q - s.una) % 4294967296) (e := (q + n) % 4294967296) (by assumption) (by assumption)); exact blk_eq (congrArg (fun z => encC z none) h9.symm)) | (have h9 := (sentP_8 (s := s) (k := k) (q := q) (n := n) (by assumption) (by assumption) (by assumption) (by assumption)).trans (rexP_4 (s := s) (x := (q - s.una) % 4294967296) (e := (q + n) % 4294967296) (by assumption) (by assumption)); exact blk_eq (congrArg (fun z => encC z none) h9.symm)) | (have h9 := sentP_9 (s := s) (k := k) (q := q) (n := n) (by assumption) (by assumption) (by assumption); exact blk_eq (congrArg (fun z => encC z none) h9.symm)) | (have h9 := sentP_1 (s := s) (k := k) (q := q) (n := n) (by assumption) (by assumption) (by assumption); exact blk_eq (congrArg (fun z => bdL bu z bv) (congrArg CS.nxt h9).symm)) | (have h9 := sentP_2 (s := s) (k := k) (q := q) (n := n) (by assumption) (by assumption); exact blk_eq (congrArg (fun z => bdL bu z bv) (congrArg CS.nxt h9).symm)) | (have h9 := sentP_3 (s := s) (k := k) (q := q) (n := n) (by assumption) (by assumption); exact blk_eq (congrArg (fun z => bdL bu z bv) (congrArg CS.nxt h9).symm)) | (have h9 := sentP_4 (s := s) (k := k) (q := q) (n := n) (by assumption) (by assumption); exact blk_eq (congrArg (fun z => bdL bu z bv) (congrArg CS.nxt h9).symm)) | (have h9 := sentP_5 (s := s) (k := k) (q := q) (n := n) (by assumption) (by assumption); exact blk_eq (congrArg (fun z => bdL bu z bv) (congrArg CS.nxt h9).symm)) | (have h9 := sentP_6 (s := s) (k := k) (q := q) (n := n) (by assumption) (by assumption); exact blk_eq (congrArg (fun z => bdL bu z bv) (congrArg CS.nxt h9).symm)) | (have h9 := sentP_7 (s := s) (k := k) (q := q) (n := n) (by assumption) (by assumption) (by assumption) (by assumption); exact blk_eq (congrArg (fun z => bdL bu z bv) (congrArg CS.nxt h9).symm)) | (have h9 := (sentP_8 (s := s) (k := k) (q := q) (n := n) (by assumption) (by assumption) (by assumption) (by assumption)).trans (rexP_1 (s := s) (x := (q - s.una) % 4294967296) (e := (q + n) % 4294967296) (by assumption) (by assumption)); exact blk_eq (congrArg (fun z => bdL bu z bv) (congrArg CS.nxt h9).symm)) | (have h9 := (sentP_8 (s := s) (k := k) (q := q) (n := n) (by assumption) (by assumption) (by assumption) (by assumption)).trans (rexP_2 (s := s) (x := (q - s.una) % 4294967296) (e := (q + n) % 4294967296) (by assumption) (by assumption)); exact blk_eq (congrArg (fun z => bdL bu z bv) (congrArg CS.nxt h9).symm)) | (have h9 := (sentP_8 (s := s) (k := k) (q := q) (n := n) (by assumption) (by assumption) (by assumption) (by assumption)).trans (rexP_3 (s := s) (x := (q - s.una) % 4294967296) (e := (q + n) % 4294967296) (by assumption) (by assumption)); exact blk_eq (congrArg (fun z => bdL bu z bv) (congrArg CS.nxt h9).symm)) | (have h9 := (sentP_8 (s := s) (k := k) (q := q) (n := n) (by assumption) (by assumption) (by assumption) (by assumption)).trans (rexP_4 (s := s) (x := (q - s.una) % 4294967296) (e := (q + n) % 4294967296) (by assumption) (by assumption)); exact blk_eq (congrArg (fun z => bdL bu z bv) (congrArg CS.nxt h9).symm)) | (have h9 := sentP_9 (s := s) (k := k) (q := q) (n := n) (by assumption) (by assumption) (by assumption); exact blk_eq (congrArg (fun z => bdL bu z bv) (congrArg CS.nxt h9).symm)) | exact absurd hc2 (by simp) | rfl) | exact keeps_self | apply keeps_mv)) ?_
        exact ⟨rfl, rfl⟩
      · intro hg3; clear hl; intro hl
        try simp only [decide_eq_true_eq, decide_eq_false_iff_not, Bool.not_eq_true', Bool.not_eq_false', Bool.not_eq_true, Bool.not_eq_false, Bool.and_eq_true, Bool.or_eq_true, Bool.and_eq_false_iff, Bool.or_eq_false_iff, Bool.not_not, ne_eq, Int.not_lt, Int.not_le, Decidable.not_not, beq_iff_eq, bne_iff_ne] at hg3
        refine wl (wl_val hl rfl ⟨_, _, rfl, rfl, rfl⟩ (r_field hl rfl fld40_2) ?_)
        clear hl a; intro a hl
        refine wl (w_load hl hh rfl ⟨_, _, rfl, rfl, rfl⟩ one29 rfl (by repeat (first | exact find_head | apply find_tail)) (by first | rfl | rfl) ?_)
        clear hl a; intro a hl
        refine wl (wl_val hl rfl ⟨_, _, rfl, rfl, rfl⟩ (r_move hl rfl) ?_)
        clear hl a; intro a hl
        refine wl (wl_val hl rfl ⟨_, _, rfl, rfl, rfl⟩ (r_move hl rfl) ?_)
        clear hl a; intro a hl
        first | refine wl (wl_val hl rfl ⟨_, _, rfl, rfl, rfl⟩ (r_sub hl rfl rfl (by simp only [Fits]; omega)) ?_) | refine wl (wl_val hl rfl ⟨_, _, rfl, rfl, rfl⟩ (r_subM wm_u32 hl rfl rfl) ?_)
        clear hl a; intro a hl
        refine wl (wl_val hl rfl ⟨_, _, rfl, rfl, rfl⟩ (r_gtr hl rfl rfl) ?_)
        clear hl a; intro a hl
        refine wl (wl_val hl rfl trivial (r_pickF hl rfl rfl) ?_)
        clear hl a; intro a hl
        refine w_nil ?_
        have hl2 := hl.add (t := 0) (hl.add (t := 3) (hl.add (t := 5) (hl.add (t := 71) (hl.nil) rfl) rfl) rfl) rfl; clear hl; have hl := hl2; clear hl2
        refine then_normal ?_
        refine c_cond hl rfl ?_ ?_
        · intro hc3
          try simp only [decide_eq_true_eq, decide_eq_false_iff_not, Bool.not_eq_true', Bool.not_eq_false', Bool.not_eq_true, Bool.not_eq_false, Bool.and_eq_true, Bool.or_eq_true, Bool.and_eq_false_iff, Bool.or_eq_false_iff, Bool.not_not, ne_eq, Int.not_lt, Int.not_le, Decidable.not_not, beq_iff_eq, bne_iff_ne] at hc3
          refine wp_ret ?_
          refine then_ret ?_
          refine f_ret0 (F' := [(cp, C (encC (sentP s k q n) none) 66)]) hl hh rfl (by repeat (first | exact keeps_nil | apply keeps_cons (by repeat (first | exact find_head | apply find_tail)) (by first  | (have h9 := sentP_1 (s := s) (k := k) (q := q) (n := n) (by assumption) (by assumption) (by assumption); exact blk_eq (congrArg (fun z => encC z none) h9.symm)) | (have h9 := sentP_2 (s := s) (k := k) (q := q) (n := n) (by assumption) (by assumption); exact blk_eq (congrArg (fun z => encC z none) h9.symm)) | (have h9 := sentP_3 (s := s) (k := k) (q := q) (n := n) (by assumption) (by assumption); exact blk_eq (congrArg (fun z => encC z none) h9.symm)) | (have h9 := sentP_4 (s := s) (k := k) (q := q) (n := n) (by assumption) (by assumption); exact blk_eq (congrArg (fun z => encC z none) h9.symm)) | (have h9 := sentP_5 (s := s) (k := k) (q := q) (n := n) (by assumption) (by assumption); exact blk_eq (congrArg (fun z => encC z none) h9.symm)) | (have h9 := sentP_6 (s := s) (k := k) (q := q) (n := n) (by assumption) (by assumption); exact blk_eq (congrArg (fun z => encC z none) h9.symm)) | (have h9 := sentP_7 (s := s) (k := k) (q := q) (n := n) (by assumption) (by assumption) (by assumption) (by assumption); exact blk_eq (congrArg (fun z => encC z none) h9.symm)) | (have h9 := (sentP_8 (s := s) (k := k) (q := q) (n := n) (by assumption) (by assumption) (by assumption) (by assumption)).trans (rexP_1 (s := s) (x := (q - s.una) % 4294967296) (e := (q + n) % 4294967296) (by assumption) (by assumption)); exact blk_eq (congrArg (fun z => encC z none) h9.symm)) | (have h9 := (sentP_8 (s := s) (k := k) (q := q) (n := n) (by assumption) (by assumption) (by assumption) (by assumption)).trans (rexP_2 (s := s) (x := (q - s.una) % 4294967296) (e := (q + n) % 4294967296) (by assumption) (by assumption)); exact blk_eq (congrArg (fun z => encC z none) h9.symm)) | (have h9 := (sentP_8 (s := s) (k := k) (q := q) (n := n) (by assumption) (by assumption) (by assumption) (by assumption)).trans (rexP_3 (s := s) (x := (q - s.una) % 4294967296) (e := (q + n) % 4294967296) (by assumption) (by assumption)); exact blk_eq (congrArg (fun z => encC z none) h9.symm)) | (have h9 := (sentP_8 (s := s) (k := k) (q := q) (n := n) (by assumption) (by assumption) (by assumption) (by assumption)).trans (rexP_4 (s := s) (x := (q - s.una) % 4294967296) (e := (q + n) % 4294967296) (by assumption) (by assumption)); exact blk_eq (congrArg (fun z => encC z none) h9.symm)) | (have h9 := sentP_9 (s := s) (k := k) (q := q) (n := n) (by assumption) (by assumption) (by assumption); exact blk_eq (congrArg (fun z => encC z none) h9.symm)) | (have h9 := sentP_1 (s := s) (k := k) (q := q) (n := n) (by assumption) (by assumption) (by assumption); exact blk_eq (congrArg (fun z => bdL bu z bv) (congrArg CS.nxt h9).symm)) | (have h9 := sentP_2 (s := s) (k := k) (q := q) (n := n) (by assumption) (by assumption); exact blk_eq (congrArg (fun z => bdL bu z bv) (congrArg CS.nxt h9).symm)) | (have h9 := sentP_3 (s := s) (k := k) (q := q) (n := n) (by assumption) (by assumption); exact blk_eq (congrArg (fun z => bdL bu z bv) (congrArg CS.nxt h9).symm)) | (have h9 := sentP_4 (s := s) (k := k) (q := q) (n := n) (by assumption) (by assumption); exact blk_eq (congrArg (fun z => bdL bu z bv) (congrArg CS.nxt h9).symm)) | (have h9 := sentP_5 (s := s) (k := k) (q := q) (n := n) (by assumption) (by assumption); exact blk_eq (congrArg (fun z => bdL bu z bv) (congrArg CS.nxt h9).symm)) | (have h9 := sentP_6 (s := s) (k := k) (q := q) (n := n) (by assumption) (by assumption); exact blk_eq (congrArg (fun z => bdL bu z bv) (congrArg CS.nxt h9).symm)) | (have h9 := sentP_7 (s := s) (k := k) (q := q) (n := n) (by assumption) (by assumption) (by assumption) (by assumption); exact blk_eq (congrArg (fun z => bdL bu z bv) (congrArg CS.nxt h9).symm)) | (have h9 := (sentP_8 (s := s) (k := k) (q := q) (n := n) (by assumption) (by assumption) (by assumption) (by assumption)).trans (rexP_1 (s := s) (x := (q - s.una) % 4294967296) (e := (q + n) % 4294967296) (by assumption) (by assumption)); exact blk_eq (congrArg (fun z => bdL bu z bv) (congrArg CS.nxt h9).symm)) | (have h9 := (sentP_8 (s := s) (k := k) (q := q) (n := n) (by assumption) (by assumption) (by assumption) (by assumption)).trans (rexP_2 (s := s) (x := (q - s.una) % 4294967296) (e := (q + n) % 4294967296) (by assumption) (by assumption)); exact blk_eq (congrArg (fun z => bdL bu z bv) (congrArg CS.nxt h9).symm)) | (have h9 := (sentP_8 (s := s) (k := k) (q := q) (n := n) (by assumption) (by assumption) (by assumption) (by assumption)).trans (rexP_3 (s := s) (x := (q - s.una) % 4294967296) (e := (q + n) % 4294967296) (by assumption) (by assumption)); exact blk_eq (congrArg (fun z => bdL bu z bv) (congrArg CS.nxt h9).symm)) | (have h9 := (sentP_8 (s := s) (k := k) (q := q) (n := n) (by assumption) (by assumption) (by assumption) (by assumption)).trans (rexP_4 (s := s) (x := (q - s.una) % 4294967296) (e := (q + n) % 4294967296) (by assumption) (by assumption)); exact blk_eq (congrArg (fun z => bdL bu z bv) (congrArg CS.nxt h9).symm)) | (have h9 := sentP_9 (s := s) (k := k) (q := q) (n := n) (by assumption) (by assumption) (by assumption); exact blk_eq (congrArg (fun z => bdL bu z bv) (congrArg CS.nxt h9).symm)) | exact absurd hc2 (by simp) | rfl) | exact keeps_self | apply keeps_mv)) ?_
          exact ⟨rfl, rfl⟩
        · intro hc3
          try simp only [decide_eq_true_eq, decide_eq_false_iff_not, Bool.not_eq_true', Bool.not_eq_false', Bool.not_eq_true, Bool.not_eq_false, Bool.and_eq_true, Bool.or_eq_true, Bool.and_eq_false_iff, Bool.or_eq_false_iff, Bool.not_not, ne_eq, Int.not_lt, Int.not_le, Decidable.not_not, beq_iff_eq, bne_iff_ne] at hc3
          refine wp_skip ?_
          refine then_normal ?_
          refine c_seq ?_
          refine c_region ?_
          refine wl (wl_val hl rfl trivial (r_field hl rfl fld40_0) ?_)
          clear hl a; intro a hl
          refine wl (w_load hl hh rfl trivial one38 rfl (by repeat (first | exact find_head | apply find_tail)) (by first | rfl | rfl) ?_)
          clear hl a; intro a hl
          refine w_nil ?_
          have hl2 := hl.add (t := 0) (hl.add (t := 3) (hl.add (t := 5) (hl.add (t := 73) (hl.nil) rfl) rfl) rfl) rfl; clear hl; have hl := hl2; clear hl2
          refine then_normal ?_
          refine wp_block ?_
          refine c_seq ?_
          refine c_region ?_
          refine wl (wl_val hl rfl trivial (r_eql hl rfl rfl) ?_)
          clear hl a; intro a hl
          refine wl (wl_val hl rfl trivial (r_assign hl rfl) ?_)
          clear hl a; intro a hl
          refine w_nil ?_
          have hl2 := hl.add (t := 0) (hl.add (t := 3) (hl.add (t := 5) (hl.add (t := 73) (hl.add (t := 74) (hl.nil) rfl) rfl) rfl) rfl) rfl; clear hl; have hl := hl2; clear hl2
          refine then_normal ?_
          refine c_cond hl rfl ?_ ?_
          · intro hc4
            try simp only [decide_eq_true_eq, decide_eq_false_iff_not, Bool.not_eq_true', Bool.not_eq_false', Bool.not_eq_true, Bool.not_eq_false, Bool.and_eq_true, Bool.or_eq_true, Bool.and_eq_false_iff, Bool.or_eq_false_iff, Bool.not_not, ne_eq, Int.not_lt, Int.not_le, Decidable.not_not, beq_iff_eq, bne_iff_ne] at hc4
            refine c_region ?_
            refine wl (wl_val hl rfl trivial (r_move hl rfl) ?_)
            clear hl a; intro a hl
            refine wl (wl_val hl rfl trivial (r_nilCheck hl rfl) ?_)
            clear hl a; intro a hl
            refine wl (wl_val hl rfl trivial (r_field hl rfl fld66_14) ?_)
            clear hl a; intro a hl
            refine wl (w_store hl hh trivial one4 rfl rfl (by repeat (first | exact find_head | apply find_tail)) (by first | (simp; done) | (simp; omega)) (by first | rfl | assumption | (apply Row.one; assumption)) (by first | (simp only [encC, setL, List.getElem?_cons_zero, List.getElem?_cons_succ, Value.cells, List.take_zero, List.take_succ_cons, List.take_nil, List.drop_zero, List.drop_succ_cons, List.drop_nil, List.length_cons, List.length_nil, List.cons_append, List.nil_append, List.append_nil, Nat.zero_add, Nat.add_zero, Nat.reduceAdd, Nat.reduceBEq, Nat.reduceEqDiff, Nat.ble, BEq.rfl, Bool.and_true, Bool.and_self, cond_true, beq_self_eq_true]; rfl) | (simp only [setL, List.getElem?_cons_zero, List.getElem?_cons_succ, Value.cells, List.take_zero, List.take_succ_cons, List.take_nil, List.drop_zero, List.drop_succ_cons, List.drop_nil, List.length_cons, List.length_nil, List.cons_append, List.nil_append, List.append_nil, Nat.zero_add, Nat.add_zero, Nat.reduceAdd, Nat.reduceBEq, Nat.reduceEqDiff, Nat.ble, BEq.rfl, Bool.and_true, Bool.and_self, cond_true, beq_self_eq_true]; rfl)) ?_)
            clear hh w; intro w hh
            refine w_nil ?_
            have hl2 := hl.nil; clear hl; have hl := hl2; clear hl2
            refine blk_normal ?_
            refine f_end0 (F' := [(cp, C (encC (sentP s k q n) none) 66)]) hl hh rfl (by repeat (first | exact keeps_nil | apply keeps_cons (by repeat (first | exact find_head | apply find_tail)) (by first  | (have h9 := sentP_1 (s := s) (k := k) (q := q) (n := n) (by assumption) (by assumption) (by assumption); exact blk_eq (congrArg (fun z => encC z none) h9.symm)) | (have h9 := sentP_2 (s := s) (k := k) (q := q) (n := n) (by assumption) (by assumption); exact blk_eq (congrArg (fun z => encC z none) h9.symm)) | (have h9 := sentP_3 (s := s) (k := k) (q := q) (n := n) (by assumption) (by assumption); exact blk_eq (congrArg (fun z => encC z none) h9.symm)) | (have h9 := sentP_4 (s := s) (k := k) (q := q) (n := n) (by assumption) (by assumption); exact blk_eq (congrArg (fun z => encC z none) h9.symm)) | (have h9 := sentP_5 (s := s) (k := k) (q := q) (n := n) (by assumption) (by assumption); exact blk_eq (congrArg (fun z => encC z none) h9.symm)) | (have h9 := sentP_6 (s := s) (k := k) (q := q) (n := n) (by assumption) (by assumption); exact blk_eq (congrArg (fun z => encC z none) h9.symm)) | (have h9 := sentP_7 (s := s) (k := k) (q := q) (n := n) (by assumption) (by assumption) (by assumption) (by assumption); exact blk_eq (congrArg (fun z => encC z none) h9.symm)) | (have h9 := (sentP_8 (s := s) (k := k) (q := q) (n := n) (by assumption) (by assumption) (by assumption) (by assumption)).trans (rexP_1 (s := s) (x := (q - s.una) % 4294967296) (e := (q + n) % 4294967296) (by assumption) (by assumption)); exact blk_eq (congrArg (fun z => encC z none) h9.symm)) | (have h9 := (sentP_8 (s := s) (k := k) (q := q) (n := n) (by assumption) (by assumption) (by assumption) (by assumption)).trans (rexP_2 (s := s) (x := (q - s.una) % 4294967296) (e := (q + n) % 4294967296) (by assumption) (by assumption)); exact blk_eq (congrArg (fun z => encC z none) h9.symm)) | (have h9 := (sentP_8 (s := s) (k := k) (q := q) (n := n) (by assumption) (by assumption) (by assumption) (by assumption)).trans (rexP_3 (s := s) (x := (q - s.una) % 4294967296) (e := (q + n) % 4294967296) (by assumption) (by assumption)); exact blk_eq (congrArg (fun z => encC z none) h9.symm)) | (have h9 := (sentP_8 (s := s) (k := k) (q := q) (n := n) (by assumption) (by assumption) (by assumption) (by assumption)).trans (rexP_4 (s := s) (x := (q - s.una) % 4294967296) (e := (q + n) % 4294967296) (by assumption) (by assumption)); exact blk_eq (congrArg (fun z => encC z none) h9.symm)) | (have h9 := sentP_9 (s := s) (k := k) (q := q) (n := n) (by assumption) (by assumption) (by assumption); exact blk_eq (congrArg (fun z => encC z none) h9.symm)) | (have h9 := sentP_1 (s := s) (k := k) (q := q) (n := n) (by assumption) (by assumption) (by assumption); exact blk_eq (congrArg (fun z => bdL bu z bv) (congrArg CS.nxt h9).symm)) | (have h9 := sentP_2 (s := s) (k := k) (q := q) (n := n) (by assumption) (by assumption); exact blk_eq (congrArg (fun z => bdL bu z bv) (congrArg CS.nxt h9).symm)) | (have h9 := sentP_3 (s := s) (k := k) (q := q) (n := n) (by assumption) (by assumption); exact blk_eq (congrArg (fun z => bdL bu z bv) (congrArg CS.nxt h9).symm)) | (have h9 := sentP_4 (s := s) (k := k) (q := q) (n := n) (by assumption) (by assumption); exact blk_eq (congrArg (fun z => bdL bu z bv) (congrArg CS.nxt h9).symm)) | (have h9 := sentP_5 (s := s) (k := k) (q := q) (n := n) (by assumption) (by assumption); exact blk_eq (congrArg (fun z => bdL bu z bv) (congrArg CS.nxt h9).symm)) | (have h9 := sentP_6 (s := s) (k := k) (q := q) (n := n) (by assumption) (by assumption); exact blk_eq (congrArg (fun z => bdL bu z bv) (congrArg CS.nxt h9).symm)) | (have h9 := sentP_7 (s := s) (k := k) (q := q) (n := n) (by assumption) (by assumption) (by assumption) (by assumption); exact blk_eq (congrArg (fun z => bdL bu z bv) (congrArg CS.nxt h9).symm)) | (have h9 := (sentP_8 (s := s) (k := k) (q := q) (n := n) (by assumption) (by assumption) (by assumption) (by assumption)).trans (rexP_1 (s := s) (x := (q - s.una) % 4294967296) (e := (q + n) % 4294967296) (by assumption) (by assumption)); exact blk_eq (congrArg (fun z => bdL bu z bv) (congrArg CS.nxt h9).symm)) | (have h9 := (sentP_8 (s := s) (k := k) (q := q) (n := n) (by assumption) (by assumption) (by assumption) (by assumption)).trans (rexP_2 (s := s) (x := (q - s.una) % 4294967296) (e := (q + n) % 4294967296) (by assumption) (by assumption)); exact blk_eq (congrArg (fun z => bdL bu z bv) (congrArg CS.nxt h9).symm)) | (have h9 := (sentP_8 (s := s) (k := k) (q := q) (n := n) (by assumption) (by assumption) (by assumption) (by assumption)).trans (rexP_3 (s := s) (x := (q - s.una) % 4294967296) (e := (q + n) % 4294967296) (by assumption) (by assumption)); exact blk_eq (congrArg (fun z => bdL bu z bv) (congrArg CS.nxt h9).symm)) | (have h9 := (sentP_8 (s := s) (k := k) (q := q) (n := n) (by assumption) (by assumption) (by assumption) (by assumption)).trans (rexP_4 (s := s) (x := (q - s.una) % 4294967296) (e := (q + n) % 4294967296) (by assumption) (by assumption)); exact blk_eq (congrArg (fun z => bdL bu z bv) (congrArg CS.nxt h9).symm)) | (have h9 := sentP_9 (s := s) (k := k) (q := q) (n := n) (by assumption) (by assumption) (by assumption); exact blk_eq (congrArg (fun z => bdL bu z bv) (congrArg CS.nxt h9).symm)) | exact absurd hc2 (by simp) | rfl) | exact keeps_self | apply keeps_mv)) ?_
            exact ⟨rfl, rfl⟩
          · intro hc4
            try simp only [decide_eq_true_eq, decide_eq_false_iff_not, Bool.not_eq_true', Bool.not_eq_false', Bool.not_eq_true, Bool.not_eq_false, Bool.and_eq_true, Bool.or_eq_true, Bool.and_eq_false_iff, Bool.or_eq_false_iff, Bool.not_not, ne_eq, Int.not_lt, Int.not_le, Decidable.not_not, beq_iff_eq, bne_iff_ne] at hc4
            refine c_seq ?_
            refine c_region ?_
            refine wl (wl_val hl rfl trivial (r_eql hl rfl rfl) ?_)
            clear hl a; intro a hl
            refine wl (wl_val hl rfl trivial (r_assign hl rfl) ?_)
            clear hl a; intro a hl
            refine w_nil ?_
            have hl2 := hl.add (t := 0) (hl.add (t := 3) (hl.add (t := 5) (hl.add (t := 79) (hl.nil) rfl) rfl) rfl) rfl; clear hl; have hl := hl2; clear hl2
            refine then_normal ?_
            refine c_cond hl rfl ?_ ?_
            · intro hc5
              try simp only [decide_eq_true_eq, decide_eq_false_iff_not, Bool.not_eq_true', Bool.not_eq_false', Bool.not_eq_true, Bool.not_eq_false, Bool.and_eq_true, Bool.or_eq_true, Bool.and_eq_false_iff, Bool.or_eq_false_iff, Bool.not_not, ne_eq, Int.not_lt, Int.not_le, Decidable.not_not, beq_iff_eq, bne_iff_ne] at hc5
              refine c_seq ?_
              refine c_seq ?_
              refine c_region ?_
              refine wl (wl_val hl rfl trivial (r_move hl rfl) ?_)
              clear hl a; intro a hl
              refine wl (wl_val hl rfl trivial (r_eql hl rfl rfl) ?_)
              clear hl a; intro a hl
              refine w_nil ?_
              have hl2 := hl.add (t := 0) (hl.add (t := 3) (hl.add (t := 82) (hl.nil) rfl) rfl) rfl; clear hl; have hl := hl2; clear hl2
              refine then_normal ?_
              refine c_cond hl rfl ?_ ?_
              · intro hc6
                try simp only [decide_eq_true_eq, decide_eq_false_iff_not, Bool.not_eq_true', Bool.not_eq_false', Bool.not_eq_true, Bool.not_eq_false, Bool.and_eq_true, Bool.or_eq_true, Bool.and_eq_false_iff, Bool.or_eq_false_iff, Bool.not_not, ne_eq, Int.not_lt, Int.not_le, Decidable.not_not, beq_iff_eq, bne_iff_ne] at hc6
                refine c_region ?_
                refine wl (wl_val hl rfl trivial (r_move hl rfl) ?_)
                clear hl a; intro a hl
                refine wl (wl_val hl rfl trivial (r_nilCheck hl rfl) ?_)
                clear hl a; intro a hl
                refine wl (wl_val hl rfl trivial (r_field hl rfl fld66_12) ?_)
                clear hl a; intro a hl
                refine wl (w_store hl hh trivial one4 rfl rfl (by repeat (first | exact find_head | apply find_tail)) (by first | (simp; done) | (simp; omega)) (by first | rfl | assumption | (apply Row.one; assumption)) (by first | (simp only [encC, setL, List.getElem?_cons_zero, List.getElem?_cons_succ, Value.cells, List.take_zero, List.take_succ_cons, List.take_nil, List.drop_zero, List.drop_succ_cons, List.drop_nil, List.length_cons, List.length_nil, List.cons_append, List.nil_append, List.append_nil, Nat.zero_add, Nat.add_zero, Nat.reduceAdd, Nat.reduceBEq, Nat.reduceEqDiff, Nat.ble, BEq.rfl, Bool.and_true, Bool.and_self, cond_true, beq_self_eq_true]; rfl) | (simp only [setL, List.getElem?_cons_zero, List.getElem?_cons_succ, Value.cells, List.take_zero, List.take_succ_cons, List.take_nil, List.drop_zero, List.drop_succ_cons, List.drop_nil, List.length_cons, List.length_nil, List.cons_append, List.nil_append, List.append_nil, Nat.zero_add, Nat.add_zero, Nat.reduceAdd, Nat.reduceBEq, Nat.reduceEqDiff, Nat.ble, BEq.rfl, Bool.and_true, Bool.and_self, cond_true, beq_self_eq_true]; rfl)) ?_)
                clear hh w; intro w hh
                refine w_nil ?_
                have hl2 := hl.add (t := 0) (hl.add (t := 3) (hl.nil) rfl) rfl; clear hl; have hl := hl2; clear hl2
                refine then_normal ?_
                refine c_seq ?_
                refine c_region ?_
                refine wl (wl_val hl rfl trivial (r_field hl rfl fld40_1) ?_)
                clear hl a; intro a hl
                refine wl (w_load hl hh rfl trivial one29 rfl (by repeat (first | exact find_head | apply find_tail)) (by first | rfl | rfl) ?_)
                clear hl a; intro a hl
                refine wl (wl_val hl rfl trivial (r_field hl rfl fld40_2) ?_)
                clear hl a; intro a hl
                refine wl (w_load hl hh rfl trivial one29 rfl (by repeat (first | exact find_head | apply find_tail)) (by first | rfl | rfl) ?_)
                clear hl a; intro a hl
                refine wl (wl_val hl rfl trivial (r_addM wm_u32 hl rfl rfl) ?_)
                clear hl a; intro a hl
                refine wl (wl_val hl rfl trivial (r_assign hl rfl) ?_)
                clear hl a; intro a hl
                refine w_nil ?_
                have hl2 := hl.add (t := 0) (hl.add (t := 6) (hl.nil) rfl) rfl; clear hl; have hl := hl2; clear hl2
                refine then_normal ?_
                refine c_seq ?_
                refine c_region ?_
                refine wl (wl_val hl rfl trivial (r_move hl rfl) ?_)
                clear hl a; intro a hl
                refine wl (wl_val hl rfl trivial (r_nilCheck hl rfl) ?_)
                clear hl a; intro a hl
                refine wl (wl_val hl rfl trivial (r_field hl rfl fld66_10) ?_)
                clear hl a; intro a hl
                refine wl (w_load hl hh rfl trivial one29 rfl (by repeat (first | exact find_head | apply find_tail)) (by first | rfl | rfl) ?_)
                clear hl a; intro a hl
                refine wl (wl_val hl rfl trivial (r_move hl rfl) ?_)
                clear hl a; intro a hl
                refine wl (w_call hl hh rfl trivial rfl cal39 rfl (less_spec _ _) (by repeat (first | exact keeps_nil | apply keeps_cons (by repeat (first | exact find_head | apply find_tail)) (by first  | rfl) | exact keeps_self | apply keeps_mv)) trivial ?_)
                clear hl hh a w; intro vc Fc a w hR hl hh
                obtain ⟨rfl, rfl⟩ := hR
                try simp only [List.cons_append, List.nil_append] at hh
                refine w_nil ?_
                have hl2 := hl.add (t := 0) (hl.add (t := 6) (hl.add (t := 96) (hl.nil) rfl) rfl) rfl; clear hl; have hl := hl2; clear hl2
                refine then_normal ?_
                refine c_cond hl rfl ?_ ?_
                · intro hc7
                  try simp only [decide_eq_true_eq, decide_eq_false_iff_not, Bool.not_eq_true', Bool.not_eq_false', Bool.not_eq_true, Bool.not_eq_false, Bool.and_eq_true, Bool.or_eq_true, Bool.and_eq_false_iff, Bool.or_eq_false_iff, Bool.not_not, ne_eq, Int.not_lt, Int.not_le, Decidable.not_not, beq_iff_eq, bne_iff_ne] at hc7
                  refine c_region ?_
                  refine wl (wl_val hl rfl trivial (r_move hl rfl) ?_)
                  clear hl a; intro a hl
                  refine wl (wl_val hl rfl trivial (r_move hl rfl) ?_)
                  clear hl a; intro a hl
                  refine wl (wl_val hl rfl trivial (r_nilCheck hl rfl) ?_)
                  clear hl a; intro a hl
                  refine wl (wl_val hl rfl trivial (r_field hl rfl fld66_10) ?_)
                  clear hl a; intro a hl
                  refine wl (w_store hl hh trivial one29 rfl rfl (by repeat (first | exact find_head | apply find_tail)) (by first | (simp; done) | (simp; omega)) (by first | rfl | assumption | (apply Row.one; assumption)) (by first | (simp only [encC, setL, List.getElem?_cons_zero, List.getElem?_cons_succ, Value.cells, List.take_zero, List.take_succ_cons, List.take_nil, List.drop_zero, List.drop_succ_cons, List.drop_nil, List.length_cons, List.length_nil, List.cons_append, List.nil_append, List.append_nil, Nat.zero_add, Nat.add_zero, Nat.reduceAdd, Nat.reduceBEq, Nat.reduceEqDiff, Nat.ble, BEq.rfl, Bool.and_true, Bool.and_self, cond_true, beq_self_eq_true]; rfl) | (simp only [setL, List.getElem?_cons_zero, List.getElem?_cons_succ, Value.cells, List.take_zero, List.take_succ_cons, List.take_nil, List.drop_zero, List.drop_succ_cons, List.drop_nil, List.length_cons, List.length_nil, List.cons_append, List.nil_append, List.append_nil, Nat.zero_add, Nat.add_zero, Nat.reduceAdd, Nat.reduceBEq, Nat.reduceEqDiff, Nat.ble, BEq.rfl, Bool.and_true, Bool.and_self, cond_true, beq_self_eq_true]; rfl)) ?_)
                  clear hh w; intro w hh
                  refine w_nil ?_
                  have hl2 := hl.nil; clear hl; have hl := hl2; clear hl2
                  refine blk_normal ?_
                  refine f_end0 (F' := [(cp, C (encC (sentP s k q n) none) 66)]) hl hh rfl (by repeat (first | exact keeps_nil | apply keeps_cons (by repeat (first | exact find_head | apply find_tail)) (by first  | (have h9 := sentP_1 (s := s) (k := k) (q := q) (n := n) (by assumption) (by assumption) (by assumption); exact blk_eq (congrArg (fun z => encC z none) h9.symm)) | (have h9 := sentP_2 (s := s) (k := k) (q := q) (n := n) (by assumption) (by assumption); exact blk_eq (congrArg (fun z => encC z none) h9.symm)) | (have h9 := sentP_3 (s := s) (k := k) (q := q) (n := n) (by assumption) (by assumption); exact blk_eq (congrArg (fun z => encC z none) h9.symm)) | (have h9 := sentP_4 (s := s) (k := k) (q := q) (n := n) (by assumption) (by assumption); exact blk_eq (congrArg (fun z => encC z none) h9.symm)) | (have h9 := sentP_5 (s := s) (k := k) (q := q) (n := n) (by assumption) (by assumption); exact blk_eq (congrArg (fun z => encC z none) h9.symm)) | (have h9 := sentP_6 (s := s) (k := k) (q := q) (n := n) (by assumption) (by assumption); exact blk_eq (congrArg (fun z => encC z none) h9.symm)) | (have h9 := sentP_7 (s := s) (k := k) (q := q) (n := n) (by assumption) (by assumption) (by assumption) (by assumption); exact blk_eq (congrArg (fun z => encC z none) h9.symm)) | (have h9 := (sentP_8 (s := s) (k := k) (q := q) (n := n) (by assumption) (by assumption) (by assumption) (by assumption)).trans (rexP_1 (s := s) (x := (q - s.una) % 4294967296) (e := (q + n) % 4294967296) (by assumption) (by assumption)); exact blk_eq (congrArg (fun z => encC z none) h9.symm)) | (have h9 := (sentP_8 (s := s) (k := k) (q := q) (n := n) (by assumption) (by assumption) (by assumption) (by assumption)).trans (rexP_2 (s := s) (x := (q - s.una) % 4294967296) (e := (q + n) % 4294967296) (by assumption) (by assumption)); exact blk_eq (congrArg (fun z => encC z none) h9.symm)) | (have h9 := (sentP_8 (s := s) (k := k) (q := q) (n := n) (by assumption) (by assumption) (by assumption) (by assumption)).trans (rexP_3 (s := s) (x := (q - s.una) % 4294967296) (e := (q + n) % 4294967296) (by assumption) (by assumption)); exact blk_eq (congrArg (fun z => encC z none) h9.symm)) | (have h9 := (sentP_8 (s := s) (k := k) (q := q) (n := n) (by assumption) (by assumption) (by assumption) (by assumption)).trans (rexP_4 (s := s) (x := (q - s.una) % 4294967296) (e := (q + n) % 4294967296) (by assumption) (by assumption)); exact blk_eq (congrArg (fun z => encC z none) h9.symm)) | (have h9 := sentP_9 (s := s) (k := k) (q := q) (n := n) (by assumption) (by assumption) (by assumption); exact blk_eq (congrArg (fun z => encC z none) h9.symm)) | (have h9 := sentP_1 (s := s) (k := k) (q := q) (n := n) (by assumption) (by assumption) (by assumption); exact blk_eq (congrArg (fun z => bdL bu z bv) (congrArg CS.nxt h9).symm)) | (have h9 := sentP_2 (s := s) (k := k) (q := q) (n := n) (by assumption) (by assumption); exact blk_eq (congrArg (fun z => bdL bu z bv) (congrArg CS.nxt h9).symm)) | (have h9 := sentP_3 (s := s) (k := k) (q := q) (n := n) (by assumption) (by assumption); exact blk_eq (congrArg (fun z => bdL bu z bv) (congrArg CS.nxt h9).symm)) | (have h9 := sentP_4 (s := s) (k := k) (q := q) (n := n) (by assumption) (by assumption); exact blk_eq (congrArg (fun z => bdL bu z bv) (congrArg CS.nxt h9).symm)) | (have h9 := sentP_5 (s := s) (k := k) (q := q) (n := n) (by assumption) (by assumption); exact blk_eq (congrArg (fun z => bdL bu z bv) (congrArg CS.nxt h9).symm)) | (have h9 := sentP_6 (s := s) (k := k) (q := q) (n := n) (by assumption) (by assumption); exact blk_eq (congrArg (fun z => bdL bu z bv) (congrArg CS.nxt h9).symm)) | (have h9 := sentP_7 (s := s) (k := k) (q := q) (n := n) (by assumption) (by assumption) (by assumption) (by assumption); exact blk_eq (congrArg (fun z => bdL bu z bv) (congrArg CS.nxt h9).symm)) | (have h9 := (sentP_8 (s := s) (k := k) (q := q) (n := n) (by assumption) (by assumption) (by assumption) (by assumption)).trans (rexP_1 (s := s) (x := (q - s.una) % 4294967296) (e := (q + n) % 4294967296) (by assumption) (by assumption)); exact blk_eq (congrArg (fun z => bdL bu z bv) (congrArg CS.nxt h9).symm)) | (have h9 := (sentP_8 (s := s) (k := k) (q := q) (n := n) (by assumption) (by assumption) (by assumption) (by assumption)).trans (rexP_2 (s := s) (x := (q - s.una) % 4294967296) (e := (q + n) % 4294967296) (by assumption) (by assumption)); exact blk_eq (congrArg (fun z => bdL bu z bv) (congrArg CS.nxt h9).symm)) | (have h9 := (sentP_8 (s := s) (k := k) (q := q) (n := n) (by assumption) (by assumption) (by assumption) (by assumption)).trans (rexP_3 (s := s) (x := (q - s.una) % 4294967296) (e := (q + n) % 4294967296) (by assumption) (by assumption)); exact blk_eq (congrArg (fun z => bdL bu z bv) (congrArg CS.nxt h9).symm)) | (have h9 := (sentP_8 (s := s) (k := k) (q := q) (n := n) (by assumption) (by assumption) (by assumption) (by assumption)).trans (rexP_4 (s := s) (x := (q - s.una) % 4294967296) (e := (q + n) % 4294967296) (by assumption) (by assumption)); exact blk_eq (congrArg (fun z => bdL bu z bv) (congrArg CS.nxt h9).symm)) | (have h9 := sentP_9 (s := s) (k := k) (q := q) (n := n) (by assumption) (by assumption) (by assumption); exact blk_eq (congrArg (fun z => bdL bu z bv) (congrArg CS.nxt h9).symm)) | exact absurd hc2 (by simp) | rfl) | exact keeps_self | apply keeps_mv)) ?_
                  exact ⟨rfl, rfl⟩
                · intro hc7
                  try simp only [decide_eq_true_eq, decide_eq_false_iff_not, Bool.not_eq_true', Bool.not_eq_false', Bool.not_eq_true, Bool.not_eq_false, Bool.and_eq_true, Bool.or_eq_true, Bool.and_eq_false_iff, Bool.or_eq_false_iff, Bool.not_not, ne_eq, Int.not_lt, Int.not_le, Decidable.not_not, beq_iff_eq, bne_iff_ne] at hc7
                  refine wp_skip ?_
                  refine blk_normal ?_
                  refine f_end0 (F' := [(cp, C (encC (sentP s k q n) none) 66)]) hl hh rfl (by repeat (first | exact keeps_nil | apply keeps_cons (by repeat (first | exact find_head | apply find_tail)) (by first  | (have h9 := sentP_1 (s := s) (k := k) (q := q) (n := n) (by assumption) (by assumption) (by assumption); exact blk_eq (congrArg (fun z => encC z none) h9.symm)) | (have h9 := sentP_2 (s := s) (k := k) (q := q) (n := n) (by assumption) (by assumption); exact blk_eq (congrArg (fun z => encC z none) h9.symm)) | (have h9 := sentP_3 (s := s) (k := k) (q := q) (n := n) (by assumption) (by assumption); exact blk_eq (congrArg (fun z => encC z none) h9.symm)) | (have h9 := sentP_4 (s := s) (k := k) (q := q) (n := n) (by assumption) (by assumption); exact blk_eq (congrArg (fun z => encC z none) h9.symm)) | (have h9 := sentP_5 (s := s) (k := k) (q := q) (n := n) (by assumption) (by assumption); exact blk_eq (congrArg (fun z => encC z none) h9.symm)) | (have h9 := sentP_6 (s := s) (k := k) (q := q) (n := n) (by assumption) (by assumption); exact blk_eq (congrArg (fun z => encC z none) h9.symm)) | (have h9 := sentP_7 (s := s) (k := k) (q := q) (n := n) (by assumption) (by assumption) (by assumption) (by assumption); exact blk_eq (congrArg (fun z => encC z none) h9.symm)) | (have h9 := (sentP_8 (s := s) (k := k) (q := q) (n := n) (by assumption) (by assumption) (by assumption) (by assumption)).trans (rexP_1 (s := s) (x := (q - s.una) % 4294967296) (e := (q + n) % 4294967296) (by assumption) (by assumption)); exact blk_eq (congrArg (fun z => encC z none) h9.symm)) | (have h9 := (sentP_8 (s := s) (k := k) (q := q) (n := n) (by assumption) (by assumption) (by assumption) (by assumption)).trans (rexP_2 (s := s) (x := (q - s.una) % 4294967296) (e := (q + n) % 4294967296) (by assumption) (by assumption)); exact blk_eq (congrArg (fun z => encC z none) h9.symm)) | (have h9 := (sentP_8 (s := s) (k := k) (q := q) (n := n) (by assumption) (by assumption) (by assumption) (by assumption)).trans (rexP_3 (s := s) (x := (q - s.una) % 4294967296) (e := (q + n) % 4294967296) (by assumption) (by assumption)); exact blk_eq (congrArg (fun z => encC z none) h9.symm)) | (have h9 := (sentP_8 (s := s) (k := k) (q := q) (n := n) (by assumption) (by assumption) (by assumption) (by assumption)).trans (rexP_4 (s := s) (x := (q - s.una) % 4294967296) (e := (q + n) % 4294967296) (by assumption) (by assumption)); exact blk_eq (congrArg (fun z => encC z none) h9.symm)) | (have h9 := sentP_9 (s := s) (k := k) (q := q) (n := n) (by assumption) (by assumption) (by assumption); exact blk_eq (congrArg (fun z => encC z none) h9.symm)) | (have h9 := sentP_1 (s := s) (k := k) (q := q) (n := n) (by assumption) (by assumption) (by assumption); exact blk_eq (congrArg (fun z => bdL bu z bv) (congrArg CS.nxt h9).symm)) | (have h9 := sentP_2 (s := s) (k := k) (q := q) (n := n) (by assumption) (by assumption); exact blk_eq (congrArg (fun z => bdL bu z bv) (congrArg CS.nxt h9).symm)) | (have h9 := sentP_3 (s := s) (k := k) (q := q) (n := n) (by assumption) (by assumption); exact blk_eq (congrArg (fun z => bdL bu z bv) (congrArg CS.nxt h9).symm)) | (have h9 := sentP_4 (s := s) (k := k) (q := q) (n := n) (by assumption) (by assumption); exact blk_eq (congrArg (fun z => bdL bu z bv) (congrArg CS.nxt h9).symm)) | (have h9 := sentP_5 (s := s) (k := k) (q := q) (n := n) (by assumption) (by assumption); exact blk_eq (congrArg (fun z => bdL bu z bv) (congrArg CS.nxt h9).symm)) | (have h9 := sentP_6 (s := s) (k := k) (q := q) (n := n) (by assumption) (by assumption); exact blk_eq (congrArg (fun z => bdL bu z bv) (congrArg CS.nxt h9).symm)) | (have h9 := sentP_7 (s := s) (k := k) (q := q) (n := n) (by assumption) (by assumption) (by assumption) (by assumption); exact blk_eq (congrArg (fun z => bdL bu z bv) (congrArg CS.nxt h9).symm)) | (have h9 := (sentP_8 (s := s) (k := k) (q := q) (n := n) (by assumption) (by assumption) (by assumption) (by assumption)).trans (rexP_1 (s := s) (x := (q - s.una) % 4294967296) (e := (q + n) % 4294967296) (by assumption) (by assumption)); exact blk_eq (congrArg (fun z => bdL bu z bv) (congrArg CS.nxt h9).symm)) | (have h9 := (sentP_8 (s := s) (k := k) (q := q) (n := n) (by assumption) (by assumption) (by assumption) (by assumption)).trans (rexP_2 (s := s) (x := (q - s.una) % 4294967296) (e := (q + n) % 4294967296) (by assumption) (by assumption)); exact blk_eq (congrArg (fun z => bdL bu z bv) (congrArg CS.nxt h9).symm)) | (have h9 := (sentP_8 (s := s) (k := k) (q := q) (n := n) (by assumption) (by assumption) (by assumption) (by assumption)).trans (rexP_3 (s := s) (x := (q - s.una) % 4294967296) (e := (q + n) % 4294967296) (by assumption) (by assumption)); exact blk_eq (congrArg (fun z => bdL bu z bv) (congrArg CS.nxt h9).symm)) | (have h9 := (sentP_8 (s := s) (k := k) (q := q) (n := n) (by assumption) (by assumption) (by assumption) (by assumption)).trans (rexP_4 (s := s) (x := (q - s.una) % 4294967296) (e := (q + n) % 4294967296) (by assumption) (by assumption)); exact blk_eq (congrArg (fun z => bdL bu z bv) (congrArg CS.nxt h9).symm)) | (have h9 := sentP_9 (s := s) (k := k) (q := q) (n := n) (by assumption) (by assumption) (by assumption); exact blk_eq (congrArg (fun z => bdL bu z bv) (congrArg CS.nxt h9).symm)) | exact absurd hc2 (by simp) | rfl) | exact keeps_self | apply keeps_mv)) ?_
                  exact ⟨rfl, rfl⟩
              · intro hc6
                try simp only [decide_eq_true_eq, decide_eq_false_iff_not, Bool.not_eq_true', Bool.not_eq_false', Bool.not_eq_true, Bool.not_eq_false, Bool.and_eq_true, Bool.or_eq_true, Bool.and_eq_false_iff, Bool.or_eq_false_iff, Bool.not_not, ne_eq, Int.not_lt, Int.not_le, Decidable.not_not, beq_iff_eq, bne_iff_ne] at hc6
                refine wp_skip ?_
                refine then_normal ?_
                refine c_seq ?_
                refine c_region ?_
                refine wl (wl_val hl rfl trivial (r_field hl rfl fld40_1) ?_)
                clear hl a; intro a hl
                refine wl (w_load hl hh rfl trivial one29 rfl (by repeat (first | exact find_head | apply find_tail)) (by first | rfl | rfl) ?_)
                clear hl a; intro a hl
                refine wl (wl_val hl rfl trivial (r_field hl rfl fld40_2) ?_)
                clear hl a; intro a hl
                refine wl (w_load hl hh rfl trivial one29 rfl (by repeat (first | exact find_head | apply find_tail)) (by first | rfl | rfl) ?_)
                clear hl a; intro a hl
                refine wl (wl_val hl rfl trivial (r_addM wm_u32 hl rfl rfl) ?_)
                clear hl a; intro a hl
                refine wl (wl_val hl rfl trivial (r_assign hl rfl) ?_)
                clear hl a; intro a hl
                refine w_nil ?_
                have hl2 := hl.add (t := 0) (hl.add (t := 6) (hl.nil) rfl) rfl; clear hl; have hl := hl2; clear hl2
                refine then_normal ?_
                refine c_seq ?_
                refine c_region ?_
                refine wl (wl_val hl rfl trivial (r_move hl rfl) ?_)
                clear hl a; intro a hl
                refine wl (wl_val hl rfl trivial (r_nilCheck hl rfl) ?_)
                clear hl a; intro a hl
                refine wl (wl_val hl rfl trivial (r_field hl rfl fld66_10) ?_)
                clear hl a; intro a hl
                refine wl (w_load hl hh rfl trivial one29 rfl (by repeat (first | exact find_head | apply find_tail)) (by first | rfl | rfl) ?_)
                clear hl a; intro a hl
                refine wl (wl_val hl rfl trivial (r_move hl rfl) ?_)
                clear hl a; intro a hl
                refine wl (w_call hl hh rfl trivial rfl cal39 rfl (less_spec _ _) (by repeat (first | exact keeps_nil | apply keeps_cons (by repeat (first | exact find_head | apply find_tail)) (by first  | rfl) | exact keeps_self | apply keeps_mv)) trivial ?_)
                clear hl hh a w; intro vc Fc a w hR hl hh
                obtain ⟨rfl, rfl⟩ := hR
                try simp only [List.cons_append, List.nil_append] at hh
                refine w_nil ?_
                have hl2 := hl.add (t := 0) (hl.add (t := 6) (hl.add (t := 96) (hl.nil) rfl) rfl) rfl; clear hl; have hl := hl2; clear hl2
                refine then_normal ?_
                refine c_cond hl rfl ?_ ?_
                · intro hc7
                  try simp only [decide_eq_true_eq, decide_eq_false_iff_not, Bool.not_eq_true', Bool.not_eq_false', Bool.not_eq_true, Bool.not_eq_false, Bool.and_eq_true, Bool.or_eq_true, Bool.and_eq_false_iff, Bool.or_eq_false_iff, Bool.not_not, ne_eq, Int.not_lt, Int.not_le, Decidable.not_not, beq_iff_eq, bne_iff_ne] at hc7
                  refine c_region ?_
                  refine wl (wl_val hl rfl trivial (r_move hl rfl) ?_)
                  clear hl a; intro a hl
                  refine wl (wl_val hl rfl trivial (r_move hl rfl) ?_)
                  clear hl a; intro a hl
                  refine wl (wl_val hl rfl trivial (r_nilCheck hl rfl) ?_)
                  clear hl a; intro a hl
                  refine wl (wl_val hl rfl trivial (r_field hl rfl fld66_10) ?_)
                  clear hl a; intro a hl
                  refine wl (w_store hl hh trivial one29 rfl rfl (by repeat (first | exact find_head | apply find_tail)) (by first | (simp; done) | (simp; omega)) (by first | rfl | assumption | (apply Row.one; assumption)) (by first | (simp only [encC, setL, List.getElem?_cons_zero, List.getElem?_cons_succ, Value.cells, List.take_zero, List.take_succ_cons, List.take_nil, List.drop_zero, List.drop_succ_cons, List.drop_nil, List.length_cons, List.length_nil, List.cons_append, List.nil_append, List.append_nil, Nat.zero_add, Nat.add_zero, Nat.reduceAdd, Nat.reduceBEq, Nat.reduceEqDiff, Nat.ble, BEq.rfl, Bool.and_true, Bool.and_self, cond_true, beq_self_eq_true]; rfl) | (simp only [setL, List.getElem?_cons_zero, List.getElem?_cons_succ, Value.cells, List.take_zero, List.take_succ_cons, List.take_nil, List.drop_zero, List.drop_succ_cons, List.drop_nil, List.length_cons, List.length_nil, List.cons_append, List.nil_append, List.append_nil, Nat.zero_add, Nat.add_zero, Nat.reduceAdd, Nat.reduceBEq, Nat.reduceEqDiff, Nat.ble, BEq.rfl, Bool.and_true, Bool.and_self, cond_true, beq_self_eq_true]; rfl)) ?_)
                  clear hh w; intro w hh
                  refine w_nil ?_
                  have hl2 := hl.nil; clear hl; have hl := hl2; clear hl2
                  refine blk_normal ?_
                  refine f_end0 (F' := [(cp, C (encC (sentP s k q n) none) 66)]) hl hh rfl (by repeat (first | exact keeps_nil | apply keeps_cons (by repeat (first | exact find_head | apply find_tail)) (by first  | (have h9 := sentP_1 (s := s) (k := k) (q := q) (n := n) (by assumption) (by assumption) (by assumption); exact blk_eq (congrArg (fun z => encC z none) h9.symm)) | (have h9 := sentP_2 (s := s) (k := k) (q := q) (n := n) (by assumption) (by assumption); exact blk_eq (congrArg (fun z => encC z none) h9.symm)) | (have h9 := sentP_3 (s := s) (k := k) (q := q) (n := n) (by assumption) (by assumption); exact blk_eq (congrArg (fun z => encC z none) h9.symm)) | (have h9 := sentP_4 (s := s) (k := k) (q := q) (n := n) (by assumption) (by assumption); exact blk_eq (congrArg (fun z => encC z none) h9.symm)) | (have h9 := sentP_5 (s := s) (k := k) (q := q) (n := n) (by assumption) (by assumption); exact blk_eq (congrArg (fun z => encC z none) h9.symm)) | (have h9 := sentP_6 (s := s) (k := k) (q := q) (n := n) (by assumption) (by assumption); exact blk_eq (congrArg (fun z => encC z none) h9.symm)) | (have h9 := sentP_7 (s := s) (k := k) (q := q) (n := n) (by assumption) (by assumption) (by assumption) (by assumption); exact blk_eq (congrArg (fun z => encC z none) h9.symm)) | (have h9 := (sentP_8 (s := s) (k := k) (q := q) (n := n) (by assumption) (by assumption) (by assumption) (by assumption)).trans (rexP_1 (s := s) (x := (q - s.una) % 4294967296) (e := (q + n) % 4294967296) (by assumption) (by assumption)); exact blk_eq (congrArg (fun z => encC z none) h9.symm)) | (have h9 := (sentP_8 (s := s) (k := k) (q := q) (n := n) (by assumption) (by assumption) (by assumption) (by assumption)).trans (rexP_2 (s := s) (x := (q - s.una) % 4294967296) (e := (q + n) % 4294967296) (by assumption) (by assumption)); exact blk_eq (congrArg (fun z => encC z none) h9.symm)) | (have h9 := (sentP_8 (s := s) (k := k) (q := q) (n := n) (by assumption) (by assumption) (by assumption) (by assumption)).trans (rexP_3 (s := s) (x := (q - s.una) % 4294967296) (e := (q + n) % 4294967296) (by assumption) (by assumption)); exact blk_eq (congrArg (fun z => encC z none) h9.symm)) | (have h9 := (sentP_8 (s := s) (k := k) (q := q) (n := n) (by assumption) (by assumption) (by assumption) (by assumption)).trans (rexP_4 (s := s) (x := (q - s.una) % 4294967296) (e := (q + n) % 4294967296) (by assumption) (by assumption)); exact blk_eq (congrArg (fun z => encC z none) h9.symm)) | (have h9 := sentP_9 (s := s) (k := k) (q := q) (n := n) (by assumption) (by assumption) (by assumption); exact blk_eq (congrArg (fun z => encC z none) h9.symm)) | (have h9 := sentP_1 (s := s) (k := k) (q := q) (n := n) (by assumption) (by assumption) (by assumption); exact blk_eq (congrArg (fun z => bdL bu z bv) (congrArg CS.nxt h9).symm)) | (have h9 := sentP_2 (s := s) (k := k) (q := q) (n := n) (by assumption) (by assumption); exact blk_eq (congrArg (fun z => bdL bu z bv) (congrArg CS.nxt h9).symm)) | (have h9 := sentP_3 (s := s) (k := k) (q := q) (n := n) (by assumption) (by assumption); exact blk_eq (congrArg (fun z => bdL bu z bv) (congrArg CS.nxt h9).symm)) | (have h9 := sentP_4 (s := s) (k := k) (q := q) (n := n) (by assumption) (by assumption); exact blk_eq (congrArg (fun z => bdL bu z bv) (congrArg CS.nxt h9).symm)) | (have h9 := sentP_5 (s := s) (k := k) (q := q) (n := n) (by assumption) (by assumption); exact blk_eq (congrArg (fun z => bdL bu z bv) (congrArg CS.nxt h9).symm)) | (have h9 := sentP_6 (s := s) (k := k) (q := q) (n := n) (by assumption) (by assumption); exact blk_eq (congrArg (fun z => bdL bu z bv) (congrArg CS.nxt h9).symm)) | (have h9 := sentP_7 (s := s) (k := k) (q := q) (n := n) (by assumption) (by assumption) (by assumption) (by assumption); exact blk_eq (congrArg (fun z => bdL bu z bv) (congrArg CS.nxt h9).symm)) | (have h9 := (sentP_8 (s := s) (k := k) (q := q) (n := n) (by assumption) (by assumption) (by assumption) (by assumption)).trans (rexP_1 (s := s) (x := (q - s.una) % 4294967296) (e := (q + n) % 4294967296) (by assumption) (by assumption)); exact blk_eq (congrArg (fun z => bdL bu z bv) (congrArg CS.nxt h9).symm)) | (have h9 := (sentP_8 (s := s) (k := k) (q := q) (n := n) (by assumption) (by assumption) (by assumption) (by assumption)).trans (rexP_2 (s := s) (x := (q - s.una) % 4294967296) (e := (q + n) % 4294967296) (by assumption) (by assumption)); exact blk_eq (congrArg (fun z => bdL bu z bv) (congrArg CS.nxt h9).symm)) | (have h9 := (sentP_8 (s := s) (k := k) (q := q) (n := n) (by assumption) (by assumption) (by assumption) (by assumption)).trans (rexP_3 (s := s) (x := (q - s.una) % 4294967296) (e := (q + n) % 4294967296) (by assumption) (by assumption)); exact blk_eq (congrArg (fun z => bdL bu z bv) (congrArg CS.nxt h9).symm)) | (have h9 := (sentP_8 (s := s) (k := k) (q := q) (n := n) (by assumption) (by assumption) (by assumption) (by assumption)).trans (rexP_4 (s := s) (x := (q - s.una) % 4294967296) (e := (q + n) % 4294967296) (by assumption) (by assumption)); exact blk_eq (congrArg (fun z => bdL bu z bv) (congrArg CS.nxt h9).symm)) | (have h9 := sentP_9 (s := s) (k := k) (q := q) (n := n) (by assumption) (by assumption) (by assumption); exact blk_eq (congrArg (fun z => bdL bu z bv) (congrArg CS.nxt h9).symm)) | exact absurd hc2 (by simp) | rfl) | exact keeps_self | apply keeps_mv)) ?_
                  exact ⟨rfl, rfl⟩
                · intro hc7
                  try simp only [decide_eq_true_eq, decide_eq_false_iff_not, Bool.not_eq_true', Bool.not_eq_false', Bool.not_eq_true, Bool.not_eq_false, Bool.and_eq_true, Bool.or_eq_true, Bool.and_eq_false_iff, Bool.or_eq_false_iff, Bool.not_not, ne_eq, Int.not_lt, Int.not_le, Decidable.not_not, beq_iff_eq, bne_iff_ne] at hc7
                  refine wp_skip ?_
                  refine blk_normal ?_
                  refine f_end0 (F' := [(cp, C (encC (sentP s k q n) none) 66)]) hl hh rfl (by repeat (first | exact keeps_nil | apply keeps_cons (by repeat (first | exact find_head | apply find_tail)) (by first  | (have h9 := sentP_1 (s := s) (k := k) (q := q) (n := n) (by assumption) (by assumption) (by assumption); exact blk_eq (congrArg (fun z => encC z none) h9.symm)) | (have h9 := sentP_2 (s := s) (k := k) (q := q) (n := n) (by assumption) (by assumption); exact blk_eq (congrArg (fun z => encC z none) h9.symm)) | (have h9 := sentP_3 (s := s) (k := k) (q := q) (n := n) (by assumption) (by assumption); exact blk_eq (congrArg (fun z => encC z none) h9.symm)) | (have h9 := sentP_4 (s := s) (k := k) (q := q) (n := n) (by assumption) (by assumption); exact blk_eq (congrArg (fun z => encC z none) h9.symm)) | (have h9 := sentP_5 (s := s) (k := k) (q := q) (n := n) (by assumption) (by assumption); exact blk_eq (congrArg (fun z => encC z none) h9.symm)) | (have h9 := sentP_6 (s := s) (k := k) (q := q) (n := n) (by assumption) (by assumption); exact blk_eq (congrArg (fun z => encC z none) h9.symm)) | (have h9 := sentP_7 (s := s) (k := k) (q := q) (n := n) (by assumption) (by assumption) (by assumption) (by assumption); exact blk_eq (congrArg (fun z => encC z none) h9.symm)) | (have h9 := (sentP_8 (s := s) (k := k) (q := q) (n := n) (by assumption) (by assumption) (by assumption) (by assumption)).trans (rexP_1 (s := s) (x := (q - s.una) % 4294967296) (e := (q + n) % 4294967296) (by assumption) (by assumption)); exact blk_eq (congrArg (fun z => encC z none) h9.symm)) | (have h9 := (sentP_8 (s := s) (k := k) (q := q) (n := n) (by assumption) (by assumption) (by assumption) (by assumption)).trans (rexP_2 (s := s) (x := (q - s.una) % 4294967296) (e := (q + n) % 4294967296) (by assumption) (by assumption)); exact blk_eq (congrArg (fun z => encC z none) h9.symm)) | (have h9 := (sentP_8 (s := s) (k := k) (q := q) (n := n) (by assumption) (by assumption) (by assumption) (by assumption)).trans (rexP_3 (s := s) (x := (q - s.una) % 4294967296) (e := (q + n) % 4294967296) (by assumption) (by assumption)); exact blk_eq (congrArg (fun z => encC z none) h9.symm)) | (have h9 := (sentP_8 (s := s) (k := k) (q := q) (n := n) (by assumption) (by assumption) (by assumption) (by assumption)).trans (rexP_4 (s := s) (x := (q - s.una) % 4294967296) (e := (q + n) % 4294967296) (by assumption) (by assumption)); exact blk_eq (congrArg (fun z => encC z none) h9.symm)) | (have h9 := sentP_9 (s := s) (k := k) (q := q) (n := n) (by assumption) (by assumption) (by assumption); exact blk_eq (congrArg (fun z => encC z none) h9.symm)) | (have h9 := sentP_1 (s := s) (k := k) (q := q) (n := n) (by assumption) (by assumption) (by assumption); exact blk_eq (congrArg (fun z => bdL bu z bv) (congrArg CS.nxt h9).symm)) | (have h9 := sentP_2 (s := s) (k := k) (q := q) (n := n) (by assumption) (by assumption); exact blk_eq (congrArg (fun z => bdL bu z bv) (congrArg CS.nxt h9).symm)) | (have h9 := sentP_3 (s := s) (k := k) (q := q) (n := n) (by assumption) (by assumption); exact blk_eq (congrArg (fun z => bdL bu z bv) (congrArg CS.nxt h9).symm)) | (have h9 := sentP_4 (s := s) (k := k) (q := q) (n := n) (by assumption) (by assumption); exact blk_eq (congrArg (fun z => bdL bu z bv) (congrArg CS.nxt h9).symm)) | (have h9 := sentP_5 (s := s) (k := k) (q := q) (n := n) (by assumption) (by assumption); exact blk_eq (congrArg (fun z => bdL bu z bv) (congrArg CS.nxt h9).symm)) | (have h9 := sentP_6 (s := s) (k := k) (q := q) (n := n) (by assumption) (by assumption); exact blk_eq (congrArg (fun z => bdL bu z bv) (congrArg CS.nxt h9).symm)) | (have h9 := sentP_7 (s := s) (k := k) (q := q) (n := n) (by assumption) (by assumption) (by assumption) (by assumption); exact blk_eq (congrArg (fun z => bdL bu z bv) (congrArg CS.nxt h9).symm)) | (have h9 := (sentP_8 (s := s) (k := k) (q := q) (n := n) (by assumption) (by assumption) (by assumption) (by assumption)).trans (rexP_1 (s := s) (x := (q - s.una) % 4294967296) (e := (q + n) % 4294967296) (by assumption) (by assumption)); exact blk_eq (congrArg (fun z => bdL bu z bv) (congrArg CS.nxt h9).symm)) | (have h9 := (sentP_8 (s := s) (k := k) (q := q) (n := n) (by assumption) (by assumption) (by assumption) (by assumption)).trans (rexP_2 (s := s) (x := (q - s.una) % 4294967296) (e := (q + n) % 4294967296) (by assumption) (by assumption)); exact blk_eq (congrArg (fun z => bdL bu z bv) (congrArg CS.nxt h9).symm)) | (have h9 := (sentP_8 (s := s) (k := k) (q := q) (n := n) (by assumption) (by assumption) (by assumption) (by assumption)).trans (rexP_3 (s := s) (x := (q - s.una) % 4294967296) (e := (q + n) % 4294967296) (by assumption) (by assumption)); exact blk_eq (congrArg (fun z => bdL bu z bv) (congrArg CS.nxt h9).symm)) | (have h9 := (sentP_8 (s := s) (k := k) (q := q) (n := n) (by assumption) (by assumption) (by assumption) (by assumption)).trans (rexP_4 (s := s) (x := (q - s.una) % 4294967296) (e := (q + n) % 4294967296) (by assumption) (by assumption)); exact blk_eq (congrArg (fun z => bdL bu z bv) (congrArg CS.nxt h9).symm)) | (have h9 := sentP_9 (s := s) (k := k) (q := q) (n := n) (by assumption) (by assumption) (by assumption); exact blk_eq (congrArg (fun z => bdL bu z bv) (congrArg CS.nxt h9).symm)) | exact absurd hc2 (by simp) | rfl) | exact keeps_self | apply keeps_mv)) ?_
                  exact ⟨rfl, rfl⟩
            · intro hc5
              try simp only [decide_eq_true_eq, decide_eq_false_iff_not, Bool.not_eq_true', Bool.not_eq_false', Bool.not_eq_true, Bool.not_eq_false, Bool.and_eq_true, Bool.or_eq_true, Bool.and_eq_false_iff, Bool.or_eq_false_iff, Bool.not_not, ne_eq, Int.not_lt, Int.not_le, Decidable.not_not, beq_iff_eq, bne_iff_ne] at hc5
              refine wp_skip ?_
              refine blk_normal ?_
              refine f_end0 (F' := [(cp, C (encC (sentP s k q n) none) 66)]) hl hh rfl (by repeat (first | exact keeps_nil | apply keeps_cons (by repeat (first | exact find_head | apply find_tail)) (by first  | (have h9 := sentP_1 (s := s) (k := k) (q := q) (n := n) (by assumption) (by assumption) (by assumption); exact blk_eq (congrArg (fun z => encC z none) h9.symm)) | (have h9 := sentP_2 (s := s) (k := k) (q := q) (n := n) (by assumption) (by assumption); exact blk_eq (congrArg (fun z => encC z none) h9.symm)) | (have h9 := sentP_3 (s := s) (k := k) (q := q) (n := n) (by assumption) (by assumption); exact blk_eq (congrArg (fun z => encC z none) h9.symm)) | (have h9 := sentP_4 (s := s) (k := k) (q := q) (n := n) (by assumption) (by assumption); exact blk_eq (congrArg (fun z => encC z none) h9.symm)) | (have h9 := sentP_5 (s := s) (k := k) (q := q) (n := n) (by assumption) (by assumption); exact blk_eq (congrArg (fun z => encC z none) h9.symm)) | (have h9 := sentP_6 (s := s) (k := k) (q := q) (n := n) (by assumption) (by assumption); exact blk_eq (congrArg (fun z => encC z none) h9.symm)) | (have h9 := sentP_7 (s := s) (k := k) (q := q) (n := n) (by assumption) (by assumption) (by assumption) (by assumption); exact blk_eq (congrArg (fun z => encC z none) h9.symm)) | (have h9 := (sentP_8 (s := s) (k := k) (q := q) (n := n) (by assumption) (by assumption) (by assumption) (by assumption)).trans (rexP_1 (s := s) (x := (q - s.una) % 4294967296) (e := (q + n) % 4294967296) (by assumption) (by assumption)); exact blk_eq (congrArg (fun z => encC z none) h9.symm)) | (have h9 := (sentP_8 (s := s) (k := k) (q := q) (n := n) (by assumption) (by assumption) (by assumption) (by assumption)).trans (rexP_2 (s := s) (x := (q - s.una) % 4294967296) (e := (q + n) % 4294967296) (by assumption) (by assumption)); exact blk_eq (congrArg (fun z => encC z none) h9.symm)) | (have h9 := (sentP_8 (s := s) (k := k) (q := q) (n := n) (by assumption) (by assumption) (by assumption) (by assumption)).trans (rexP_3 (s := s) (x := (q - s.una) % 4294967296) (e := (q + n) % 4294967296) (by assumption) (by assumption)); exact blk_eq (congrArg (fun z => encC z none) h9.symm)) | (have h9 := (sentP_8 (s := s) (k := k) (q := q) (n := n) (by assumption) (by assumption) (by assumption) (by assumption)).trans (rexP_4 (s := s) (x := (q - s.una) % 4294967296) (e := (q + n) % 4294967296) (by assumption) (by assumption)); exact blk_eq (congrArg (fun z => encC z none) h9.symm)) | (have h9 := sentP_9 (s := s) (k := k) (q := q) (n := n) (by assumption) (by assumption) (by assumption); exact blk_eq (congrArg (fun z => encC z none) h9.symm)) | (have h9 := sentP_1 (s := s) (k := k) (q := q) (n := n) (by assumption) (by assumption) (by assumption); exact blk_eq (congrArg (fun z => bdL bu z bv) (congrArg CS.nxt h9).symm)) | (have h9 := sentP_2 (s := s) (k := k) (q := q) (n := n) (by assumption) (by assumption); exact blk_eq (congrArg (fun z => bdL bu z bv) (congrArg CS.nxt h9).symm)) | (have h9 := sentP_3 (s := s) (k := k) (q := q) (n := n) (by assumption) (by assumption); exact blk_eq (congrArg (fun z => bdL bu z bv) (congrArg CS.nxt h9).symm)) | (have h9 := sentP_4 (s := s) (k := k) (q := q) (n := n) (by assumption) (by assumption); exact blk_eq (congrArg (fun z => bdL bu z bv) (congrArg CS.nxt h9).symm)) | (have h9 := sentP_5 (s := s) (k := k) (q := q) (n := n) (by assumption) (by assumption); exact blk_eq (congrArg (fun z => bdL bu z bv) (congrArg CS.nxt h9).symm)) | (have h9 := sentP_6 (s := s) (k := k) (q := q) (n := n) (by assumption) (by assumption); exact blk_eq (congrArg (fun z => bdL bu z bv) (congrArg CS.nxt h9).symm)) | (have h9 := sentP_7 (s := s) (k := k) (q := q) (n := n) (by assumption) (by assumption) (by assumption) (by assumption); exact blk_eq (congrArg (fun z => bdL bu z bv) (congrArg CS.nxt h9).symm)) | (have h9 := (sentP_8 (s := s) (k := k) (q := q) (n := n) (by assumption) (by assumption) (by assumption) (by assumption)).trans (rexP_1 (s := s) (x := (q - s.una) % 4294967296) (e := (q + n) % 4294967296) (by assumption) (by assumption)); exact blk_eq (congrArg (fun z => bdL bu z bv) (congrArg CS.nxt h9).symm)) | (have h9 := (sentP_8 (s := s) (k := k) (q := q) (n := n) (by assumption) (by assumption) (by assumption) (by assumption)).trans (rexP_2 (s := s) (x := (q - s.una) % 4294967296) (e := (q + n) % 4294967296) (by assumption) (by assumption)); exact blk_eq (congrArg (fun z => bdL bu z bv) (congrArg CS.nxt h9).symm)) | (have h9 := (sentP_8 (s := s) (k := k) (q := q) (n := n) (by assumption) (by assumption) (by assumption) (by assumption)).trans (rexP_3 (s := s) (x := (q - s.una) % 4294967296) (e := (q + n) % 4294967296) (by assumption) (by assumption)); exact blk_eq (congrArg (fun z => bdL bu z bv) (congrArg CS.nxt h9).symm)) | (have h9 := (sentP_8 (s := s) (k := k) (q := q) (n := n) (by assumption) (by assumption) (by assumption) (by assumption)).trans (rexP_4 (s := s) (x := (q - s.una) % 4294967296) (e := (q + n) % 4294967296) (by assumption) (by assumption)); exact blk_eq (congrArg (fun z => bdL bu z bv) (congrArg CS.nxt h9).symm)) | (have h9 := sentP_9 (s := s) (k := k) (q := q) (n := n) (by assumption) (by assumption) (by assumption); exact blk_eq (congrArg (fun z => bdL bu z bv) (congrArg CS.nxt h9).symm)) | exact absurd hc2 (by simp) | rfl) | exact keeps_self | apply keeps_mv)) ?_
              exact ⟨rfl, rfl⟩

set_option maxHeartbeats 1000000 in
theorem onSentS_spec (cp : Nat) (s : CS) (hs : Ok s) (hf : flightP s ≤ 2147483647) (sb : Nat) (bu : Int) (bv : Value) (k q n : Int) (hq : U q) (hn : U n) : Sp Tryz.prog 16 #[.pointer (some ⟨cp, 0, none⟩), .agg ⟨[.int .u8 k, .int .u32 q, .int .u32 n]⟩] [(cp, C (encC (s) (some ⟨sb, 0, none⟩)) 66), (sb, C (bdL bu s.nxt bv) 85)] (fun v F' => v = .tuple #[] ∧ F' = [(cp, C (encC (sentP s k q n) (some ⟨sb, 0, none⟩)) 66), (sb, C (bdL bu (sentP s k q n).nxt bv) 85)]) := by
  refine f_enter (args := [.pointer (some ⟨cp, 0, none⟩), .agg ⟨[.int .u8 k, .int .u32 q, .int .u32 n]⟩]) Tryz.func16 rfl Tryz.ntmps16 rfl ?_
  intro w0 w a hpre hl hh
  have o1 := hs.init; have o2 := hs.maxc; have o3 := hs.bn; have o4 := hs.bd; have o5 := hs.abc; have o6 := hs.dupt; have o7 := hs.mss; have o8 := hs.cwnd; have o9 := hs.ssth; have o10 := hs.credit; have o11 := hs.una; have o12 := hs.nxt; have o13 := hs.phase; have o14 := hs.recov; have o15 := hs.high; have o16 := hs.dups; have o17 := flightP_U s
  simp only [slotsFrom, Nat.reduceAdd] at hl
  refine c_seq ?_
  refine c_region ?_
  refine wl (w_box hl hh rfl trivial rfl rfl ?_)
  clear hl hh a w; intro k3 a w hl hh
  refine w_nil ?_
  have hl2 := hl.add (t := 0) (hl.add (t := 3) (hl.nil) rfl) rfl; clear hl; have hl := hl2; clear hl2
  refine then_normal ?_
  refine c_seq ?_
  refine c_region ?_
  refine wl (wl_val hl rfl trivial (r_move hl rfl) ?_)
  clear hl a; intro a hl
  refine wl (w_call hl hh rfl trivial rfl cal33 rfl (flight_spec cp s (some ⟨sb, 0, none⟩)) (by repeat (first | exact keeps_nil | apply keeps_cons (by repeat (first | exact find_head | apply find_tail)) (by first  | rfl) | exact keeps_self | apply keeps_mv)) (hh.mem _ _ (Find.mem (by repeat (first | exact find_head | apply find_tail)))) ?_)
  clear hl hh a w; intro vc Fc a w hR hl hh
  obtain ⟨rfl, rfl⟩ := hR
  try simp only [List.cons_append, List.nil_append] at hh
  refine wl (wl_val hl rfl trivial (r_assign hl rfl) ?_)
  clear hl a; intro a hl
  refine w_nil ?_
  have hl2 := hl.add (t := 0) (hl.add (t := 3) (hl.add (t := 4) (hl.nil) rfl) rfl) rfl; clear hl; have hl := hl2; clear hl2
  refine then_normal ?_
  refine c_seq ?_
  refine c_seq ?_
  refine c_region ?_
  refine wl (wl_val hl rfl trivial (r_field hl rfl fld40_0) ?_)
  clear hl a; intro a hl
  refine wl (w_load hl hh rfl trivial one38 rfl (by repeat (first | exact find_head | apply find_tail)) (by first | rfl | rfl) ?_)
  clear hl a; intro a hl
  refine wl (wl_val hl rfl trivial (r_eql hl rfl rfl) ?_)
  clear hl a; intro a hl
  refine w_nil ?_
  have hl2 := hl.add (t := 0) (hl.add (t := 3) (hl.add (t := 4) (hl.add (t := 11) (hl.nil) rfl) rfl) rfl) rfl; clear hl; have hl := hl2; clear hl2
  refine then_normal ?_
  refine c_cond hl rfl ?_ ?_
  · intro hc0
    try simp only [decide_eq_true_eq, decide_eq_false_iff_not, Bool.not_eq_true', Bool.not_eq_false', Bool.not_eq_true, Bool.not_eq_false, Bool.and_eq_true, Bool.or_eq_true, Bool.and_eq_false_iff, Bool.or_eq_false_iff, Bool.not_not, ne_eq, Int.not_lt, Int.not_le, Decidable.not_not, beq_iff_eq, bne_iff_ne] at hc0
    refine c_seq ?_
    refine c_seq ?_
    refine c_draw [(k3, C [.int .u8 k, .int .u32 q, .int .u32 n] 40), (cp, C (encC (s) (some ⟨sb, 0, none⟩)) 66)] [12, 13] mixed hh ?_
    clear hh w; intro w hh
    have hM : Mem [(k3, C [.int .u8 k, .int .u32 q, .int .u32 n] 40), (cp, C (encC (s) (some ⟨sb, 0, none⟩)) 66)] w := (by (repeat (first | exact Mem.nil | refine Mem.cons hh.mem (by (repeat (first | exact find_head | apply find_tail)); done) ?_ | refine Mem.consR hh (by assumption) (by simp) ?_ | fail)); done)
    refine d_take (i := 0) hl rfl (by kernel_rfl) (by kernel_rfl) (by kernel_rfl) (by kernel_rfl) (by kernel_rfl) rfl trivial (fun _ _ _ h => h) hM (fun w hC => r_field hl rfl fld40_1) rfl ?_
    clear hl a; intro a hl
    refine d_take (i := 1) hl rfl (by kernel_rfl) (by kernel_rfl) (by kernel_rfl) (by kernel_rfl) (by kernel_rfl) rfl trivial (fun _ _ _ h => h) hM (fun w hC => r_loadC hl rfl one29 hC (by repeat (first | exact find_head | apply find_tail)) (by first | rfl | rfl)) rfl ?_
    clear hl a; intro a hl
    refine d_take (i := 2) hl rfl (by kernel_rfl) (by kernel_rfl) (by kernel_rfl) (by kernel_rfl) (by kernel_rfl) rfl trivial (fun _ _ _ h => h) hM (fun w hC => r_move hl rfl) rfl ?_
    clear hl a; intro a hl
    refine d_take (i := 3) hl rfl (by kernel_rfl) (by kernel_rfl) (by kernel_rfl) (by kernel_rfl) (by kernel_rfl) rfl trivial (fun _ _ _ h => h) hM (fun w hC => r_nilCheck hl rfl) rfl ?_
    clear hl a; intro a hl
    refine d_take (i := 4) hl rfl (by kernel_rfl) (by kernel_rfl) (by kernel_rfl) (by kernel_rfl) (by kernel_rfl) rfl trivial (fun _ _ _ h => h) hM (fun w hC => r_field hl rfl fld66_7) rfl ?_
    clear hl a; intro a hl
    refine d_take (i := 5) hl rfl (by kernel_rfl) (by kernel_rfl) (by kernel_rfl) (by kernel_rfl) (by kernel_rfl) rfl trivial (fun _ _ _ h => h) hM (fun w hC => r_loadC hl rfl one29 hC (by repeat (first | exact find_head | apply find_tail)) (by first | rfl | rfl)) rfl ?_
    clear hl a; intro a hl
    refine d_take (i := 6) hl rfl (by kernel_rfl) (by kernel_rfl) (by kernel_rfl) (by kernel_rfl) (by kernel_rfl) rfl trivial (fun _ _ _ h => h) hM (fun w hC => r_eql hl rfl rfl) rfl ?_
    clear hl a; intro a hl
    refine d_take (i := 7) hl rfl (by kernel_rfl) (by kernel_rfl) (by kernel_rfl) (by kernel_rfl) (by kernel_rfl) rfl trivial (fun _ _ _ h => h) hM (fun w hC => r_move hl rfl) rfl ?_
    clear hl a; intro a hl
    refine sl_split (t := 19) hl rfl ?_ ?_
    · intro hg1; clear hl; intro hl
      try simp only [decide_eq_true_eq, decide_eq_false_iff_not, Bool.not_eq_true', Bool.not_eq_false', Bool.not_eq_true, Bool.not_eq_false, Bool.and_eq_true, Bool.or_eq_true, Bool.and_eq_false_iff, Bool.or_eq_false_iff, Bool.not_not, ne_eq, Int.not_lt, Int.not_le, Decidable.not_not, beq_iff_eq, bne_iff_ne] at hg1
      refine d_take (i := 8) hl rfl (by kernel_rfl) (by kernel_rfl) (by kernel_rfl) (by kernel_rfl) (by kernel_rfl) rfl ⟨_, _, rfl, rfl, rfl⟩ (fun _ _ _ h => h) hM (fun w hC => r_field hl rfl fld40_2) rfl ?_
      clear hl a; intro a hl
      refine d_take (i := 9) hl rfl (by kernel_rfl) (by kernel_rfl) (by kernel_rfl) (by kernel_rfl) (by kernel_rfl) rfl ⟨_, _, rfl, rfl, rfl⟩ (fun _ _ _ h => h) hM (fun w hC => r_loadC hl rfl one29 hC (by repeat (first | exact find_head | apply find_tail)) (by first | rfl | rfl)) rfl ?_
      clear hl a; intro a hl
      refine d_take (i := 10) hl rfl (by kernel_rfl) (by kernel_rfl) (by kernel_rfl) (by kernel_rfl) (by kernel_rfl) rfl ⟨_, _, rfl, rfl, rfl⟩ (fun _ _ _ h => h) hM (fun w hC => r_move hl rfl) rfl ?_
      clear hl a; intro a hl
      first | refine d_take (i := 11) hl rfl (by kernel_rfl) (by kernel_rfl) (by kernel_rfl) (by kernel_rfl) (by kernel_rfl) rfl ⟨_, _, rfl, rfl, rfl⟩ (fun _ _ _ h => h) hM (fun w hC => r_sub hl rfl rfl (by simp only [Fits]; omega)) rfl ?_ | refine d_take (i := 11) hl rfl (by kernel_rfl) (by kernel_rfl) (by kernel_rfl) (by kernel_rfl) (by kernel_rfl) rfl ⟨_, _, rfl, rfl, rfl⟩ (fun _ _ _ h => h) hM (fun w hC => r_subM wm_u32 hl rfl rfl) rfl ?_
      clear hl a; intro a hl
      refine d_takeL (i := 12) hl rfl (by kernel_rfl) (by kernel_rfl) (by kernel_rfl) (by kernel_rfl) (by kernel_rfl) rfl ⟨_, _, rfl, rfl, rfl⟩ (fun _ _ _ h => h) (fun w => r_leq hl rfl rfl) rfl ?_
      clear hl a; intro a hl
      refine d_takeL (i := 13) hl rfl (by kernel_rfl) (by kernel_rfl) (by kernel_rfl) (by kernel_rfl) (by kernel_rfl) rfl trivial (fun _ _ _ h => h) (fun w => r_pickT hl rfl rfl) rfl ?_
      clear hl a; intro a hl
      refine d_done (by kernel_rfl) ?_
      try clear hM
      have hl2 := hl.add (t := 0) (hl.add (t := 3) (hl.add (t := 25) (hl.nil) rfl) rfl) rfl; clear hl; have hl := hl2; clear hl2
      refine then_normal ?_
      refine c_cond hl rfl ?_ ?_
      · intro hc1
        try simp only [decide_eq_true_eq, decide_eq_false_iff_not, Bool.not_eq_true', Bool.not_eq_false', Bool.not_eq_true, Bool.not_eq_false, Bool.and_eq_true, Bool.or_eq_true, Bool.and_eq_false_iff, Bool.or_eq_false_iff, Bool.not_not, ne_eq, Int.not_lt, Int.not_le, Decidable.not_not, beq_iff_eq, bne_iff_ne] at hc1
        refine c_seq ?_
        refine c_draw [(k3, C [.int .u8 k, .int .u32 q, .int .u32 n] 40), (cp, C (encC (s) (some ⟨sb, 0, none⟩)) 66)] [6, 7, 8, 9] mixed hh ?_
        clear hh w; intro w hh
        have hM : Mem [(k3, C [.int .u8 k, .int .u32 q, .int .u32 n] 40), (cp, C (encC (s) (some ⟨sb, 0, none⟩)) 66)] w := (by (repeat (first | exact Mem.nil | refine Mem.cons hh.mem (by (repeat (first | exact find_head | apply find_tail)); done) ?_ | refine Mem.consR hh (by assumption) (by simp) ?_ | fail)); done)
        refine d_take (i := 0) hl rfl (by kernel_rfl) (by kernel_rfl) (by kernel_rfl) (by kernel_rfl) (by kernel_rfl) rfl trivial (fun _ _ _ h => h) hM (fun w hC => r_move hl rfl) rfl ?_
        clear hl a; intro a hl
        refine d_take (i := 1) hl rfl (by kernel_rfl) (by kernel_rfl) (by kernel_rfl) (by kernel_rfl) (by kernel_rfl) rfl trivial (fun _ _ _ h => h) hM (fun w hC => r_nilCheck hl rfl) rfl ?_
        clear hl a; intro a hl
        refine d_take (i := 2) hl rfl (by kernel_rfl) (by kernel_rfl) (by kernel_rfl) (by kernel_rfl) (by kernel_rfl) rfl trivial (fun _ _ _ h => h) hM (fun w hC => r_field hl rfl fld66_7) rfl ?_
        clear hl a; intro a hl
        refine d_take (i := 3) hl rfl (by kernel_rfl) (by kernel_rfl) (by kernel_rfl) (by kernel_rfl) (by kernel_rfl) rfl trivial (fun _ _ _ h => h) hM (fun w hC => r_loadC hl rfl one29 hC (by repeat (first | exact find_head | apply find_tail)) (by first | rfl | rfl)) rfl ?_
        clear hl a; intro a hl
        refine d_take (i := 4) hl rfl (by kernel_rfl) (by kernel_rfl) (by kernel_rfl) (by kernel_rfl) (by kernel_rfl) rfl trivial (fun _ _ _ h => h) hM (fun w hC => r_field hl rfl fld40_2) rfl ?_
        clear hl a; intro a hl
        refine d_take (i := 5) hl rfl (by kernel_rfl) (by kernel_rfl) (by kernel_rfl) (by kernel_rfl) (by kernel_rfl) rfl trivial (fun _ _ _ h => h) hM (fun w hC => r_loadC hl rfl one29 hC (by repeat (first | exact find_head | apply find_tail)) (by first | rfl | rfl)) rfl ?_
        clear hl a; intro a hl
        refine d_takeL (i := 6) hl rfl (by kernel_rfl) (by kernel_rfl) (by kernel_rfl) (by kernel_rfl) (by kernel_rfl) rfl trivial (fun _ _ _ h => h) (fun w => r_addM wm_u32 hl rfl rfl) rfl ?_
        clear hl a; intro a hl
        refine d_takeL (i := 7) hl rfl (by kernel_rfl) (by kernel_rfl) (by kernel_rfl) (by kernel_rfl) (by kernel_rfl) rfl trivial (fun _ _ _ h => h) (fun w => r_nilCheck hl rfl) rfl ?_
        clear hl a; intro a hl
        refine d_takeL (i := 8) hl rfl (by kernel_rfl) (by kernel_rfl) (by kernel_rfl) (by kernel_rfl) (by kernel_rfl) rfl trivial (fun _ _ _ h => h) (fun w => r_field hl rfl fld66_7) rfl ?_
        clear hl a; intro a hl
        refine d_one (i := 9) (by kernel_rfl) rfl ?_
        try clear hM
        refine id (w_store hl hh trivial one29 rfl rfl (by repeat (first | exact find_head | apply find_tail)) (by first | (simp; done) | (simp; omega)) (by first | rfl | assumption | (apply Row.one; assumption)) (by first | (simp only [encC, setL, List.getElem?_cons_zero, List.getElem?_cons_succ, Value.cells, List.take_zero, List.take_succ_cons, List.take_nil, List.drop_zero, List.drop_succ_cons, List.drop_nil, List.length_cons, List.length_nil, List.cons_append, List.nil_append, List.append_nil, Nat.zero_add, Nat.add_zero, Nat.reduceAdd, Nat.reduceBEq, Nat.reduceEqDiff, Nat.ble, BEq.rfl, Bool.and_true, Bool.and_self, cond_true, beq_self_eq_true]; rfl) | (simp only [setL, List.getElem?_cons_zero, List.getElem?_cons_succ, Value.cells, List.take_zero, List.take_succ_cons, List.take_nil, List.drop_zero, List.drop_succ_cons, List.drop_nil, List.length_cons, List.length_nil, List.cons_append, List.nil_append, List.append_nil, Nat.zero_add, Nat.add_zero, Nat.reduceAdd, Nat.reduceBEq, Nat.reduceEqDiff, Nat.ble, BEq.rfl, Bool.and_true, Bool.and_self, cond_true, beq_self_eq_true]; rfl)) ?_)
        clear hh w; intro w hh
        refine d_step (fun h => absurd h (by decide)) ?_
        refine d_done (by kernel_rfl) ?_
        try clear hM
        have hl2 := hl.add (t := 0) (hl.nil) rfl; clear hl; have hl := hl2; clear hl2
        refine then_normal ?_
        refine c_seq ?_
        refine c_region ?_
        refine wl (wl_val hl rfl trivial (r_move hl rfl) ?_)
        clear hl a; intro a hl
        refine wl (wl_val hl rfl trivial (r_nilCheck hl rfl) ?_)
        clear hl a; intro a hl
        refine wl (wl_val hl rfl trivial (r_field hl rfl fld66_2) ?_)
        clear hl a; intro a hl
        refine wl (w_load hl hh rfl trivial one64 rfl (by repeat (first | exact find_head | apply find_tail)) (by first | rfl | rfl) ?_)
        clear hl a; intro a hl
        refine wl (wl_val hl rfl trivial (r_neq_pointer hl rfl rfl ptr64) ?_)
        clear hl a; intro a hl
        refine w_nil ?_
        have hl2 := hl.add (t := 0) (hl.add (t := 39) (hl.nil) rfl) rfl; clear hl; have hl := hl2; clear hl2
        refine then_normal ?_
        refine c_cond hl rfl ?_ ?_
        · intro hc2
          try simp only [decide_eq_true_eq, decide_eq_false_iff_not, Bool.not_eq_true', Bool.not_eq_false', Bool.not_eq_true, Bool.not_eq_false, Bool.and_eq_true, Bool.or_eq_true, Bool.and_eq_false_iff, Bool.or_eq_false_iff, Bool.not_not, ne_eq, Int.not_lt, Int.not_le, Decidable.not_not, beq_iff_eq, bne_iff_ne] at hc2
          refine c_draw [(cp, C (encC ({ s with nxt := (s.nxt + n) % 4294967296 }) (some ⟨sb, 0, none⟩)) 66)] [8] mixed hh ?_
          clear hh w; intro w hh
          have hM : Mem [(cp, C (encC ({ s with nxt := (s.nxt + n) % 4294967296 }) (some ⟨sb, 0, none⟩)) 66)] w := (by (repeat (first | exact Mem.nil | refine Mem.cons hh.mem (by (repeat (first | exact find_head | apply find_tail)); done) ?_ | refine Mem.consR hh (by assumption) (by simp) ?_ | fail)); done)
          refine d_take (i := 0) hl rfl (by kernel_rfl) (by kernel_rfl) (by kernel_rfl) (by kernel_rfl) (by kernel_rfl) rfl trivial (fun _ _ _ h => h) hM (fun w hC => r_move hl rfl) rfl ?_
          clear hl a; intro a hl
          refine d_take (i := 1) hl rfl (by kernel_rfl) (by kernel_rfl) (by kernel_rfl) (by kernel_rfl) (by kernel_rfl) rfl trivial (fun _ _ _ h => h) hM (fun w hC => r_nilCheck hl rfl) rfl ?_
          clear hl a; intro a hl
          refine d_take (i := 2) hl rfl (by kernel_rfl) (by kernel_rfl) (by kernel_rfl) (by kernel_rfl) (by kernel_rfl) rfl trivial (fun _ _ _ h => h) hM (fun w hC => r_field hl rfl fld66_2) rfl ?_
          clear hl a; intro a hl
          refine d_take (i := 3) hl rfl (by kernel_rfl) (by kernel_rfl) (by kernel_rfl) (by kernel_rfl) (by kernel_rfl) rfl trivial (fun _ _ _ h => h) hM (fun w hC => r_loadC hl rfl one64 hC (by repeat (first | exact find_head | apply find_tail)) (by first | rfl | rfl)) rfl ?_
          clear hl a; intro a hl
          refine d_take (i := 4) hl rfl (by kernel_rfl) (by kernel_rfl) (by kernel_rfl) (by kernel_rfl) (by kernel_rfl) rfl trivial (fun _ _ _ h => h) hM (fun w hC => r_move hl rfl) rfl ?_
          clear hl a; intro a hl
          refine d_take (i := 5) hl rfl (by kernel_rfl) (by kernel_rfl) (by kernel_rfl) (by kernel_rfl) (by kernel_rfl) rfl trivial (fun _ _ _ h => h) hM (fun w hC => r_nilCheck hl rfl) rfl ?_
          clear hl a; intro a hl
          refine d_take (i := 6) hl rfl (by kernel_rfl) (by kernel_rfl) (by kernel_rfl) (by kernel_rfl) (by kernel_rfl) rfl trivial (fun _ _ _ h => h) hM (fun w hC => r_field hl rfl fld66_7) rfl ?_
          clear hl a; intro a hl
          refine d_take (i := 7) hl rfl (by kernel_rfl) (by kernel_rfl) (by kernel_rfl) (by kernel_rfl) (by kernel_rfl) rfl trivial (fun _ _ _ h => h) hM (fun w hC => r_loadC hl rfl one29 hC (by repeat (first | exact find_head | apply find_tail)) (by first | rfl | rfl)) rfl ?_
          clear hl a; intro a hl
          refine d_one (i := 8) (by kernel_rfl) rfl ?_
          try clear hM
          refine id (w_call hl hh rfl trivial rfl cal38 rfl (sent_spec sb bu s.nxt bv ((s.nxt + n) % 4294967296)) (by repeat (first | exact keeps_nil | apply keeps_cons (by repeat (first | exact find_head | apply find_tail)) (by first  | rfl) | exact keeps_self | apply keeps_mv)) trivial ?_)
          clear hl hh a w; intro vc Fc a w hR hl hh
          obtain ⟨rfl, rfl⟩ := hR
          try simp only [List.cons_append, List.nil_append] at hh
          refine d_step (fun h => absurd h (by decide)) ?_
          refine d_done (by kernel_rfl) ?_
          try clear hM
          have hl2 := hl.nil; clear hl; have hl := hl2; clear hl2
          refine then_normal ?_
          refine wp_ret ?_
          refine then_ret ?_
          refine f_ret0 (F' := [(cp, C (encC (sentP s k q n) (some ⟨sb, 0, none⟩)) 66), (sb, C (bdL bu (sentP s k q n).nxt bv) 85)]) hl hh rfl (by repeat (first | exact keeps_nil | apply keeps_cons (by repeat (first | exact find_head | apply find_tail)) (by first  | (have h9 := sentP_1 (s := s) (k := k) (q := q) (n := n) (by assumption) (by assumption) (by assumption); exact blk_eq (congrArg (fun z => encC z (some ⟨sb, 0, none⟩)) h9.symm)) | (have h9 := sentP_2 (s := s) (k := k) (q := q) (n := n) (by assumption) (by assumption); exact blk_eq (congrArg (fun z => encC z (some ⟨sb, 0, none⟩)) h9.symm)) | (have h9 := sentP_3 (s := s) (k := k) (q := q) (n := n) (by assumption) (by assumption); exact blk_eq (congrArg (fun z => encC z (some ⟨sb, 0, none⟩)) h9.symm)) | (have h9 := sentP_4 (s := s) (k := k) (q := q) (n := n) (by assumption) (by assumption); exact blk_eq (congrArg (fun z => encC z (some ⟨sb, 0, none⟩)) h9.symm)) | (have h9 := sentP_5 (s := s) (k := k) (q := q) (n := n) (by assumption) (by assumption); exact blk_eq (congrArg (fun z => encC z (some ⟨sb, 0, none⟩)) h9.symm)) | (have h9 := sentP_6 (s := s) (k := k) (q := q) (n := n) (by assumption) (by assumption); exact blk_eq (congrArg (fun z => encC z (some ⟨sb, 0, none⟩)) h9.symm)) | (have h9 := sentP_7 (s := s) (k := k) (q := q) (n := n) (by assumption) (by assumption) (by assumption) (by assumption); exact blk_eq (congrArg (fun z => encC z (some ⟨sb, 0, none⟩)) h9.symm)) | (have h9 := (sentP_8 (s := s) (k := k) (q := q) (n := n) (by assumption) (by assumption) (by assumption) (by assumption)).trans (rexP_1 (s := s) (x := (q - s.una) % 4294967296) (e := (q + n) % 4294967296) (by assumption) (by assumption)); exact blk_eq (congrArg (fun z => encC z (some ⟨sb, 0, none⟩)) h9.symm)) | (have h9 := (sentP_8 (s := s) (k := k) (q := q) (n := n) (by assumption) (by assumption) (by assumption) (by assumption)).trans (rexP_2 (s := s) (x := (q - s.una) % 4294967296) (e := (q + n) % 4294967296) (by assumption) (by assumption)); exact blk_eq (congrArg (fun z => encC z (some ⟨sb, 0, none⟩)) h9.symm)) | (have h9 := (sentP_8 (s := s) (k := k) (q := q) (n := n) (by assumption) (by assumption) (by assumption) (by assumption)).trans (rexP_3 (s := s) (x := (q - s.una) % 4294967296) (e := (q + n) % 4294967296) (by assumption) (by assumption)); exact blk_eq (congrArg (fun z => encC z (some ⟨sb, 0, none⟩)) h9.symm)) | (have h9 := (sentP_8 (s := s) (k := k) (q := q) (n := n) (by assumption) (by assumption) (by assumption) (by assumption)).trans (rexP_4 (s := s) (x := (q - s.una) % 4294967296) (e := (q + n) % 4294967296) (by assumption) (by assumption)); exact blk_eq (congrArg (fun z => encC z (some ⟨sb, 0, none⟩)) h9.symm)) | (have h9 := sentP_9 (s := s) (k := k) (q := q) (n := n) (by assumption) (by assumption) (by assumption); exact blk_eq (congrArg (fun z => encC z (some ⟨sb, 0, none⟩)) h9.symm)) | (have h9 := sentP_1 (s := s) (k := k) (q := q) (n := n) (by assumption) (by assumption) (by assumption); exact blk_eq (congrArg (fun z => bdL bu z bv) (congrArg CS.nxt h9).symm)) | (have h9 := sentP_2 (s := s) (k := k) (q := q) (n := n) (by assumption) (by assumption); exact blk_eq (congrArg (fun z => bdL bu z bv) (congrArg CS.nxt h9).symm)) | (have h9 := sentP_3 (s := s) (k := k) (q := q) (n := n) (by assumption) (by assumption); exact blk_eq (congrArg (fun z => bdL bu z bv) (congrArg CS.nxt h9).symm)) | (have h9 := sentP_4 (s := s) (k := k) (q := q) (n := n) (by assumption) (by assumption); exact blk_eq (congrArg (fun z => bdL bu z bv) (congrArg CS.nxt h9).symm)) | (have h9 := sentP_5 (s := s) (k := k) (q := q) (n := n) (by assumption) (by assumption); exact blk_eq (congrArg (fun z => bdL bu z bv) (congrArg CS.nxt h9).symm)) | (have h9 := sentP_6 (s := s) (k := k) (q := q) (n := n) (by assumption) (by assumption); exact blk_eq (congrArg (fun z => bdL bu z bv) (congrArg CS.nxt h9).symm)) | (have h9 := sentP_7 (s := s) (k := k) (q := q) (n := n) (by assumption) (by assumption) (by assumption) (by assumption); exact blk_eq (congrArg (fun z => bdL bu z bv) (congrArg CS.nxt h9).symm)) | (have h9 := (sentP_8 (s := s) (k := k) (q := q) (n := n) (by assumption) (by assumption) (by assumption) (by assumption)).trans (rexP_1 (s := s) (x := (q - s.una) % 4294967296) (e := (q + n) % 4294967296) (by assumption) (by assumption)); exact blk_eq (congrArg (fun z => bdL bu z bv) (congrArg CS.nxt h9).symm)) | (have h9 := (sentP_8 (s := s) (k := k) (q := q) (n := n) (by assumption) (by assumption) (by assumption) (by assumption)).trans (rexP_2 (s := s) (x := (q - s.una) % 4294967296) (e := (q + n) % 4294967296) (by assumption) (by assumption)); exact blk_eq (congrArg (fun z => bdL bu z bv) (congrArg CS.nxt h9).symm)) | (have h9 := (sentP_8 (s := s) (k := k) (q := q) (n := n) (by assumption) (by assumption) (by assumption) (by assumption)).trans (rexP_3 (s := s) (x := (q - s.una) % 4294967296) (e := (q + n) % 4294967296) (by assumption) (by assumption)); exact blk_eq (congrArg (fun z => bdL bu z bv) (congrArg CS.nxt h9).symm)) | (have h9 := (sentP_8 (s := s) (k := k) (q := q) (n := n) (by assumption) (by assumption) (by assumption) (by assumption)).trans (rexP_4 (s := s) (x := (q - s.una) % 4294967296) (e := (q + n) % 4294967296) (by assumption) (by assumption)); exact blk_eq (congrArg (fun z => bdL bu z bv) (congrArg CS.nxt h9).symm)) | (have h9 := sentP_9 (s := s) (k := k) (q := q) (n := n) (by assumption) (by assumption) (by assumption); exact blk_eq (congrArg (fun z => bdL bu z bv) (congrArg CS.nxt h9).symm)) | exact absurd hc2 (by simp) | rfl) | exact keeps_self | apply keeps_mv)) ?_
          exact ⟨rfl, rfl⟩
        · intro hc2
          try simp only [decide_eq_true_eq, decide_eq_false_iff_not, Bool.not_eq_true', Bool.not_eq_false', Bool.not_eq_true, Bool.not_eq_false, Bool.and_eq_true, Bool.or_eq_true, Bool.and_eq_false_iff, Bool.or_eq_false_iff, Bool.not_not, ne_eq, Int.not_lt, Int.not_le, Decidable.not_not, beq_iff_eq, bne_iff_ne] at hc2
          exfalso; first | contradiction | omega | (simp at *; done)
      · intro hc1
        try simp only [decide_eq_true_eq, decide_eq_false_iff_not, Bool.not_eq_true', Bool.not_eq_false', Bool.not_eq_true, Bool.not_eq_false, Bool.and_eq_true, Bool.or_eq_true, Bool.and_eq_false_iff, Bool.or_eq_false_iff, Bool.not_not, ne_eq, Int.not_lt, Int.not_le, Decidable.not_not, beq_iff_eq, bne_iff_ne] at hc1
        refine wp_skip ?_
        refine then_normal ?_
        refine wp_ret ?_
        refine then_ret ?_
        refine f_ret0 (F' := [(cp, C (encC (sentP s k q n) (some ⟨sb, 0, none⟩)) 66), (sb, C (bdL bu (sentP s k q n).nxt bv) 85)]) hl hh rfl (by repeat (first | exact keeps_nil | apply keeps_cons (by repeat (first | exact find_head | apply find_tail)) (by first  | (have h9 := sentP_1 (s := s) (k := k) (q := q) (n := n) (by assumption) (by assumption) (by assumption); exact blk_eq (congrArg (fun z => encC z (some ⟨sb, 0, none⟩)) h9.symm)) | (have h9 := sentP_2 (s := s) (k := k) (q := q) (n := n) (by assumption) (by assumption); exact blk_eq (congrArg (fun z => encC z (some ⟨sb, 0, none⟩)) h9.symm)) | (have h9 := sentP_3 (s := s) (k := k) (q := q) (n := n) (by assumption) (by assumption); exact blk_eq (congrArg (fun z => encC z (some ⟨sb, 0, none⟩)) h9.symm)) | (have h9 := sentP_4 (s := s) (k := k) (q := q) (n := n) (by assumption) (by assumption); exact blk_eq (congrArg (fun z => encC z (some ⟨sb, 0, none⟩)) h9.symm)) | (have h9 := sentP_5 (s := s) (k := k) (q := q) (n := n) (by assumption) (by assumption); exact blk_eq (congrArg (fun z => encC z (some ⟨sb, 0, none⟩)) h9.symm)) | (have h9 := sentP_6 (s := s) (k := k) (q := q) (n := n) (by assumption) (by assumption); exact blk_eq (congrArg (fun z => encC z (some ⟨sb, 0, none⟩)) h9.symm)) | (have h9 := sentP_7 (s := s) (k := k) (q := q) (n := n) (by assumption) (by assumption) (by assumption) (by assumption); exact blk_eq (congrArg (fun z => encC z (some ⟨sb, 0, none⟩)) h9.symm)) | (have h9 := (sentP_8 (s := s) (k := k) (q := q) (n := n) (by assumption) (by assumption) (by assumption) (by assumption)).trans (rexP_1 (s := s) (x := (q - s.una) % 4294967296) (e := (q + n) % 4294967296) (by assumption) (by assumption)); exact blk_eq (congrArg (fun z => encC z (some ⟨sb, 0, none⟩)) h9.symm)) | (have h9 := (sentP_8 (s := s) (k := k) (q := q) (n := n) (by assumption) (by assumption) (by assumption) (by assumption)).trans (rexP_2 (s := s) (x := (q - s.una) % 4294967296) (e := (q + n) % 4294967296) (by assumption) (by assumption)); exact blk_eq (congrArg (fun z => encC z (some ⟨sb, 0, none⟩)) h9.symm)) | (have h9 := (sentP_8 (s := s) (k := k) (q := q) (n := n) (by assumption) (by assumption) (by assumption) (by assumption)).trans (rexP_3 (s := s) (x := (q - s.una) % 4294967296) (e := (q + n) % 4294967296) (by assumption) (by assumption)); exact blk_eq (congrArg (fun z => encC z (some ⟨sb, 0, none⟩)) h9.symm)) | (have h9 := (sentP_8 (s := s) (k := k) (q := q) (n := n) (by assumption) (by assumption) (by assumption) (by assumption)).trans (rexP_4 (s := s) (x := (q - s.una) % 4294967296) (e := (q + n) % 4294967296) (by assumption) (by assumption)); exact blk_eq (congrArg (fun z => encC z (some ⟨sb, 0, none⟩)) h9.symm)) | (have h9 := sentP_9 (s := s) (k := k) (q := q) (n := n) (by assumption) (by assumption) (by assumption); exact blk_eq (congrArg (fun z => encC z (some ⟨sb, 0, none⟩)) h9.symm)) | (have h9 := sentP_1 (s := s) (k := k) (q := q) (n := n) (by assumption) (by assumption) (by assumption); exact blk_eq (congrArg (fun z => bdL bu z bv) (congrArg CS.nxt h9).symm)) | (have h9 := sentP_2 (s := s) (k := k) (q := q) (n := n) (by assumption) (by assumption); exact blk_eq (congrArg (fun z => bdL bu z bv) (congrArg CS.nxt h9).symm)) | (have h9 := sentP_3 (s := s) (k := k) (q := q) (n := n) (by assumption) (by assumption); exact blk_eq (congrArg (fun z => bdL bu z bv) (congrArg CS.nxt h9).symm)) | (have h9 := sentP_4 (s := s) (k := k) (q := q) (n := n) (by assumption) (by assumption); exact blk_eq (congrArg (fun z => bdL bu z bv) (congrArg CS.nxt h9).symm)) | (have h9 := sentP_5 (s := s) (k := k) (q := q) (n := n) (by assumption) (by assumption); exact blk_eq (congrArg (fun z => bdL bu z bv) (congrArg CS.nxt h9).symm)) | (have h9 := sentP_6 (s := s) (k := k) (q := q) (n := n) (by assumption) (by assumption); exact blk_eq (congrArg (fun z => bdL bu z bv) (congrArg CS.nxt h9).symm)) | (have h9 := sentP_7 (s := s) (k := k) (q := q) (n := n) (by assumption) (by assumption) (by assumption) (by assumption); exact blk_eq (congrArg (fun z => bdL bu z bv) (congrArg CS.nxt h9).symm)) | (have h9 := (sentP_8 (s := s) (k := k) (q := q) (n := n) (by assumption) (by assumption) (by assumption) (by assumption)).trans (rexP_1 (s := s) (x := (q - s.una) % 4294967296) (e := (q + n) % 4294967296) (by assumption) (by assumption)); exact blk_eq (congrArg (fun z => bdL bu z bv) (congrArg CS.nxt h9).symm)) | (have h9 := (sentP_8 (s := s) (k := k) (q := q) (n := n) (by assumption) (by assumption) (by assumption) (by assumption)).trans (rexP_2 (s := s) (x := (q - s.una) % 4294967296) (e := (q + n) % 4294967296) (by assumption) (by assumption)); exact blk_eq (congrArg (fun z => bdL bu z bv) (congrArg CS.nxt h9).symm)) | (have h9 := (sentP_8 (s := s) (k := k) (q := q) (n := n) (by assumption) (by assumption) (by assumption) (by assumption)).trans (rexP_3 (s := s) (x := (q - s.una) % 4294967296) (e := (q + n) % 4294967296) (by assumption) (by assumption)); exact blk_eq (congrArg (fun z => bdL bu z bv) (congrArg CS.nxt h9).symm)) | (have h9 := (sentP_8 (s := s) (k := k) (q := q) (n := n) (by assumption) (by assumption) (by assumption) (by assumption)).trans (rexP_4 (s := s) (x := (q - s.una) % 4294967296) (e := (q + n) % 4294967296) (by assumption) (by assumption)); exact blk_eq (congrArg (fun z => bdL bu z bv) (congrArg CS.nxt h9).symm)) | (have h9 := sentP_9 (s := s) (k := k) (q := q) (n := n) (by assumption) (by assumption) (by assumption); exact blk_eq (congrArg (fun z => bdL bu z bv) (congrArg CS.nxt h9).symm)) | exact absurd hc2 (by simp) | rfl) | exact keeps_self | apply keeps_mv)) ?_
        exact ⟨rfl, rfl⟩
    · intro hg1; clear hl; intro hl
      try simp only [decide_eq_true_eq, decide_eq_false_iff_not, Bool.not_eq_true', Bool.not_eq_false', Bool.not_eq_true, Bool.not_eq_false, Bool.and_eq_true, Bool.or_eq_true, Bool.and_eq_false_iff, Bool.or_eq_false_iff, Bool.not_not, ne_eq, Int.not_lt, Int.not_le, Decidable.not_not, beq_iff_eq, bne_iff_ne] at hg1
      refine d_skip (i := 8) hl rfl (by kernel_rfl) (by kernel_rfl) (by kernel_rfl) (by kernel_rfl) (by kernel_rfl) rfl ⟨_, _, rfl, rfl, rfl⟩ (fun _ _ _ h => h) hM ?_
      clear hl a; intro a hl
      refine d_skip (i := 9) hl rfl (by kernel_rfl) (by kernel_rfl) (by kernel_rfl) (by kernel_rfl) (by kernel_rfl) rfl ⟨_, _, rfl, rfl, rfl⟩ (fun _ _ _ h => h) hM ?_
      clear hl a; intro a hl
      refine d_skip (i := 10) hl rfl (by kernel_rfl) (by kernel_rfl) (by kernel_rfl) (by kernel_rfl) (by kernel_rfl) rfl ⟨_, _, rfl, rfl, rfl⟩ (fun _ _ _ h => h) hM ?_
      clear hl a; intro a hl
      refine d_skip (i := 11) hl rfl (by kernel_rfl) (by kernel_rfl) (by kernel_rfl) (by kernel_rfl) (by kernel_rfl) rfl ⟨_, _, rfl, rfl, rfl⟩ (fun _ _ _ h => h) hM ?_
      clear hl a; intro a hl
      refine d_skip (i := 12) hl rfl (by kernel_rfl) (by kernel_rfl) (by kernel_rfl) (by kernel_rfl) (by kernel_rfl) rfl ⟨_, _, rfl, rfl, rfl⟩ (fun _ _ _ h => h) hM ?_
      clear hl a; intro a hl
      refine d_takeL (i := 13) hl rfl (by kernel_rfl) (by kernel_rfl) (by kernel_rfl) (by kernel_rfl) (by kernel_rfl) rfl trivial (fun _ _ _ h => h) (fun w => r_pickF hl rfl rfl) rfl ?_
      clear hl a; intro a hl
      refine d_done (by kernel_rfl) ?_
      try clear hM
      have hl2 := hl.add (t := 0) (hl.add (t := 3) (hl.add (t := 25) (hl.nil) rfl) rfl) rfl; clear hl; have hl := hl2; clear hl2
      refine then_normal ?_
      refine c_condF hl rfl ?_
      refine wp_skip ?_
      refine then_normal ?_
      refine wp_ret ?_
      refine then_ret ?_
      refine f_ret0 (F' := [(cp, C (encC (sentP s k q n) (some ⟨sb, 0, none⟩)) 66), (sb, C (bdL bu (sentP s k q n).nxt bv) 85)]) hl hh rfl (by repeat (first | exact keeps_nil | apply keeps_cons (by repeat (first | exact find_head | apply find_tail)) (by first  | (have h9 := sentP_1 (s := s) (k := k) (q := q) (n := n) (by assumption) (by assumption) (by assumption); exact blk_eq (congrArg (fun z => encC z (some ⟨sb, 0, none⟩)) h9.symm)) | (have h9 := sentP_2 (s := s) (k := k) (q := q) (n := n) (by assumption) (by assumption); exact blk_eq (congrArg (fun z => encC z (some ⟨sb, 0, none⟩)) h9.symm)) | (have h9 := sentP_3 (s := s) (k := k) (q := q) (n := n) (by assumption) (by assumption); exact blk_eq (congrArg (fun z => encC z (some ⟨sb, 0, none⟩)) h9.symm)) | (have h9 := sentP_4 (s := s) (k := k) (q := q) (n := n) (by assumption) (by assumption); exact blk_eq (congrArg (fun z => encC z (some ⟨sb, 0, none⟩)) h9.symm)) | (have h9 := sentP_5 (s := s) (k := k) (q := q) (n := n) (by assumption) (by assumption); exact blk_eq (congrArg (fun z => encC z (some ⟨sb, 0, none⟩)) h9.symm)) | (have h9 := sentP_6 (s := s) (k := k) (q := q) (n := n) (by assumption) (by assumption); exact blk_eq (congrArg (fun z => encC z (some ⟨sb, 0, none⟩)) h9.symm)) | (have h9 := sentP_7 (s := s) (k := k) (q := q) (n := n) (by assumption) (by assumption) (by assumption) (by assumption); exact blk_eq (congrArg (fun z => encC z (some ⟨sb, 0, none⟩)) h9.symm)) | (have h9 := (sentP_8 (s := s) (k := k) (q := q) (n := n) (by assumption) (by assumption) (by assumption) (by assumption)).trans (rexP_1 (s := s) (x := (q - s.una) % 4294967296) (e := (q + n) % 4294967296) (by assumption) (by assumption)); exact blk_eq (congrArg (fun z => encC z (some ⟨sb, 0, none⟩)) h9.symm)) | (have h9 := (sentP_8 (s := s) (k := k) (q := q) (n := n) (by assumption) (by assumption) (by assumption) (by assumption)).trans (rexP_2 (s := s) (x := (q - s.una) % 4294967296) (e := (q + n) % 4294967296) (by assumption) (by assumption)); exact blk_eq (congrArg (fun z => encC z (some ⟨sb, 0, none⟩)) h9.symm)) | (have h9 := (sentP_8 (s := s) (k := k) (q := q) (n := n) (by assumption) (by assumption) (by assumption) (by assumption)).trans (rexP_3 (s := s) (x := (q - s.una) % 4294967296) (e := (q + n) % 4294967296) (by assumption) (by assumption)); exact blk_eq (congrArg (fun z => encC z (some ⟨sb, 0, none⟩)) h9.symm)) | (have h9 := (sentP_8 (s := s) (k := k) (q := q) (n := n) (by assumption) (by assumption) (by assumption) (by assumption)).trans (rexP_4 (s := s) (x := (q - s.una) % 4294967296) (e := (q + n) % 4294967296) (by assumption) (by assumption)); exact blk_eq (congrArg (fun z => encC z (some ⟨sb, 0, none⟩)) h9.symm)) | (have h9 := sentP_9 (s := s) (k := k) (q := q) (n := n) (by assumption) (by assumption) (by assumption); exact blk_eq (congrArg (fun z => encC z (some ⟨sb, 0, none⟩)) h9.symm)) | (have h9 := sentP_1 (s := s) (k := k) (q := q) (n := n) (by assumption) (by assumption) (by assumption); exact blk_eq (congrArg (fun z => bdL bu z bv) (congrArg CS.nxt h9).symm)) | (have h9 := sentP_2 (s := s) (k := k) (q := q) (n := n) (by assumption) (by assumption); exact blk_eq (congrArg (fun z => bdL bu z bv) (congrArg CS.nxt h9).symm)) | (have h9 := sentP_3 (s := s) (k := k) (q := q) (n := n) (by assumption) (by assumption); exact blk_eq (congrArg (fun z => bdL bu z bv) (congrArg CS.nxt h9).symm)) | (have h9 := sentP_4 (s := s) (k := k) (q := q) (n := n) (by assumption) (by assumption); exact blk_eq (congrArg (fun z => bdL bu z bv) (congrArg CS.nxt h9).symm)) | (have h9 := sentP_5 (s := s) (k := k) (q := q) (n := n) (by assumption) (by assumption); exact blk_eq (congrArg (fun z => bdL bu z bv) (congrArg CS.nxt h9).symm)) | (have h9 := sentP_6 (s := s) (k := k) (q := q) (n := n) (by assumption) (by assumption); exact blk_eq (congrArg (fun z => bdL bu z bv) (congrArg CS.nxt h9).symm)) | (have h9 := sentP_7 (s := s) (k := k) (q := q) (n := n) (by assumption) (by assumption) (by assumption) (by assumption); exact blk_eq (congrArg (fun z => bdL bu z bv) (congrArg CS.nxt h9).symm)) | (have h9 := (sentP_8 (s := s) (k := k) (q := q) (n := n) (by assumption) (by assumption) (by assumption) (by assumption)).trans (rexP_1 (s := s) (x := (q - s.una) % 4294967296) (e := (q + n) % 4294967296) (by assumption) (by assumption)); exact blk_eq (congrArg (fun z => bdL bu z bv) (congrArg CS.nxt h9).symm)) | (have h9 := (sentP_8 (s := s) (k := k) (q := q) (n := n) (by assumption) (by assumption) (by assumption) (by assumption)).trans (rexP_2 (s := s) (x := (q - s.una) % 4294967296) (e := (q + n) % 4294967296) (by assumption) (by assumption)); exact blk_eq (congrArg (fun z => bdL bu z bv) (congrArg CS.nxt h9).symm)) | (have h9 := (sentP_8 (s := s) (k := k) (q := q) (n := n) (by assumption) (by assumption) (by assumption) (by assumption)).trans (rexP_3 (s := s) (x := (q - s.una) % 4294967296) (e := (q + n) % 4294967296) (by assumption) (by assumption)); exact blk_eq (congrArg (fun z => bdL bu z bv) (congrArg CS.nxt h9).symm)) | (have h9 := (sentP_8 (s := s) (k := k) (q := q) (n := n) (by assumption) (by assumption) (by assumption) (by assumption)).trans (rexP_4 (s := s) (x := (q - s.una) % 4294967296) (e := (q + n) % 4294967296) (by assumption) (by assumption)); exact blk_eq (congrArg (fun z => bdL bu z bv) (congrArg CS.nxt h9).symm)) | (have h9 := sentP_9 (s := s) (k := k) (q := q) (n := n) (by assumption) (by assumption) (by assumption); exact blk_eq (congrArg (fun z => bdL bu z bv) (congrArg CS.nxt h9).symm)) | exact absurd hc2 (by simp) | rfl) | exact keeps_self | apply keeps_mv)) ?_
      exact ⟨rfl, rfl⟩
  · intro hc0
    try simp only [decide_eq_true_eq, decide_eq_false_iff_not, Bool.not_eq_true', Bool.not_eq_false', Bool.not_eq_true, Bool.not_eq_false, Bool.and_eq_true, Bool.or_eq_true, Bool.and_eq_false_iff, Bool.or_eq_false_iff, Bool.not_not, ne_eq, Int.not_lt, Int.not_le, Decidable.not_not, beq_iff_eq, bne_iff_ne] at hc0
    refine wp_skip ?_
    refine then_normal ?_
    refine c_seq ?_
    refine c_draw [(k3, C [.int .u8 k, .int .u32 q, .int .u32 n] 40), (cp, C (encC (s) (some ⟨sb, 0, none⟩)) 66)] [6, 7] mixed hh ?_
    clear hh w; intro w hh
    have hM : Mem [(k3, C [.int .u8 k, .int .u32 q, .int .u32 n] 40), (cp, C (encC (s) (some ⟨sb, 0, none⟩)) 66)] w := (by (repeat (first | exact Mem.nil | refine Mem.cons hh.mem (by (repeat (first | exact find_head | apply find_tail)); done) ?_ | refine Mem.consR hh (by assumption) (by simp) ?_ | fail)); done)
    refine d_take (i := 0) hl rfl (by kernel_rfl) (by kernel_rfl) (by kernel_rfl) (by kernel_rfl) (by kernel_rfl) rfl trivial (fun _ _ _ h => h) hM (fun w hC => r_field hl rfl fld40_1) rfl ?_
    clear hl a; intro a hl
    refine d_take (i := 1) hl rfl (by kernel_rfl) (by kernel_rfl) (by kernel_rfl) (by kernel_rfl) (by kernel_rfl) rfl trivial (fun _ _ _ h => h) hM (fun w hC => r_loadC hl rfl one29 hC (by repeat (first | exact find_head | apply find_tail)) (by first | rfl | rfl)) rfl ?_
    clear hl a; intro a hl
    refine d_take (i := 2) hl rfl (by kernel_rfl) (by kernel_rfl) (by kernel_rfl) (by kernel_rfl) (by kernel_rfl) rfl trivial (fun _ _ _ h => h) hM (fun w hC => r_move hl rfl) rfl ?_
    clear hl a; intro a hl
    refine d_take (i := 3) hl rfl (by kernel_rfl) (by kernel_rfl) (by kernel_rfl) (by kernel_rfl) (by kernel_rfl) rfl trivial (fun _ _ _ h => h) hM (fun w hC => r_nilCheck hl rfl) rfl ?_
    clear hl a; intro a hl
    refine d_take (i := 4) hl rfl (by kernel_rfl) (by kernel_rfl) (by kernel_rfl) (by kernel_rfl) (by kernel_rfl) rfl trivial (fun _ _ _ h => h) hM (fun w hC => r_field hl rfl fld66_6) rfl ?_
    clear hl a; intro a hl
    refine d_take (i := 5) hl rfl (by kernel_rfl) (by kernel_rfl) (by kernel_rfl) (by kernel_rfl) (by kernel_rfl) rfl trivial (fun _ _ _ h => h) hM (fun w hC => r_loadC hl rfl one29 hC (by repeat (first | exact find_head | apply find_tail)) (by first | rfl | rfl)) rfl ?_
    clear hl a; intro a hl
    refine d_takeL (i := 6) hl rfl (by kernel_rfl) (by kernel_rfl) (by kernel_rfl) (by kernel_rfl) (by kernel_rfl) rfl trivial (fun _ _ _ h => h) (fun w => r_subM wm_u32 hl rfl rfl) rfl ?_
    clear hl a; intro a hl
    refine d_takeL (i := 7) hl rfl (by kernel_rfl) (by kernel_rfl) (by kernel_rfl) (by kernel_rfl) (by kernel_rfl) rfl trivial (fun _ _ _ h => h) (fun w => r_assign hl rfl) rfl ?_
    clear hl a; intro a hl
    refine d_done (by kernel_rfl) ?_
    try clear hM
    have hl2 := hl.add (t := 0) (hl.add (t := 3) (hl.add (t := 4) (hl.add (t := 5) (hl.nil) rfl) rfl) rfl) rfl; clear hl; have hl := hl2; clear hl2
    refine then_normal ?_
    refine c_seq ?_
    refine c_seq ?_
    refine c_region ?_
    refine wl (wl_val hl rfl trivial (r_field hl rfl fld40_2) ?_)
    clear hl a; intro a hl
    refine wl (w_load hl hh rfl trivial one29 rfl (by repeat (first | exact find_head | apply find_tail)) (by first | rfl | rfl) ?_)
    clear hl a; intro a hl
    refine wl (wl_val hl rfl trivial (r_eql hl rfl rfl) ?_)
    clear hl a; intro a hl
    refine wl (wl_val hl rfl trivial (r_move hl rfl) ?_)
    clear hl a; intro a hl
    refine sl_split (t := 59) hl rfl ?_ ?_
    · intro hg2; clear hl; intro hl
      try simp only [decide_eq_true_eq, decide_eq_false_iff_not, Bool.not_eq_true', Bool.not_eq_false', Bool.not_eq_true, Bool.not_eq_false, Bool.and_eq_true, Bool.or_eq_true, Bool.and_eq_false_iff, Bool.or_eq_false_iff, Bool.not_not, ne_eq, Int.not_lt, Int.not_le, Decidable.not_not, beq_iff_eq, bne_iff_ne] at hg2
      refine wl (wl_skip hl rfl ⟨_, _, rfl, rfl, rfl⟩ ?_)
      clear hl a; intro a hl
      refine wl (wl_skip hl rfl ⟨_, _, rfl, rfl, rfl⟩ ?_)
      clear hl a; intro a hl
      refine wl (wl_skip hl rfl ⟨_, _, rfl, rfl, rfl⟩ ?_)
      clear hl a; intro a hl
      refine wl (wl_val hl rfl trivial (r_pickT hl rfl rfl) ?_)
      clear hl a; intro a hl
      refine wl (wl_val hl rfl trivial (r_move hl rfl) ?_)
      clear hl a; intro a hl
      refine wl (wl_skip hl rfl ⟨_, _, rfl, rfl, rfl⟩ ?_)
      clear hl a; intro a hl
      refine wl (wl_skip hl rfl ⟨_, _, rfl, rfl, rfl⟩ ?_)
      clear hl a; intro a hl
      refine wl (wl_skip hl rfl ⟨_, _, rfl, rfl, rfl⟩ ?_)
      clear hl a; intro a hl
      refine wl (wl_skip hl rfl ⟨_, _, rfl, rfl, rfl⟩ ?_)
      clear hl a; intro a hl
      refine wl (wl_skip hl rfl ⟨_, _, rfl, rfl, rfl⟩ ?_)
      clear hl a; intro a hl
      refine wl (wl_skip hl rfl ⟨_, _, rfl, rfl, rfl⟩ ?_)
      clear hl a; intro a hl
      refine wl (wl_val hl rfl trivial (r_pickT hl rfl rfl) ?_)
      clear hl a; intro a hl
      refine w_nil ?_
      have hl2 := hl.add (t := 0) (hl.add (t := 3) (hl.add (t := 5) (hl.add (t := 71) (hl.nil) rfl) rfl) rfl) rfl; clear hl; have hl := hl2; clear hl2
      refine then_normal ?_
      refine c_condT hl rfl ?_
      refine wp_ret ?_
      refine then_ret ?_
      refine f_ret0 (F' := [(cp, C (encC (sentP s k q n) (some ⟨sb, 0, none⟩)) 66), (sb, C (bdL bu (sentP s k q n).nxt bv) 85)]) hl hh rfl (by repeat (first | exact keeps_nil | apply keeps_cons (by repeat (first | exact find_head | apply find_tail)) (by first  | (have h9 := sentP_1 (s := s) (k := k) (q := q) (n := n) (by assumption) (by assumption) (by assumption); exact blk_eq (congrArg (fun z => encC z (some ⟨sb, 0, none⟩)) h9.symm)) | (have h9 := sentP_2 (s := s) (k := k) (q := q) (n := n) (by assumption) (by assumption); exact blk_eq (congrArg (fun z => encC z (some ⟨sb, 0, none⟩)) h9.symm)) | (have h9 := sentP_3 (s := s) (k := k) (q := q) (n := n) (by assumption) (by assumption); exact blk_eq (congrArg (fun z => encC z (some ⟨sb, 0, none⟩)) h9.symm)) | (have h9 := sentP_4 (s := s) (k := k) (q := q) (n := n) (by assumption) (by assumption); exact blk_eq (congrArg (fun z => encC z (some ⟨sb, 0, none⟩)) h9.symm)) | (have h9 := sentP_5 (s := s) (k := k) (q := q) (n := n) (by assumption) (by assumption); exact blk_eq (congrArg (fun z => encC z (some ⟨sb, 0, none⟩)) h9.symm)) | (have h9 := sentP_6 (s := s) (k := k) (q := q) (n := n) (by assumption) (by assumption); exact blk_eq (congrArg (fun z => encC z (some ⟨sb, 0, none⟩)) h9.symm)) | (have h9 := sentP_7 (s := s) (k := k) (q := q) (n := n) (by assumption) (by assumption) (by assumption) (by assumption); exact blk_eq (congrArg (fun z => encC z (some ⟨sb, 0, none⟩)) h9.symm)) | (have h9 := (sentP_8 (s := s) (k := k) (q := q) (n := n) (by assumption) (by assumption) (by assumption) (by assumption)).trans (rexP_1 (s := s) (x := (q - s.una) % 4294967296) (e := (q + n) % 4294967296) (by assumption) (by assumption)); exact blk_eq (congrArg (fun z => encC z (some ⟨sb, 0, none⟩)) h9.symm)) | (have h9 := (sentP_8 (s := s) (k := k) (q := q) (n := n) (by assumption) (by assumption) (by assumption) (by assumption)).trans (rexP_2 (s := s) (x := (q - s.una) % 4294967296) (e := (q + n) % 4294967296) (by assumption) (by assumption)); exact blk_eq (congrArg (fun z => encC z (some ⟨sb, 0, none⟩)) h9.symm)) | (have h9 := (sentP_8 (s := s) (k := k) (q := q) (n := n) (by assumption) (by assumption) (by assumption) (by assumption)).trans (rexP_3 (s := s) (x := (q - s.una) % 4294967296) (e := (q + n) % 4294967296) (by assumption) (by assumption)); exact blk_eq (congrArg (fun z => encC z (some ⟨sb, 0, none⟩)) h9.symm)) | (have h9 := (sentP_8 (s := s) (k := k) (q := q) (n := n) (by assumption) (by assumption) (by assumption) (by assumption)).trans (rexP_4 (s := s) (x := (q - s.una) % 4294967296) (e := (q + n) % 4294967296) (by assumption) (by assumption)); exact blk_eq (congrArg (fun z => encC z (some ⟨sb, 0, none⟩)) h9.symm)) | (have h9 := sentP_9 (s := s) (k := k) (q := q) (n := n) (by assumption) (by assumption) (by assumption); exact blk_eq (congrArg (fun z => encC z (some ⟨sb, 0, none⟩)) h9.symm)) | (have h9 := sentP_1 (s := s) (k := k) (q := q) (n := n) (by assumption) (by assumption) (by assumption); exact blk_eq (congrArg (fun z => bdL bu z bv) (congrArg CS.nxt h9).symm)) | (have h9 := sentP_2 (s := s) (k := k) (q := q) (n := n) (by assumption) (by assumption); exact blk_eq (congrArg (fun z => bdL bu z bv) (congrArg CS.nxt h9).symm)) | (have h9 := sentP_3 (s := s) (k := k) (q := q) (n := n) (by assumption) (by assumption); exact blk_eq (congrArg (fun z => bdL bu z bv) (congrArg CS.nxt h9).symm)) | (have h9 := sentP_4 (s := s) (k := k) (q := q) (n := n) (by assumption) (by assumption); exact blk_eq (congrArg (fun z => bdL bu z bv) (congrArg CS.nxt h9).symm)) | (have h9 := sentP_5 (s := s) (k := k) (q := q) (n := n) (by assumption) (by assumption); exact blk_eq (congrArg (fun z => bdL bu z bv) (congrArg CS.nxt h9).symm)) | (have h9 := sentP_6 (s := s) (k := k) (q := q) (n := n) (by assumption) (by assumption); exact blk_eq (congrArg (fun z => bdL bu z bv) (congrArg CS.nxt h9).symm)) | (have h9 := sentP_7 (s := s) (k := k) (q := q) (n := n) (by assumption) (by assumption) (by assumption) (by assumption); exact blk_eq (congrArg (fun z => bdL bu z bv) (congrArg CS.nxt h9).symm)) | (have h9 := (sentP_8 (s := s) (k := k) (q := q) (n := n) (by assumption) (by assumption) (by assumption) (by assumption)).trans (rexP_1 (s := s) (x := (q - s.una) % 4294967296) (e := (q + n) % 4294967296) (by assumption) (by assumption)); exact blk_eq (congrArg (fun z => bdL bu z bv) (congrArg CS.nxt h9).symm)) | (have h9 := (sentP_8 (s := s) (k := k) (q := q) (n := n) (by assumption) (by assumption) (by assumption) (by assumption)).trans (rexP_2 (s := s) (x := (q - s.una) % 4294967296) (e := (q + n) % 4294967296) (by assumption) (by assumption)); exact blk_eq (congrArg (fun z => bdL bu z bv) (congrArg CS.nxt h9).symm)) | (have h9 := (sentP_8 (s := s) (k := k) (q := q) (n := n) (by assumption) (by assumption) (by assumption) (by assumption)).trans (rexP_3 (s := s) (x := (q - s.una) % 4294967296) (e := (q + n) % 4294967296) (by assumption) (by assumption)); exact blk_eq (congrArg (fun z => bdL bu z bv) (congrArg CS.nxt h9).symm)) | (have h9 := (sentP_8 (s := s) (k := k) (q := q) (n := n) (by assumption) (by assumption) (by assumption) (by assumption)).trans (rexP_4 (s := s) (x := (q - s.una) % 4294967296) (e := (q + n) % 4294967296) (by assumption) (by assumption)); exact blk_eq (congrArg (fun z => bdL bu z bv) (congrArg CS.nxt h9).symm)) | (have h9 := sentP_9 (s := s) (k := k) (q := q) (n := n) (by assumption) (by assumption) (by assumption); exact blk_eq (congrArg (fun z => bdL bu z bv) (congrArg CS.nxt h9).symm)) | exact absurd hc2 (by simp) | rfl) | exact keeps_self | apply keeps_mv)) ?_
      exact ⟨rfl, rfl⟩
    · intro hg2; clear hl; intro hl
      try simp only [decide_eq_true_eq, decide_eq_false_iff_not, Bool.not_eq_true', Bool.not_eq_false', Bool.not_eq_true, Bool.not_eq_false, Bool.and_eq_true, Bool.or_eq_true, Bool.and_eq_false_iff, Bool.or_eq_false_iff, Bool.not_not, ne_eq, Int.not_lt, Int.not_le, Decidable.not_not, beq_iff_eq, bne_iff_ne] at hg2
      refine wl (wl_val hl rfl ⟨_, _, rfl, rfl, rfl⟩ (r_move hl rfl) ?_)
      clear hl a; intro a hl
      refine wl (wl_val hl rfl ⟨_, _, rfl, rfl, rfl⟩ (r_move hl rfl) ?_)
      clear hl a; intro a hl
      refine wl (wl_val hl rfl ⟨_, _, rfl, rfl, rfl⟩ (r_geq hl rfl rfl) ?_)
      clear hl a; intro a hl
      refine wl (wl_val hl rfl trivial (r_pickF hl rfl rfl) ?_)
      clear hl a; intro a hl
      refine wl (wl_val hl rfl trivial (r_move hl rfl) ?_)
      clear hl a; intro a hl
      refine sl_split (t := 64) hl rfl ?_ ?_
      · intro hg3; clear hl; intro hl
        try simp only [decide_eq_true_eq, decide_eq_false_iff_not, Bool.not_eq_true', Bool.not_eq_false', Bool.not_eq_true, Bool.not_eq_false, Bool.and_eq_true, Bool.or_eq_true, Bool.and_eq_false_iff, Bool.or_eq_false_iff, Bool.not_not, ne_eq, Int.not_lt, Int.not_le, Decidable.not_not, beq_iff_eq, bne_iff_ne] at hg3
        refine wl (wl_skip hl rfl ⟨_, _, rfl, rfl, rfl⟩ ?_)
        clear hl a; intro a hl
        refine wl (wl_skip hl rfl ⟨_, _, rfl, rfl, rfl⟩ ?_)
        clear hl a; intro a hl
        refine wl (wl_skip hl rfl ⟨_, _, rfl, rfl, rfl⟩ ?_)
        clear hl a; intro a hl
        refine wl (wl_skip hl rfl ⟨_, _, rfl, rfl, rfl⟩ ?_)
        clear hl a; intro a hl
        refine wl (wl_skip hl rfl ⟨_, _, rfl, rfl, rfl⟩ ?_)
        clear hl a; intro a hl
        refine wl (wl_skip hl rfl ⟨_, _, rfl, rfl, rfl⟩ ?_)
        clear hl a; intro a hl
        refine wl (wl_val hl rfl trivial (r_pickT hl rfl rfl) ?_)
        clear hl a; intro a hl
        refine w_nil ?_
        have hl2 := hl.add (t := 0) (hl.add (t := 3) (hl.add (t := 5) (hl.add (t := 71) (hl.nil) rfl) rfl) rfl) rfl; clear hl; have hl := hl2; clear hl2
        refine then_normal ?_
        refine c_condT hl rfl ?_
        refine wp_ret ?_
        refine then_ret ?_
        refine f_ret0 (F' := [(cp, C (encC (sentP s k q n) (some ⟨sb, 0, none⟩)) 66), (sb, C (bdL bu (sentP s k q n).nxt bv) 85)]) hl hh rfl (by repeat (first | exact keeps_nil | apply keeps_cons (by repeat (first | exact find_head | apply find_tail)) (by first  | (have h9 := sentP_1 (s := s) (k := k) (q := q) (n := n) (by assumption) (by assumption) (by assumption); exact blk_eq (congrArg (fun z => encC z (some ⟨sb, 0, none⟩)) h9.symm)) | (have h9 := sentP_2 (s := s) (k := k) (q := q) (n := n) (by assumption) (by assumption); exact blk_eq (congrArg (fun z => encC z (some ⟨sb, 0, none⟩)) h9.symm)) | (have h9 := sentP_3 (s := s) (k := k) (q := q) (n := n) (by assumption) (by assumption); exact blk_eq (congrArg (fun z => encC z (some ⟨sb, 0, none⟩)) h9.symm)) | (have h9 := sentP_4 (s := s) (k := k) (q := q) (n := n) (by assumption) (by assumption); exact blk_eq (congrArg (fun z => encC z (some ⟨sb, 0, none⟩)) h9.symm)) | (have h9 := sentP_5 (s := s) (k := k) (q := q) (n := n) (by assumption) (by assumption); exact blk_eq (congrArg (fun z => encC z (some ⟨sb, 0, none⟩)) h9.symm)) | (have h9 := sentP_6 (s := s) (k := k) (q := q) (n := n) (by assumption) (by assumption); exact blk_eq (congrArg (fun z => encC z (some ⟨sb, 0, none⟩)) h9.symm)) | (have h9 := sentP_7 (s := s) (k := k) (q := q) (n := n) (by assumption) (by assumption) (by assumption) (by assumption); exact blk_eq (congrArg (fun z => encC z (some ⟨sb, 0, none⟩)) h9.symm)) | (have h9 := (sentP_8 (s := s) (k := k) (q := q) (n := n) (by assumption) (by assumption) (by assumption) (by assumption)).trans (rexP_1 (s := s) (x := (q - s.una) % 4294967296) (e := (q + n) % 4294967296) (by assumption) (by assumption)); exact blk_eq (congrArg (fun z => encC z (some ⟨sb, 0, none⟩)) h9.symm)) | (have h9 := (sentP_8 (s := s) (k := k) (q := q) (n := n) (by assumption) (by assumption) (by assumption) (by assumption)).trans (rexP_2 (s := s) (x := (q - s.una) % 4294967296) (e := (q + n) % 4294967296) (by assumption) (by assumption)); exact blk_eq (congrArg (fun z => encC z (some ⟨sb, 0, none⟩)) h9.symm)) | (have h9 := (sentP_8 (s := s) (k := k) (q := q) (n := n) (by assumption) (by assumption) (by assumption) (by assumption)).trans (rexP_3 (s := s) (x := (q - s.una) % 4294967296) (e := (q + n) % 4294967296) (by assumption) (by assumption)); exact blk_eq (congrArg (fun z => encC z (some ⟨sb, 0, none⟩)) h9.symm)) | (have h9 := (sentP_8 (s := s) (k := k) (q := q) (n := n) (by assumption) (by assumption) (by assumption) (by assumption)).trans (rexP_4 (s := s) (x := (q - s.una) % 4294967296) (e := (q + n) % 4294967296) (by assumption) (by assumption)); exact blk_eq (congrArg (fun z => encC z (some ⟨sb, 0, none⟩)) h9.symm)) | (have h9 := sentP_9 (s := s) (k := k) (q := q) (n := n) (by assumption) (by assumption) (by assumption); exact blk_eq (congrArg (fun z => encC z (some ⟨sb, 0, none⟩)) h9.symm)) | (have h9 := sentP_1 (s := s) (k := k) (q := q) (n := n) (by assumption) (by assumption) (by assumption); exact blk_eq (congrArg (fun z => bdL bu z bv) (congrArg CS.nxt h9).symm)) | (have h9 := sentP_2 (s := s) (k := k) (q := q) (n := n) (by assumption) (by assumption); exact blk_eq (congrArg (fun z => bdL bu z bv) (congrArg CS.nxt h9).symm)) | (have h9 := sentP_3 (s := s) (k := k) (q := q) (n := n) (by assumption) (by assumption); exact blk_eq (congrArg (fun z => bdL bu z bv) (congrArg CS.nxt h9).symm)) | (have h9 := sentP_4 (s := s) (k := k) (q := q) (n := n) (by assumption) (by assumption); exact blk_eq (congrArg (fun z => bdL bu z bv) (congrArg CS.nxt h9).symm)) | (have h9 := sentP_5 (s := s) (k := k) (q := q) (n := n) (by assumption) (by assumption); exact blk_eq (congrArg (fun z => bdL bu z bv) (congrArg CS.nxt h9).symm)) | (have h9 := sentP_6 (s := s) (k := k) (q := q) (n := n) (by assumption) (by assumption); exact blk_eq (congrArg (fun z => bdL bu z bv) (congrArg CS.nxt h9).symm)) | (have h9 := sentP_7 (s := s) (k := k) (q := q) (n := n) (by assumption) (by assumption) (by assumption) (by assumption); exact blk_eq (congrArg (fun z => bdL bu z bv) (congrArg CS.nxt h9).symm)) | (have h9 := (sentP_8 (s := s) (k := k) (q := q) (n := n) (by assumption) (by assumption) (by assumption) (by assumption)).trans (rexP_1 (s := s) (x := (q - s.una) % 4294967296) (e := (q + n) % 4294967296) (by assumption) (by assumption)); exact blk_eq (congrArg (fun z => bdL bu z bv) (congrArg CS.nxt h9).symm)) | (have h9 := (sentP_8 (s := s) (k := k) (q := q) (n := n) (by assumption) (by assumption) (by assumption) (by assumption)).trans (rexP_2 (s := s) (x := (q - s.una) % 4294967296) (e := (q + n) % 4294967296) (by assumption) (by assumption)); exact blk_eq (congrArg (fun z => bdL bu z bv) (congrArg CS.nxt h9).symm)) | (have h9 := (sentP_8 (s := s) (k := k) (q := q) (n := n) (by assumption) (by assumption) (by assumption) (by assumption)).trans (rexP_3 (s := s) (x := (q - s.una) % 4294967296) (e := (q + n) % 4294967296) (by assumption) (by assumption)); exact blk_eq (congrArg (fun z => bdL bu z bv) (congrArg CS.nxt h9).symm)) | (have h9 := (sentP_8 (s := s) (k := k) (q := q) (n := n) (by assumption) (by assumption) (by assumption) (by assumption)).trans (rexP_4 (s := s) (x := (q - s.una) % 4294967296) (e := (q + n) % 4294967296) (by assumption) (by assumption)); exact blk_eq (congrArg (fun z => bdL bu z bv) (congrArg CS.nxt h9).symm)) | (have h9 := sentP_9 (s := s) (k := k) (q := q) (n := n) (by assumption) (by assumption) (by assumption); exact blk_eq (congrArg (fun z => bdL bu z bv) (congrArg CS.nxt h9).symm)) | exact absurd hc2 (by simp) | rfl) | exact keeps_self | apply keeps_mv)) ?_
        exact ⟨rfl, rfl⟩
      · intro hg3; clear hl; intro hl
        try simp only [decide_eq_true_eq, decide_eq_false_iff_not, Bool.not_eq_true', Bool.not_eq_false', Bool.not_eq_true, Bool.not_eq_false, Bool.and_eq_true, Bool.or_eq_true, Bool.and_eq_false_iff, Bool.or_eq_false_iff, Bool.not_not, ne_eq, Int.not_lt, Int.not_le, Decidable.not_not, beq_iff_eq, bne_iff_ne] at hg3
        refine wl (wl_val hl rfl ⟨_, _, rfl, rfl, rfl⟩ (r_field hl rfl fld40_2) ?_)
        clear hl a; intro a hl
        refine wl (w_load hl hh rfl ⟨_, _, rfl, rfl, rfl⟩ one29 rfl (by repeat (first | exact find_head | apply find_tail)) (by first | rfl | rfl) ?_)
        clear hl a; intro a hl
        refine wl (wl_val hl rfl ⟨_, _, rfl, rfl, rfl⟩ (r_move hl rfl) ?_)
        clear hl a; intro a hl
        refine wl (wl_val hl rfl ⟨_, _, rfl, rfl, rfl⟩ (r_move hl rfl) ?_)
        clear hl a; intro a hl
        first | refine wl (wl_val hl rfl ⟨_, _, rfl, rfl, rfl⟩ (r_sub hl rfl rfl (by simp only [Fits]; omega)) ?_) | refine wl (wl_val hl rfl ⟨_, _, rfl, rfl, rfl⟩ (r_subM wm_u32 hl rfl rfl) ?_)
        clear hl a; intro a hl
        refine wl (wl_val hl rfl ⟨_, _, rfl, rfl, rfl⟩ (r_gtr hl rfl rfl) ?_)
        clear hl a; intro a hl
        refine wl (wl_val hl rfl trivial (r_pickF hl rfl rfl) ?_)
        clear hl a; intro a hl
        refine w_nil ?_
        have hl2 := hl.add (t := 0) (hl.add (t := 3) (hl.add (t := 5) (hl.add (t := 71) (hl.nil) rfl) rfl) rfl) rfl; clear hl; have hl := hl2; clear hl2
        refine then_normal ?_
        refine c_cond hl rfl ?_ ?_
        · intro hc3
          try simp only [decide_eq_true_eq, decide_eq_false_iff_not, Bool.not_eq_true', Bool.not_eq_false', Bool.not_eq_true, Bool.not_eq_false, Bool.and_eq_true, Bool.or_eq_true, Bool.and_eq_false_iff, Bool.or_eq_false_iff, Bool.not_not, ne_eq, Int.not_lt, Int.not_le, Decidable.not_not, beq_iff_eq, bne_iff_ne] at hc3
          refine wp_ret ?_
          refine then_ret ?_
          refine f_ret0 (F' := [(cp, C (encC (sentP s k q n) (some ⟨sb, 0, none⟩)) 66), (sb, C (bdL bu (sentP s k q n).nxt bv) 85)]) hl hh rfl (by repeat (first | exact keeps_nil | apply keeps_cons (by repeat (first | exact find_head | apply find_tail)) (by first  | (have h9 := sentP_1 (s := s) (k := k) (q := q) (n := n) (by assumption) (by assumption) (by assumption); exact blk_eq (congrArg (fun z => encC z (some ⟨sb, 0, none⟩)) h9.symm)) | (have h9 := sentP_2 (s := s) (k := k) (q := q) (n := n) (by assumption) (by assumption); exact blk_eq (congrArg (fun z => encC z (some ⟨sb, 0, none⟩)) h9.symm)) | (have h9 := sentP_3 (s := s) (k := k) (q := q) (n := n) (by assumption) (by assumption); exact blk_eq (congrArg (fun z => encC z (some ⟨sb, 0, none⟩)) h9.symm)) | (have h9 := sentP_4 (s := s) (k := k) (q := q) (n := n) (by assumption) (by assumption); exact blk_eq (congrArg (fun z => encC z (some ⟨sb, 0, none⟩)) h9.symm)) | (have h9 := sentP_5 (s := s) (k := k) (q := q) (n := n) (by assumption) (by assumption); exact blk_eq (congrArg (fun z => encC z (some ⟨sb, 0, none⟩)) h9.symm)) | (have h9 := sentP_6 (s := s) (k := k) (q := q) (n := n) (by assumption) (by assumption); exact blk_eq (congrArg (fun z => encC z (some ⟨sb, 0, none⟩)) h9.symm)) | (have h9 := sentP_7 (s := s) (k := k) (q := q) (n := n) (by assumption) (by assumption) (by assumption) (by assumption); exact blk_eq (congrArg (fun z => encC z (some ⟨sb, 0, none⟩)) h9.symm)) | (have h9 := (sentP_8 (s := s) (k := k) (q := q) (n := n) (by assumption) (by assumption) (by assumption) (by assumption)).trans (rexP_1 (s := s) (x := (q - s.una) % 4294967296) (e := (q + n) % 4294967296) (by assumption) (by assumption)); exact blk_eq (congrArg (fun z => encC z (some ⟨sb, 0, none⟩)) h9.symm)) | (have h9 := (sentP_8 (s := s) (k := k) (q := q) (n := n) (by assumption) (by assumption) (by assumption) (by assumption)).trans (rexP_2 (s := s) (x := (q - s.una) % 4294967296) (e := (q + n) % 4294967296) (by assumption) (by assumption)); exact blk_eq (congrArg (fun z => encC z (some ⟨sb, 0, none⟩)) h9.symm)) | (have h9 := (sentP_8 (s := s) (k := k) (q := q) (n := n) (by assumption) (by assumption) (by assumption) (by assumption)).trans (rexP_3 (s := s) (x := (q - s.una) % 4294967296) (e := (q + n) % 4294967296) (by assumption) (by assumption)); exact blk_eq (congrArg (fun z => encC z (some ⟨sb, 0, none⟩)) h9.symm)) | (have h9 := (sentP_8 (s := s) (k := k) (q := q) (n := n) (by assumption) (by assumption) (by assumption) (by assumption)).trans (rexP_4 (s := s) (x := (q - s.una) % 4294967296) (e := (q + n) % 4294967296) (by assumption) (by assumption)); exact blk_eq (congrArg (fun z => encC z (some ⟨sb, 0, none⟩)) h9.symm)) | (have h9 := sentP_9 (s := s) (k := k) (q := q) (n := n) (by assumption) (by assumption) (by assumption); exact blk_eq (congrArg (fun z => encC z (some ⟨sb, 0, none⟩)) h9.symm)) | (have h9 := sentP_1 (s := s) (k := k) (q := q) (n := n) (by assumption) (by assumption) (by assumption); exact blk_eq (congrArg (fun z => bdL bu z bv) (congrArg CS.nxt h9).symm)) | (have h9 := sentP_2 (s := s) (k := k) (q := q) (n := n) (by assumption) (by assumption); exact blk_eq (congrArg (fun z => bdL bu z bv) (congrArg CS.nxt h9).symm)) | (have h9 := sentP_3 (s := s) (k := k) (q := q) (n := n) (by assumption) (by assumption); exact blk_eq (congrArg (fun z => bdL bu z bv) (congrArg CS.nxt h9).symm)) | (have h9 := sentP_4 (s := s) (k := k) (q := q) (n := n) (by assumption) (by assumption); exact blk_eq (congrArg (fun z => bdL bu z bv) (congrArg CS.nxt h9).symm)) | (have h9 := sentP_5 (s := s) (k := k) (q := q) (n := n) (by assumption) (by assumption); exact blk_eq (congrArg (fun z => bdL bu z bv) (congrArg CS.nxt h9).symm)) | (have h9 := sentP_6 (s := s) (k := k) (q := q) (n := n) (by assumption) (by assumption); exact blk_eq (congrArg (fun z => bdL bu z bv) (congrArg CS.nxt h9).symm)) | (have h9 := sentP_7 (s := s) (k := k) (q := q) (n := n) (by assumption) (by assumption) (by assumption) (by assumption); exact blk_eq (congrArg (fun z => bdL bu z bv) (congrArg CS.nxt h9).symm)) | (have h9 := (sentP_8 (s := s) (k := k) (q := q) (n := n) (by assumption) (by assumption) (by assumption) (by assumption)).trans (rexP_1 (s := s) (x := (q - s.una) % 4294967296) (e := (q + n) % 4294967296) (by assumption) (by assumption)); exact blk_eq (congrArg (fun z => bdL bu z bv) (congrArg CS.nxt h9).symm)) | (have h9 := (sentP_8 (s := s) (k := k) (q := q) (n := n) (by assumption) (by assumption) (by assumption) (by assumption)).trans (rexP_2 (s := s) (x := (q - s.una) % 4294967296) (e := (q + n) % 4294967296) (by assumption) (by assumption)); exact blk_eq (congrArg (fun z => bdL bu z bv) (congrArg CS.nxt h9).symm)) | (have h9 := (sentP_8 (s := s) (k := k) (q := q) (n := n) (by assumption) (by assumption) (by assumption) (by assumption)).trans (rexP_3 (s := s) (x := (q - s.una) % 4294967296) (e := (q + n) % 4294967296) (by assumption) (by assumption)); exact blk_eq (congrArg (fun z => bdL bu z bv) (congrArg CS.nxt h9).symm)) | (have h9 := (sentP_8 (s := s) (k := k) (q := q) (n := n) (by assumption) (by assumption) (by assumption) (by assumption)).trans (rexP_4 (s := s) (x := (q - s.una) % 4294967296) (e := (q + n) % 4294967296) (by assumption) (by assumption)); exact blk_eq (congrArg (fun z => bdL bu z bv) (congrArg CS.nxt h9).symm)) | (have h9 := sentP_9 (s := s) (k := k) (q := q) (n := n) (by assumption) (by assumption) (by assumption); exact blk_eq (congrArg (fun z => bdL bu z bv) (congrArg CS.nxt h9).symm)) | exact absurd hc2 (by simp) | rfl) | exact keeps_self | apply keeps_mv)) ?_
          exact ⟨rfl, rfl⟩
        · intro hc3
          try simp only [decide_eq_true_eq, decide_eq_false_iff_not, Bool.not_eq_true', Bool.not_eq_false', Bool.not_eq_true, Bool.not_eq_false, Bool.and_eq_true, Bool.or_eq_true, Bool.and_eq_false_iff, Bool.or_eq_false_iff, Bool.not_not, ne_eq, Int.not_lt, Int.not_le, Decidable.not_not, beq_iff_eq, bne_iff_ne] at hc3
          refine wp_skip ?_
          refine then_normal ?_
          refine c_seq ?_
          refine c_region ?_
          refine wl (wl_val hl rfl trivial (r_field hl rfl fld40_0) ?_)
          clear hl a; intro a hl
          refine wl (w_load hl hh rfl trivial one38 rfl (by repeat (first | exact find_head | apply find_tail)) (by first | rfl | rfl) ?_)
          clear hl a; intro a hl
          refine w_nil ?_
          have hl2 := hl.add (t := 0) (hl.add (t := 3) (hl.add (t := 5) (hl.add (t := 73) (hl.nil) rfl) rfl) rfl) rfl; clear hl; have hl := hl2; clear hl2
          refine then_normal ?_
          refine wp_block ?_
          refine c_seq ?_
          refine c_region ?_
          refine wl (wl_val hl rfl trivial (r_eql hl rfl rfl) ?_)
          clear hl a; intro a hl
          refine wl (wl_val hl rfl trivial (r_assign hl rfl) ?_)
          clear hl a; intro a hl
          refine w_nil ?_
          have hl2 := hl.add (t := 0) (hl.add (t := 3) (hl.add (t := 5) (hl.add (t := 73) (hl.add (t := 74) (hl.nil) rfl) rfl) rfl) rfl) rfl; clear hl; have hl := hl2; clear hl2
          refine then_normal ?_
          refine c_cond hl rfl ?_ ?_
          · intro hc4
            try simp only [decide_eq_true_eq, decide_eq_false_iff_not, Bool.not_eq_true', Bool.not_eq_false', Bool.not_eq_true, Bool.not_eq_false, Bool.and_eq_true, Bool.or_eq_true, Bool.and_eq_false_iff, Bool.or_eq_false_iff, Bool.not_not, ne_eq, Int.not_lt, Int.not_le, Decidable.not_not, beq_iff_eq, bne_iff_ne] at hc4
            refine c_region ?_
            refine wl (wl_val hl rfl trivial (r_move hl rfl) ?_)
            clear hl a; intro a hl
            refine wl (wl_val hl rfl trivial (r_nilCheck hl rfl) ?_)
            clear hl a; intro a hl
            refine wl (wl_val hl rfl trivial (r_field hl rfl fld66_14) ?_)
            clear hl a; intro a hl
            refine wl (w_store hl hh trivial one4 rfl rfl (by repeat (first | exact find_head | apply find_tail)) (by first | (simp; done) | (simp; omega)) (by first | rfl | assumption | (apply Row.one; assumption)) (by first | (simp only [encC, setL, List.getElem?_cons_zero, List.getElem?_cons_succ, Value.cells, List.take_zero, List.take_succ_cons, List.take_nil, List.drop_zero, List.drop_succ_cons, List.drop_nil, List.length_cons, List.length_nil, List.cons_append, List.nil_append, List.append_nil, Nat.zero_add, Nat.add_zero, Nat.reduceAdd, Nat.reduceBEq, Nat.reduceEqDiff, Nat.ble, BEq.rfl, Bool.and_true, Bool.and_self, cond_true, beq_self_eq_true]; rfl) | (simp only [setL, List.getElem?_cons_zero, List.getElem?_cons_succ, Value.cells, List.take_zero, List.take_succ_cons, List.take_nil, List.drop_zero, List.drop_succ_cons, List.drop_nil, List.length_cons, List.length_nil, List.cons_append, List.nil_append, List.append_nil, Nat.zero_add, Nat.add_zero, Nat.reduceAdd, Nat.reduceBEq, Nat.reduceEqDiff, Nat.ble, BEq.rfl, Bool.and_true, Bool.and_self, cond_true, beq_self_eq_true]; rfl)) ?_)
            clear hh w; intro w hh
            refine w_nil ?_
            have hl2 := hl.nil; clear hl; have hl := hl2; clear hl2
            refine blk_normal ?_
            refine f_end0 (F' := [(cp, C (encC (sentP s k q n) (some ⟨sb, 0, none⟩)) 66), (sb, C (bdL bu (sentP s k q n).nxt bv) 85)]) hl hh rfl (by repeat (first | exact keeps_nil | apply keeps_cons (by repeat (first | exact find_head | apply find_tail)) (by first  | (have h9 := sentP_1 (s := s) (k := k) (q := q) (n := n) (by assumption) (by assumption) (by assumption); exact blk_eq (congrArg (fun z => encC z (some ⟨sb, 0, none⟩)) h9.symm)) | (have h9 := sentP_2 (s := s) (k := k) (q := q) (n := n) (by assumption) (by assumption); exact blk_eq (congrArg (fun z => encC z (some ⟨sb, 0, none⟩)) h9.symm)) | (have h9 := sentP_3 (s := s) (k := k) (q := q) (n := n) (by assumption) (by assumption); exact blk_eq (congrArg (fun z => encC z (some ⟨sb, 0, none⟩)) h9.symm)) | (have h9 := sentP_4 (s := s) (k := k) (q := q) (n := n) (by assumption) (by assumption); exact blk_eq (congrArg (fun z => encC z (some ⟨sb, 0, none⟩)) h9.symm)) | (have h9 := sentP_5 (s := s) (k := k) (q := q) (n := n) (by assumption) (by assumption); exact blk_eq (congrArg (fun z => encC z (some ⟨sb, 0, none⟩)) h9.symm)) | (have h9 := sentP_6 (s := s) (k := k) (q := q) (n := n) (by assumption) (by assumption); exact blk_eq (congrArg (fun z => encC z (some ⟨sb, 0, none⟩)) h9.symm)) | (have h9 := sentP_7 (s := s) (k := k) (q := q) (n := n) (by assumption) (by assumption) (by assumption) (by assumption); exact blk_eq (congrArg (fun z => encC z (some ⟨sb, 0, none⟩)) h9.symm)) | (have h9 := (sentP_8 (s := s) (k := k) (q := q) (n := n) (by assumption) (by assumption) (by assumption) (by assumption)).trans (rexP_1 (s := s) (x := (q - s.una) % 4294967296) (e := (q + n) % 4294967296) (by assumption) (by assumption)); exact blk_eq (congrArg (fun z => encC z (some ⟨sb, 0, none⟩)) h9.symm)) | (have h9 := (sentP_8 (s := s) (k := k) (q := q) (n := n) (by assumption) (by assumption) (by assumption) (by assumption)).trans (rexP_2 (s := s) (x := (q - s.una) % 4294967296) (e := (q + n) % 4294967296) (by assumption) (by assumption)); exact blk_eq (congrArg (fun z => encC z (some ⟨sb, 0, none⟩)) h9.symm)) | (have h9 := (sentP_8 (s := s) (k := k) (q := q) (n := n) (by assumption) (by assumption) (by assumption) (by assumption)).trans (rexP_3 (s := s) (x := (q - s.una) % 4294967296) (e := (q + n) % 4294967296) (by assumption) (by assumption)); exact blk_eq (congrArg (fun z => encC z (some ⟨sb, 0, none⟩)) h9.symm)) | (have h9 := (sentP_8 (s := s) (k := k) (q := q) (n := n) (by assumption) (by assumption) (by assumption) (by assumption)).trans (rexP_4 (s := s) (x := (q - s.una) % 4294967296) (e := (q + n) % 4294967296) (by assumption) (by assumption)); exact blk_eq (congrArg (fun z => encC z (some ⟨sb, 0, none⟩)) h9.symm)) | (have h9 := sentP_9 (s := s) (k := k) (q := q) (n := n) (by assumption) (by assumption) (by assumption); exact blk_eq (congrArg (fun z => encC z (some ⟨sb, 0, none⟩)) h9.symm)) | (have h9 := sentP_1 (s := s) (k := k) (q := q) (n := n) (by assumption) (by assumption) (by assumption); exact blk_eq (congrArg (fun z => bdL bu z bv) (congrArg CS.nxt h9).symm)) | (have h9 := sentP_2 (s := s) (k := k) (q := q) (n := n) (by assumption) (by assumption); exact blk_eq (congrArg (fun z => bdL bu z bv) (congrArg CS.nxt h9).symm)) | (have h9 := sentP_3 (s := s) (k := k) (q := q) (n := n) (by assumption) (by assumption); exact blk_eq (congrArg (fun z => bdL bu z bv) (congrArg CS.nxt h9).symm)) | (have h9 := sentP_4 (s := s) (k := k) (q := q) (n := n) (by assumption) (by assumption); exact blk_eq (congrArg (fun z => bdL bu z bv) (congrArg CS.nxt h9).symm)) | (have h9 := sentP_5 (s := s) (k := k) (q := q) (n := n) (by assumption) (by assumption); exact blk_eq (congrArg (fun z => bdL bu z bv) (congrArg CS.nxt h9).symm)) | (have h9 := sentP_6 (s := s) (k := k) (q := q) (n := n) (by assumption) (by assumption); exact blk_eq (congrArg (fun z => bdL bu z bv) (congrArg CS.nxt h9).symm)) | (have h9 := sentP_7 (s := s) (k := k) (q := q) (n := n) (by assumption) (by assumption) (by assumption) (by assumption); exact blk_eq (congrArg (fun z => bdL bu z bv) (congrArg CS.nxt h9).symm)) | (have h9 := (sentP_8 (s := s) (k := k) (q := q) (n := n) (by assumption) (by assumption) (by assumption) (by assumption)).trans (rexP_1 (s := s) (x := (q - s.una) % 4294967296) (e := (q + n) % 4294967296) (by assumption) (by assumption)); exact blk_eq (congrArg (fun z => bdL bu z bv) (congrArg CS.nxt h9).symm)) | (have h9 := (sentP_8 (s := s) (k := k) (q := q) (n := n) (by assumption) (by assumption) (by assumption) (by assumption)).trans (rexP_2 (s := s) (x := (q - s.una) % 4294967296) (e := (q + n) % 4294967296) (by assumption) (by assumption)); exact blk_eq (congrArg (fun z => bdL bu z bv) (congrArg CS.nxt h9).symm)) | (have h9 := (sentP_8 (s := s) (k := k) (q := q) (n := n) (by assumption) (by assumption) (by assumption) (by assumption)).trans (rexP_3 (s := s) (x := (q - s.una) % 4294967296) (e := (q + n) % 4294967296) (by assumption) (by assumption)); exact blk_eq (congrArg (fun z => bdL bu z bv) (congrArg CS.nxt h9).symm)) | (have h9 := (sentP_8 (s := s) (k := k) (q := q) (n := n) (by assumption) (by assumption) (by assumption) (by assumption)).trans (rexP_4 (s := s) (x := (q - s.una) % 4294967296) (e := (q + n) % 4294967296) (by assumption) (by assumption)); exact blk_eq (congrArg (fun z => bdL bu z bv) (congrArg CS.nxt h9).symm)) | (have h9 := sentP_9 (s := s) (k := k) (q := q) (n := n) (by assumption) (by assumption) (by assumption); exact blk_eq (congrArg (fun z => bdL bu z bv) (congrArg CS.nxt h9).symm)) | exact absurd hc2 (by simp) | rfl) | exact keeps_self | apply keeps_mv)) ?_
            exact ⟨rfl, rfl⟩
          · intro hc4
            try simp only [decide_eq_true_eq, decide_eq_false_iff_not, Bool.not_eq_true', Bool.not_eq_false', Bool.not_eq_true, Bool.not_eq_false, Bool.and_eq_true, Bool.or_eq_true, Bool.and_eq_false_iff, Bool.or_eq_false_iff, Bool.not_not, ne_eq, Int.not_lt, Int.not_le, Decidable.not_not, beq_iff_eq, bne_iff_ne] at hc4
            refine c_seq ?_
            refine c_region ?_
            refine wl (wl_val hl rfl trivial (r_eql hl rfl rfl) ?_)
            clear hl a; intro a hl
            refine wl (wl_val hl rfl trivial (r_assign hl rfl) ?_)
            clear hl a; intro a hl
            refine w_nil ?_
            have hl2 := hl.add (t := 0) (hl.add (t := 3) (hl.add (t := 5) (hl.add (t := 79) (hl.nil) rfl) rfl) rfl) rfl; clear hl; have hl := hl2; clear hl2
            refine then_normal ?_
            refine c_cond hl rfl ?_ ?_
            · intro hc5
              try simp only [decide_eq_true_eq, decide_eq_false_iff_not, Bool.not_eq_true', Bool.not_eq_false', Bool.not_eq_true, Bool.not_eq_false, Bool.and_eq_true, Bool.or_eq_true, Bool.and_eq_false_iff, Bool.or_eq_false_iff, Bool.not_not, ne_eq, Int.not_lt, Int.not_le, Decidable.not_not, beq_iff_eq, bne_iff_ne] at hc5
              refine c_seq ?_
              refine c_seq ?_
              refine c_region ?_
              refine wl (wl_val hl rfl trivial (r_move hl rfl) ?_)
              clear hl a; intro a hl
              refine wl (wl_val hl rfl trivial (r_eql hl rfl rfl) ?_)
              clear hl a; intro a hl
              refine w_nil ?_
              have hl2 := hl.add (t := 0) (hl.add (t := 3) (hl.add (t := 82) (hl.nil) rfl) rfl) rfl; clear hl; have hl := hl2; clear hl2
              refine then_normal ?_
              refine c_cond hl rfl ?_ ?_
              · intro hc6
                try simp only [decide_eq_true_eq, decide_eq_false_iff_not, Bool.not_eq_true', Bool.not_eq_false', Bool.not_eq_true, Bool.not_eq_false, Bool.and_eq_true, Bool.or_eq_true, Bool.and_eq_false_iff, Bool.or_eq_false_iff, Bool.not_not, ne_eq, Int.not_lt, Int.not_le, Decidable.not_not, beq_iff_eq, bne_iff_ne] at hc6
                refine c_region ?_
                refine wl (wl_val hl rfl trivial (r_move hl rfl) ?_)
                clear hl a; intro a hl
                refine wl (wl_val hl rfl trivial (r_nilCheck hl rfl) ?_)
                clear hl a; intro a hl
                refine wl (wl_val hl rfl trivial (r_field hl rfl fld66_12) ?_)
                clear hl a; intro a hl
                refine wl (w_store hl hh trivial one4 rfl rfl (by repeat (first | exact find_head | apply find_tail)) (by first | (simp; done) | (simp; omega)) (by first | rfl | assumption | (apply Row.one; assumption)) (by first | (simp only [encC, setL, List.getElem?_cons_zero, List.getElem?_cons_succ, Value.cells, List.take_zero, List.take_succ_cons, List.take_nil, List.drop_zero, List.drop_succ_cons, List.drop_nil, List.length_cons, List.length_nil, List.cons_append, List.nil_append, List.append_nil, Nat.zero_add, Nat.add_zero, Nat.reduceAdd, Nat.reduceBEq, Nat.reduceEqDiff, Nat.ble, BEq.rfl, Bool.and_true, Bool.and_self, cond_true, beq_self_eq_true]; rfl) | (simp only [setL, List.getElem?_cons_zero, List.getElem?_cons_succ, Value.cells, List.take_zero, List.take_succ_cons, List.take_nil, List.drop_zero, List.drop_succ_cons, List.drop_nil, List.length_cons, List.length_nil, List.cons_append, List.nil_append, List.append_nil, Nat.zero_add, Nat.add_zero, Nat.reduceAdd, Nat.reduceBEq, Nat.reduceEqDiff, Nat.ble, BEq.rfl, Bool.and_true, Bool.and_self, cond_true, beq_self_eq_true]; rfl)) ?_)
                clear hh w; intro w hh
                refine w_nil ?_
                have hl2 := hl.add (t := 0) (hl.add (t := 3) (hl.nil) rfl) rfl; clear hl; have hl := hl2; clear hl2
                refine then_normal ?_
                refine c_seq ?_
                refine c_region ?_
                refine wl (wl_val hl rfl trivial (r_field hl rfl fld40_1) ?_)
                clear hl a; intro a hl
                refine wl (w_load hl hh rfl trivial one29 rfl (by repeat (first | exact find_head | apply find_tail)) (by first | rfl | rfl) ?_)
                clear hl a; intro a hl
                refine wl (wl_val hl rfl trivial (r_field hl rfl fld40_2) ?_)
                clear hl a; intro a hl
                refine wl (w_load hl hh rfl trivial one29 rfl (by repeat (first | exact find_head | apply find_tail)) (by first | rfl | rfl) ?_)
                clear hl a; intro a hl
                refine wl (wl_val hl rfl trivial (r_addM wm_u32 hl rfl rfl) ?_)
                clear hl a; intro a hl
                refine wl (wl_val hl rfl trivial (r_assign hl rfl) ?_)
                clear hl a; intro a hl
                refine w_nil ?_
                have hl2 := hl.add (t := 0) (hl.add (t := 6) (hl.nil) rfl) rfl; clear hl; have hl := hl2; clear hl2
                refine then_normal ?_
                refine c_seq ?_
                refine c_region ?_
                refine wl (wl_val hl rfl trivial (r_move hl rfl) ?_)
                clear hl a; intro a hl
                refine wl (wl_val hl rfl trivial (r_nilCheck hl rfl) ?_)
                clear hl a; intro a hl
                refine wl (wl_val hl rfl trivial (r_field hl rfl fld66_10) ?_)
                clear hl a; intro a hl
                refine wl (w_load hl hh rfl trivial one29 rfl (by repeat (first | exact find_head | apply find_tail)) (by first | rfl | rfl) ?_)
                clear hl a; intro a hl
                refine wl (wl_val hl rfl trivial (r_move hl rfl) ?_)
                clear hl a; intro a hl
                refine wl (w_call hl hh rfl trivial rfl cal39 rfl (less_spec _ _) (by repeat (first | exact keeps_nil | apply keeps_cons (by repeat (first | exact find_head | apply find_tail)) (by first  | rfl) | exact keeps_self | apply keeps_mv)) trivial ?_)
                clear hl hh a w; intro vc Fc a w hR hl hh
                obtain ⟨rfl, rfl⟩ := hR
                try simp only [List.cons_append, List.nil_append] at hh
                refine w_nil ?_
                have hl2 := hl.add (t := 0) (hl.add (t := 6) (hl.add (t := 96) (hl.nil) rfl) rfl) rfl; clear hl; have hl := hl2; clear hl2
                refine then_normal ?_
                refine c_cond hl rfl ?_ ?_
                · intro hc7
                  try simp only [decide_eq_true_eq, decide_eq_false_iff_not, Bool.not_eq_true', Bool.not_eq_false', Bool.not_eq_true, Bool.not_eq_false, Bool.and_eq_true, Bool.or_eq_true, Bool.and_eq_false_iff, Bool.or_eq_false_iff, Bool.not_not, ne_eq, Int.not_lt, Int.not_le, Decidable.not_not, beq_iff_eq, bne_iff_ne] at hc7
                  refine c_region ?_
                  refine wl (wl_val hl rfl trivial (r_move hl rfl) ?_)
                  clear hl a; intro a hl
                  refine wl (wl_val hl rfl trivial (r_move hl rfl) ?_)
                  clear hl a; intro a hl
                  refine wl (wl_val hl rfl trivial (r_nilCheck hl rfl) ?_)
                  clear hl a; intro a hl
                  refine wl (wl_val hl rfl trivial (r_field hl rfl fld66_10) ?_)
                  clear hl a; intro a hl
                  refine wl (w_store hl hh trivial one29 rfl rfl (by repeat (first | exact find_head | apply find_tail)) (by first | (simp; done) | (simp; omega)) (by first | rfl | assumption | (apply Row.one; assumption)) (by first | (simp only [encC, setL, List.getElem?_cons_zero, List.getElem?_cons_succ, Value.cells, List.take_zero, List.take_succ_cons, List.take_nil, List.drop_zero, List.drop_succ_cons, List.drop_nil, List.length_cons, List.length_nil, List.cons_append, List.nil_append, List.append_nil, Nat.zero_add, Nat.add_zero, Nat.reduceAdd, Nat.reduceBEq, Nat.reduceEqDiff, Nat.ble, BEq.rfl, Bool.and_true, Bool.and_self, cond_true, beq_self_eq_true]; rfl) | (simp only [setL, List.getElem?_cons_zero, List.getElem?_cons_succ, Value.cells, List.take_zero, List.take_succ_cons, List.take_nil, List.drop_zero, List.drop_succ_cons, List.drop_nil, List.length_cons, List.length_nil, List.cons_append, List.nil_append, List.append_nil, Nat.zero_add, Nat.add_zero, Nat.reduceAdd, Nat.reduceBEq, Nat.reduceEqDiff, Nat.ble, BEq.rfl, Bool.and_true, Bool.and_self, cond_true, beq_self_eq_true]; rfl)) ?_)
                  clear hh w; intro w hh
                  refine w_nil ?_
                  have hl2 := hl.nil; clear hl; have hl := hl2; clear hl2
                  refine blk_normal ?_
                  refine f_end0 (F' := [(cp, C (encC (sentP s k q n) (some ⟨sb, 0, none⟩)) 66), (sb, C (bdL bu (sentP s k q n).nxt bv) 85)]) hl hh rfl (by repeat (first | exact keeps_nil | apply keeps_cons (by repeat (first | exact find_head | apply find_tail)) (by first  | (have h9 := sentP_1 (s := s) (k := k) (q := q) (n := n) (by assumption) (by assumption) (by assumption); exact blk_eq (congrArg (fun z => encC z (some ⟨sb, 0, none⟩)) h9.symm)) | (have h9 := sentP_2 (s := s) (k := k) (q := q) (n := n) (by assumption) (by assumption); exact blk_eq (congrArg (fun z => encC z (some ⟨sb, 0, none⟩)) h9.symm)) | (have h9 := sentP_3 (s := s) (k := k) (q := q) (n := n) (by assumption) (by assumption); exact blk_eq (congrArg (fun z => encC z (some ⟨sb, 0, none⟩)) h9.symm)) | (have h9 := sentP_4 (s := s) (k := k) (q := q) (n := n) (by assumption) (by assumption); exact blk_eq (congrArg (fun z => encC z (some ⟨sb, 0, none⟩)) h9.symm)) | (have h9 := sentP_5 (s := s) (k := k) (q := q) (n := n) (by assumption) (by assumption); exact blk_eq (congrArg (fun z => encC z (some ⟨sb, 0, none⟩)) h9.symm)) | (have h9 := sentP_6 (s := s) (k := k) (q := q) (n := n) (by assumption) (by assumption); exact blk_eq (congrArg (fun z => encC z (some ⟨sb, 0, none⟩)) h9.symm)) | (have h9 := sentP_7 (s := s) (k := k) (q := q) (n := n) (by assumption) (by assumption) (by assumption) (by assumption); exact blk_eq (congrArg (fun z => encC z (some ⟨sb, 0, none⟩)) h9.symm)) | (have h9 := (sentP_8 (s := s) (k := k) (q := q) (n := n) (by assumption) (by assumption) (by assumption) (by assumption)).trans (rexP_1 (s := s) (x := (q - s.una) % 4294967296) (e := (q + n) % 4294967296) (by assumption) (by assumption)); exact blk_eq (congrArg (fun z => encC z (some ⟨sb, 0, none⟩)) h9.symm)) | (have h9 := (sentP_8 (s := s) (k := k) (q := q) (n := n) (by assumption) (by assumption) (by assumption) (by assumption)).trans (rexP_2 (s := s) (x := (q - s.una) % 4294967296) (e := (q + n) % 4294967296) (by assumption) (by assumption)); exact blk_eq (congrArg (fun z => encC z (some ⟨sb, 0, none⟩)) h9.symm)) | (have h9 := (sentP_8 (s := s) (k := k) (q := q) (n := n) (by assumption) (by assumption) (by assumption) (by assumption)).trans (rexP_3 (s := s) (x := (q - s.una) % 4294967296) (e := (q + n) % 4294967296) (by assumption) (by assumption)); exact blk_eq (congrArg (fun z => encC z (some ⟨sb, 0, none⟩)) h9.symm)) | (have h9 := (sentP_8 (s := s) (k := k) (q := q) (n := n) (by assumption) (by assumption) (by assumption) (by assumption)).trans (rexP_4 (s := s) (x := (q - s.una) % 4294967296) (e := (q + n) % 4294967296) (by assumption) (by assumption)); exact blk_eq (congrArg (fun z => encC z (some ⟨sb, 0, none⟩)) h9.symm)) | (have h9 := sentP_9 (s := s) (k := k) (q := q) (n := n) (by assumption) (by assumption) (by assumption); exact blk_eq (congrArg (fun z => encC z (some ⟨sb, 0, none⟩)) h9.symm)) | (have h9 := sentP_1 (s := s) (k := k) (q := q) (n := n) (by assumption) (by assumption) (by assumption); exact blk_eq (congrArg (fun z => bdL bu z bv) (congrArg CS.nxt h9).symm)) | (have h9 := sentP_2 (s := s) (k := k) (q := q) (n := n) (by assumption) (by assumption); exact blk_eq (congrArg (fun z => bdL bu z bv) (congrArg CS.nxt h9).symm)) | (have h9 := sentP_3 (s := s) (k := k) (q := q) (n := n) (by assumption) (by assumption); exact blk_eq (congrArg (fun z => bdL bu z bv) (congrArg CS.nxt h9).symm)) | (have h9 := sentP_4 (s := s) (k := k) (q := q) (n := n) (by assumption) (by assumption); exact blk_eq (congrArg (fun z => bdL bu z bv) (congrArg CS.nxt h9).symm)) | (have h9 := sentP_5 (s := s) (k := k) (q := q) (n := n) (by assumption) (by assumption); exact blk_eq (congrArg (fun z => bdL bu z bv) (congrArg CS.nxt h9).symm)) | (have h9 := sentP_6 (s := s) (k := k) (q := q) (n := n) (by assumption) (by assumption); exact blk_eq (congrArg (fun z => bdL bu z bv) (congrArg CS.nxt h9).symm)) | (have h9 := sentP_7 (s := s) (k := k) (q := q) (n := n) (by assumption) (by assumption) (by assumption) (by assumption); exact blk_eq (congrArg (fun z => bdL bu z bv) (congrArg CS.nxt h9).symm)) | (have h9 := (sentP_8 (s := s) (k := k) (q := q) (n := n) (by assumption) (by assumption) (by assumption) (by assumption)).trans (rexP_1 (s := s) (x := (q - s.una) % 4294967296) (e := (q + n) % 4294967296) (by assumption) (by assumption)); exact blk_eq (congrArg (fun z => bdL bu z bv) (congrArg CS.nxt h9).symm)) | (have h9 := (sentP_8 (s := s) (k := k) (q := q) (n := n) (by assumption) (by assumption) (by assumption) (by assumption)).trans (rexP_2 (s := s) (x := (q - s.una) % 4294967296) (e := (q + n) % 4294967296) (by assumption) (by assumption)); exact blk_eq (congrArg (fun z => bdL bu z bv) (congrArg CS.nxt h9).symm)) | (have h9 := (sentP_8 (s := s) (k := k) (q := q) (n := n) (by assumption) (by assumption) (by assumption) (by assumption)).trans (rexP_3 (s := s) (x := (q - s.una) % 4294967296) (e := (q + n) % 4294967296) (by assumption) (by assumption)); exact blk_eq (congrArg (fun z => bdL bu z bv) (congrArg CS.nxt h9).symm)) | (have h9 := (sentP_8 (s := s) (k := k) (q := q) (n := n) (by assumption) (by assumption) (by assumption) (by assumption)).trans (rexP_4 (s := s) (x := (q - s.una) % 4294967296) (e := (q + n) % 4294967296) (by assumption) (by assumption)); exact blk_eq (congrArg (fun z => bdL bu z bv) (congrArg CS.nxt h9).symm)) | (have h9 := sentP_9 (s := s) (k := k) (q := q) (n := n) (by assumption) (by assumption) (by assumption); exact blk_eq (congrArg (fun z => bdL bu z bv) (congrArg CS.nxt h9).symm)) | exact absurd hc2 (by simp) | rfl) | exact keeps_self | apply keeps_mv)) ?_
                  exact ⟨rfl, rfl⟩
                · intro hc7
                  try simp only [decide_eq_true_eq, decide_eq_false_iff_not, Bool.not_eq_true', Bool.not_eq_false', Bool.not_eq_true, Bool.not_eq_false, Bool.and_eq_true, Bool.or_eq_true, Bool.and_eq_false_iff, Bool.or_eq_false_iff, Bool.not_not, ne_eq, Int.not_lt, Int.not_le, Decidable.not_not, beq_iff_eq, bne_iff_ne] at hc7
                  refine wp_skip ?_
                  refine blk_normal ?_
                  refine f_end0 (F' := [(cp, C (encC (sentP s k q n) (some ⟨sb, 0, none⟩)) 66), (sb, C (bdL bu (sentP s k q n).nxt bv) 85)]) hl hh rfl (by repeat (first | exact keeps_nil | apply keeps_cons (by repeat (first | exact find_head | apply find_tail)) (by first  | (have h9 := sentP_1 (s := s) (k := k) (q := q) (n := n) (by assumption) (by assumption) (by assumption); exact blk_eq (congrArg (fun z => encC z (some ⟨sb, 0, none⟩)) h9.symm)) | (have h9 := sentP_2 (s := s) (k := k) (q := q) (n := n) (by assumption) (by assumption); exact blk_eq (congrArg (fun z => encC z (some ⟨sb, 0, none⟩)) h9.symm)) | (have h9 := sentP_3 (s := s) (k := k) (q := q) (n := n) (by assumption) (by assumption); exact blk_eq (congrArg (fun z => encC z (some ⟨sb, 0, none⟩)) h9.symm)) | (have h9 := sentP_4 (s := s) (k := k) (q := q) (n := n) (by assumption) (by assumption); exact blk_eq (congrArg (fun z => encC z (some ⟨sb, 0, none⟩)) h9.symm)) | (have h9 := sentP_5 (s := s) (k := k) (q := q) (n := n) (by assumption) (by assumption); exact blk_eq (congrArg (fun z => encC z (some ⟨sb, 0, none⟩)) h9.symm)) | (have h9 := sentP_6 (s := s) (k := k) (q := q) (n := n) (by assumption) (by assumption); exact blk_eq (congrArg (fun z => encC z (some ⟨sb, 0, none⟩)) h9.symm)) | (have h9 := sentP_7 (s := s) (k := k) (q := q) (n := n) (by assumption) (by assumption) (by assumption) (by assumption); exact blk_eq (congrArg (fun z => encC z (some ⟨sb, 0, none⟩)) h9.symm)) | (have h9 := (sentP_8 (s := s) (k := k) (q := q) (n := n) (by assumption) (by assumption) (by assumption) (by assumption)).trans (rexP_1 (s := s) (x := (q - s.una) % 4294967296) (e := (q + n) % 4294967296) (by assumption) (by assumption)); exact blk_eq (congrArg (fun z => encC z (some ⟨sb, 0, none⟩)) h9.symm)) | (have h9 := (sentP_8 (s := s) (k := k) (q := q) (n := n) (by assumption) (by assumption) (by assumption) (by assumption)).trans (rexP_2 (s := s) (x := (q - s.una) % 4294967296) (e := (q + n) % 4294967296) (by assumption) (by assumption)); exact blk_eq (congrArg (fun z => encC z (some ⟨sb, 0, none⟩)) h9.symm)) | (have h9 := (sentP_8 (s := s) (k := k) (q := q) (n := n) (by assumption) (by assumption) (by assumption) (by assumption)).trans (rexP_3 (s := s) (x := (q - s.una) % 4294967296) (e := (q + n) % 4294967296) (by assumption) (by assumption)); exact blk_eq (congrArg (fun z => encC z (some ⟨sb, 0, none⟩)) h9.symm)) | (have h9 := (sentP_8 (s := s) (k := k) (q := q) (n := n) (by assumption) (by assumption) (by assumption) (by assumption)).trans (rexP_4 (s := s) (x := (q - s.una) % 4294967296) (e := (q + n) % 4294967296) (by assumption) (by assumption)); exact blk_eq (congrArg (fun z => encC z (some ⟨sb, 0, none⟩)) h9.symm)) | (have h9 := sentP_9 (s := s) (k := k) (q := q) (n := n) (by assumption) (by assumption) (by assumption); exact blk_eq (congrArg (fun z => encC z (some ⟨sb, 0, none⟩)) h9.symm)) | (have h9 := sentP_1 (s := s) (k := k) (q := q) (n := n) (by assumption) (by assumption) (by assumption); exact blk_eq (congrArg (fun z => bdL bu z bv) (congrArg CS.nxt h9).symm)) | (have h9 := sentP_2 (s := s) (k := k) (q := q) (n := n) (by assumption) (by assumption); exact blk_eq (congrArg (fun z => bdL bu z bv) (congrArg CS.nxt h9).symm)) | (have h9 := sentP_3 (s := s) (k := k) (q := q) (n := n) (by assumption) (by assumption); exact blk_eq (congrArg (fun z => bdL bu z bv) (congrArg CS.nxt h9).symm)) | (have h9 := sentP_4 (s := s) (k := k) (q := q) (n := n) (by assumption) (by assumption); exact blk_eq (congrArg (fun z => bdL bu z bv) (congrArg CS.nxt h9).symm)) | (have h9 := sentP_5 (s := s) (k := k) (q := q) (n := n) (by assumption) (by assumption); exact blk_eq (congrArg (fun z => bdL bu z bv) (congrArg CS.nxt h9).symm)) | (have h9 := sentP_6 (s := s) (k := k) (q := q) (n := n) (by assumption) (by assumption); exact blk_eq (congrArg (fun z => bdL bu z bv) (congrArg CS.nxt h9).symm)) | (have h9 := sentP_7 (s := s) (k := k) (q := q) (n := n) (by assumption) (by assumption) (by assumption) (by assumption); exact blk_eq (congrArg (fun z => bdL bu z bv) (congrArg CS.nxt h9).symm)) | (have h9 := (sentP_8 (s := s) (k := k) (q := q) (n := n) (by assumption) (by assumption) (by assumption) (by assumption)).trans (rexP_1 (s := s) (x := (q - s.una) % 4294967296) (e := (q + n) % 4294967296) (by assumption) (by assumption)); exact blk_eq (congrArg (fun z => bdL bu z bv) (congrArg CS.nxt h9).symm)) | (have h9 := (sentP_8 (s := s) (k := k) (q := q) (n := n) (by assumption) (by assumption) (by assumption) (by assumption)).trans (rexP_2 (s := s) (x := (q - s.una) % 4294967296) (e := (q + n) % 4294967296) (by assumption) (by assumption)); exact blk_eq (congrArg (fun z => bdL bu z bv) (congrArg CS.nxt h9).symm)) | (have h9 := (sentP_8 (s := s) (k := k) (q := q) (n := n) (by assumption) (by assumption) (by assumption) (by assumption)).trans (rexP_3 (s := s) (x := (q - s.una) % 4294967296) (e := (q + n) % 4294967296) (by assumption) (by assumption)); exact blk_eq (congrArg (fun z => bdL bu z bv) (congrArg CS.nxt h9).symm)) | (have h9 := (sentP_8 (s := s) (k := k) (q := q) (n := n) (by assumption) (by assumption) (by assumption) (by assumption)).trans (rexP_4 (s := s) (x := (q - s.una) % 4294967296) (e := (q + n) % 4294967296) (by assumption) (by assumption)); exact blk_eq (congrArg (fun z => bdL bu z bv) (congrArg CS.nxt h9).symm)) | (have h9 := sentP_9 (s := s) (k := k) (q := q) (n := n) (by assumption) (by assumption) (by assumption); exact blk_eq (congrArg (fun z => bdL bu z bv) (congrArg CS.nxt h9).symm)) | exact absurd hc2 (by simp) | rfl) | exact keeps_self | apply keeps_mv)) ?_
                  exact ⟨rfl, rfl⟩
              · intro hc6
                try simp only [decide_eq_true_eq, decide_eq_false_iff_not, Bool.not_eq_true', Bool.not_eq_false', Bool.not_eq_true, Bool.not_eq_false, Bool.and_eq_true, Bool.or_eq_true, Bool.and_eq_false_iff, Bool.or_eq_false_iff, Bool.not_not, ne_eq, Int.not_lt, Int.not_le, Decidable.not_not, beq_iff_eq, bne_iff_ne] at hc6
                refine wp_skip ?_
                refine then_normal ?_
                refine c_seq ?_
                refine c_region ?_
                refine wl (wl_val hl rfl trivial (r_field hl rfl fld40_1) ?_)
                clear hl a; intro a hl
                refine wl (w_load hl hh rfl trivial one29 rfl (by repeat (first | exact find_head | apply find_tail)) (by first | rfl | rfl) ?_)
                clear hl a; intro a hl
                refine wl (wl_val hl rfl trivial (r_field hl rfl fld40_2) ?_)
                clear hl a; intro a hl
                refine wl (w_load hl hh rfl trivial one29 rfl (by repeat (first | exact find_head | apply find_tail)) (by first | rfl | rfl) ?_)
                clear hl a; intro a hl
                refine wl (wl_val hl rfl trivial (r_addM wm_u32 hl rfl rfl) ?_)
                clear hl a; intro a hl
                refine wl (wl_val hl rfl trivial (r_assign hl rfl) ?_)
                clear hl a; intro a hl
                refine w_nil ?_
                have hl2 := hl.add (t := 0) (hl.add (t := 6) (hl.nil) rfl) rfl; clear hl; have hl := hl2; clear hl2
                refine then_normal ?_
                refine c_seq ?_
                refine c_region ?_
                refine wl (wl_val hl rfl trivial (r_move hl rfl) ?_)
                clear hl a; intro a hl
                refine wl (wl_val hl rfl trivial (r_nilCheck hl rfl) ?_)
                clear hl a; intro a hl
                refine wl (wl_val hl rfl trivial (r_field hl rfl fld66_10) ?_)
                clear hl a; intro a hl
                refine wl (w_load hl hh rfl trivial one29 rfl (by repeat (first | exact find_head | apply find_tail)) (by first | rfl | rfl) ?_)
                clear hl a; intro a hl
                refine wl (wl_val hl rfl trivial (r_move hl rfl) ?_)
                clear hl a; intro a hl
                refine wl (w_call hl hh rfl trivial rfl cal39 rfl (less_spec _ _) (by repeat (first | exact keeps_nil | apply keeps_cons (by repeat (first | exact find_head | apply find_tail)) (by first  | rfl) | exact keeps_self | apply keeps_mv)) trivial ?_)
                clear hl hh a w; intro vc Fc a w hR hl hh
                obtain ⟨rfl, rfl⟩ := hR
                try simp only [List.cons_append, List.nil_append] at hh
                refine w_nil ?_
                have hl2 := hl.add (t := 0) (hl.add (t := 6) (hl.add (t := 96) (hl.nil) rfl) rfl) rfl; clear hl; have hl := hl2; clear hl2
                refine then_normal ?_
                refine c_cond hl rfl ?_ ?_
                · intro hc7
                  try simp only [decide_eq_true_eq, decide_eq_false_iff_not, Bool.not_eq_true', Bool.not_eq_false', Bool.not_eq_true, Bool.not_eq_false, Bool.and_eq_true, Bool.or_eq_true, Bool.and_eq_false_iff, Bool.or_eq_false_iff, Bool.not_not, ne_eq, Int.not_lt, Int.not_le, Decidable.not_not, beq_iff_eq, bne_iff_ne] at hc7
                  refine c_region ?_
                  refine wl (wl_val hl rfl trivial (r_move hl rfl) ?_)
                  clear hl a; intro a hl
                  refine wl (wl_val hl rfl trivial (r_move hl rfl) ?_)
                  clear hl a; intro a hl
                  refine wl (wl_val hl rfl trivial (r_nilCheck hl rfl) ?_)
                  clear hl a; intro a hl
                  refine wl (wl_val hl rfl trivial (r_field hl rfl fld66_10) ?_)
                  clear hl a; intro a hl
                  refine wl (w_store hl hh trivial one29 rfl rfl (by repeat (first | exact find_head | apply find_tail)) (by first | (simp; done) | (simp; omega)) (by first | rfl | assumption | (apply Row.one; assumption)) (by first | (simp only [encC, setL, List.getElem?_cons_zero, List.getElem?_cons_succ, Value.cells, List.take_zero, List.take_succ_cons, List.take_nil, List.drop_zero, List.drop_succ_cons, List.drop_nil, List.length_cons, List.length_nil, List.cons_append, List.nil_append, List.append_nil, Nat.zero_add, Nat.add_zero, Nat.reduceAdd, Nat.reduceBEq, Nat.reduceEqDiff, Nat.ble, BEq.rfl, Bool.and_true, Bool.and_self, cond_true, beq_self_eq_true]; rfl) | (simp only [setL, List.getElem?_cons_zero, List.getElem?_cons_succ, Value.cells, List.take_zero, List.take_succ_cons, List.take_nil, List.drop_zero, List.drop_succ_cons, List.drop_nil, List.length_cons, List.length_nil, List.cons_append, List.nil_append, List.append_nil, Nat.zero_add, Nat.add_zero, Nat.reduceAdd, Nat.reduceBEq, Nat.reduceEqDiff, Nat.ble, BEq.rfl, Bool.and_true, Bool.and_self, cond_true, beq_self_eq_true]; rfl)) ?_)
                  clear hh w; intro w hh
                  refine w_nil ?_
                  have hl2 := hl.nil; clear hl; have hl := hl2; clear hl2
                  refine blk_normal ?_
                  refine f_end0 (F' := [(cp, C (encC (sentP s k q n) (some ⟨sb, 0, none⟩)) 66), (sb, C (bdL bu (sentP s k q n).nxt bv) 85)]) hl hh rfl (by repeat (first | exact keeps_nil | apply keeps_cons (by repeat (first | exact find_head | apply find_tail)) (by first  | (have h9 := sentP_1 (s := s) (k := k) (q := q) (n := n) (by assumption) (by assumption) (by assumption); exact blk_eq (congrArg (fun z => encC z (some ⟨sb, 0, none⟩)) h9.symm)) | (have h9 := sentP_2 (s := s) (k := k) (q := q) (n := n) (by assumption) (by assumption); exact blk_eq (congrArg (fun z => encC z (some ⟨sb, 0, none⟩)) h9.symm)) | (have h9 := sentP_3 (s := s) (k := k) (q := q) (n := n) (by assumption) (by assumption); exact blk_eq (congrArg (fun z => encC z (some ⟨sb, 0, none⟩)) h9.symm)) | (have h9 := sentP_4 (s := s) (k := k) (q := q) (n := n) (by assumption) (by assumption); exact blk_eq (congrArg (fun z => encC z (some ⟨sb, 0, none⟩)) h9.symm)) | (have h9 := sentP_5 (s := s) (k := k) (q := q) (n := n) (by assumption) (by assumption); exact blk_eq (congrArg (fun z => encC z (some ⟨sb, 0, none⟩)) h9.symm)) | (have h9 := sentP_6 (s := s) (k := k) (q := q) (n := n) (by assumption) (by assumption); exact blk_eq (congrArg (fun z => encC z (some ⟨sb, 0, none⟩)) h9.symm)) | (have h9 := sentP_7 (s := s) (k := k) (q := q) (n := n) (by assumption) (by assumption) (by assumption) (by assumption); exact blk_eq (congrArg (fun z => encC z (some ⟨sb, 0, none⟩)) h9.symm)) | (have h9 := (sentP_8 (s := s) (k := k) (q := q) (n := n) (by assumption) (by assumption) (by assumption) (by assumption)).trans (rexP_1 (s := s) (x := (q - s.una) % 4294967296) (e := (q + n) % 4294967296) (by assumption) (by assumption)); exact blk_eq (congrArg (fun z => encC z (some ⟨sb, 0, none⟩)) h9.symm)) | (have h9 := (sentP_8 (s := s) (k := k) (q := q) (n := n) (by assumption) (by assumption) (by assumption) (by assumption)).trans (rexP_2 (s := s) (x := (q - s.una) % 4294967296) (e := (q + n) % 4294967296) (by assumption) (by assumption)); exact blk_eq (congrArg (fun z => encC z (some ⟨sb, 0, none⟩)) h9.symm)) | (have h9 := (sentP_8 (s := s) (k := k) (q := q) (n := n) (by assumption) (by assumption) (by assumption) (by assumption)).trans (rexP_3 (s := s) (x := (q - s.una) % 4294967296) (e := (q + n) % 4294967296) (by assumption) (by assumption)); exact blk_eq (congrArg (fun z => encC z (some ⟨sb, 0, none⟩)) h9.symm)) | (have h9 := (sentP_8 (s := s) (k := k) (q := q) (n := n) (by assumption) (by assumption) (by assumption) (by assumption)).trans (rexP_4 (s := s) (x := (q - s.una) % 4294967296) (e := (q + n) % 4294967296) (by assumption) (by assumption)); exact blk_eq (congrArg (fun z => encC z (some ⟨sb, 0, none⟩)) h9.symm)) | (have h9 := sentP_9 (s := s) (k := k) (q := q) (n := n) (by assumption) (by assumption) (by assumption); exact blk_eq (congrArg (fun z => encC z (some ⟨sb, 0, none⟩)) h9.symm)) | (have h9 := sentP_1 (s := s) (k := k) (q := q) (n := n) (by assumption) (by assumption) (by assumption); exact blk_eq (congrArg (fun z => bdL bu z bv) (congrArg CS.nxt h9).symm)) | (have h9 := sentP_2 (s := s) (k := k) (q := q) (n := n) (by assumption) (by assumption); exact blk_eq (congrArg (fun z => bdL bu z bv) (congrArg CS.nxt h9).symm)) | (have h9 := sentP_3 (s := s) (k := k) (q := q) (n := n) (by assumption) (by assumption); exact blk_eq (congrArg (fun z => bdL bu z bv) (congrArg CS.nxt h9).symm)) | (have h9 := sentP_4 (s := s) (k := k) (q := q) (n := n) (by assumption) (by assumption); exact blk_eq (congrArg (fun z => bdL bu z bv) (congrArg CS.nxt h9).symm)) | (have h9 := sentP_5 (s := s) (k := k) (q := q) (n := n) (by assumption) (by assumption); exact blk_eq (congrArg (fun z => bdL bu z bv) (congrArg CS.nxt h9).symm)) | (have h9 := sentP_6 (s := s) (k := k) (q := q) (n := n) (by assumption) (by assumption); exact blk_eq (congrArg (fun z => bdL bu z bv) (congrArg CS.nxt h9).symm)) | (have h9 := sentP_7 (s := s) (k := k) (q := q) (n := n) (by assumption) (by assumption) (by assumption) (by assumption); exact blk_eq (congrArg (fun z => bdL bu z bv) (congrArg CS.nxt h9).symm)) | (have h9 := (sentP_8 (s := s) (k := k) (q := q) (n := n) (by assumption) (by assumption) (by assumption) (by assumption)).trans (rexP_1 (s := s) (x := (q - s.una) % 4294967296) (e := (q + n) % 4294967296) (by assumption) (by assumption)); exact blk_eq (congrArg (fun z => bdL bu z bv) (congrArg CS.nxt h9).symm)) | (have h9 := (sentP_8 (s := s) (k := k) (q := q) (n := n) (by assumption) (by assumption) (by assumption) (by assumption)).trans (rexP_2 (s := s) (x := (q - s.una) % 4294967296) (e := (q + n) % 4294967296) (by assumption) (by assumption)); exact blk_eq (congrArg (fun z => bdL bu z bv) (congrArg CS.nxt h9).symm)) | (have h9 := (sentP_8 (s := s) (k := k) (q := q) (n := n) (by assumption) (by assumption) (by assumption) (by assumption)).trans (rexP_3 (s := s) (x := (q - s.una) % 4294967296) (e := (q + n) % 4294967296) (by assumption) (by assumption)); exact blk_eq (congrArg (fun z => bdL bu z bv) (congrArg CS.nxt h9).symm)) | (have h9 := (sentP_8 (s := s) (k := k) (q := q) (n := n) (by assumption) (by assumption) (by assumption) (by assumption)).trans (rexP_4 (s := s) (x := (q - s.una) % 4294967296) (e := (q + n) % 4294967296) (by assumption) (by assumption)); exact blk_eq (congrArg (fun z => bdL bu z bv) (congrArg CS.nxt h9).symm)) | (have h9 := sentP_9 (s := s) (k := k) (q := q) (n := n) (by assumption) (by assumption) (by assumption); exact blk_eq (congrArg (fun z => bdL bu z bv) (congrArg CS.nxt h9).symm)) | exact absurd hc2 (by simp) | rfl) | exact keeps_self | apply keeps_mv)) ?_
                  exact ⟨rfl, rfl⟩
                · intro hc7
                  try simp only [decide_eq_true_eq, decide_eq_false_iff_not, Bool.not_eq_true', Bool.not_eq_false', Bool.not_eq_true, Bool.not_eq_false, Bool.and_eq_true, Bool.or_eq_true, Bool.and_eq_false_iff, Bool.or_eq_false_iff, Bool.not_not, ne_eq, Int.not_lt, Int.not_le, Decidable.not_not, beq_iff_eq, bne_iff_ne] at hc7
                  refine wp_skip ?_
                  refine blk_normal ?_
                  refine f_end0 (F' := [(cp, C (encC (sentP s k q n) (some ⟨sb, 0, none⟩)) 66), (sb, C (bdL bu (sentP s k q n).nxt bv) 85)]) hl hh rfl (by repeat (first | exact keeps_nil | apply keeps_cons (by repeat (first | exact find_head | apply find_tail)) (by first  | (have h9 := sentP_1 (s := s) (k := k) (q := q) (n := n) (by assumption) (by assumption) (by assumption); exact blk_eq (congrArg (fun z => encC z (some ⟨sb, 0, none⟩)) h9.symm)) | (have h9 := sentP_2 (s := s) (k := k) (q := q) (n := n) (by assumption) (by assumption); exact blk_eq (congrArg (fun z => encC z (some ⟨sb, 0, none⟩)) h9.symm)) | (have h9 := sentP_3 (s := s) (k := k) (q := q) (n := n) (by assumption) (by assumption); exact blk_eq (congrArg (fun z => encC z (some ⟨sb, 0, none⟩)) h9.symm)) | (have h9 := sentP_4 (s := s) (k := k) (q := q) (n := n) (by assumption) (by assumption); exact blk_eq (congrArg (fun z => encC z (some ⟨sb, 0, none⟩)) h9.symm)) | (have h9 := sentP_5 (s := s) (k := k) (q := q) (n := n) (by assumption) (by assumption); exact blk_eq (congrArg (fun z => encC z (some ⟨sb, 0, none⟩)) h9.symm)) | (have h9 := sentP_6 (s := s) (k := k) (q := q) (n := n) (by assumption) (by assumption); exact blk_eq (congrArg (fun z => encC z (some ⟨sb, 0, none⟩)) h9.symm)) | (have h9 := sentP_7 (s := s) (k := k) (q := q) (n := n) (by assumption) (by assumption) (by assumption) (by assumption); exact blk_eq (congrArg (fun z => encC z (some ⟨sb, 0, none⟩)) h9.symm)) | (have h9 := (sentP_8 (s := s) (k := k) (q := q) (n := n) (by assumption) (by assumption) (by assumption) (by assumption)).trans (rexP_1 (s := s) (x := (q - s.una) % 4294967296) (e := (q + n) % 4294967296) (by assumption) (by assumption)); exact blk_eq (congrArg (fun z => encC z (some ⟨sb, 0, none⟩)) h9.symm)) | (have h9 := (sentP_8 (s := s) (k := k) (q := q) (n := n) (by assumption) (by assumption) (by assumption) (by assumption)).trans (rexP_2 (s := s) (x := (q - s.una) % 4294967296) (e := (q + n) % 4294967296) (by assumption) (by assumption)); exact blk_eq (congrArg (fun z => encC z (some ⟨sb, 0, none⟩)) h9.symm)) | (have h9 := (sentP_8 (s := s) (k := k) (q := q) (n := n) (by assumption) (by assumption) (by assumption) (by assumption)).trans (rexP_3 (s := s) (x := (q - s.una) % 4294967296) (e := (q + n) % 4294967296) (by assumption) (by assumption)); exact blk_eq (congrArg (fun z => encC z (some ⟨sb, 0, none⟩)) h9.symm)) | (have h9 := (sentP_8 (s := s) (k := k) (q := q) (n := n) (by assumption) (by assumption) (by assumption) (by assumption)).trans (rexP_4 (s := s) (x := (q - s.una) % 4294967296) (e := (q + n) % 4294967296) (by assumption) (by assumption)); exact blk_eq (congrArg (fun z => encC z (some ⟨sb, 0, none⟩)) h9.symm)) | (have h9 := sentP_9 (s := s) (k := k) (q := q) (n := n) (by assumption) (by assumption) (by assumption); exact blk_eq (congrArg (fun z => encC z (some ⟨sb, 0, none⟩)) h9.symm)) | (have h9 := sentP_1 (s := s) (k := k) (q := q) (n := n) (by assumption) (by assumption) (by assumption); exact blk_eq (congrArg (fun z => bdL bu z bv) (congrArg CS.nxt h9).symm)) | (have h9 := sentP_2 (s := s) (k := k) (q := q) (n := n) (by assumption) (by assumption); exact blk_eq (congrArg (fun z => bdL bu z bv) (congrArg CS.nxt h9).symm)) | (have h9 := sentP_3 (s := s) (k := k) (q := q) (n := n) (by assumption) (by assumption); exact blk_eq (congrArg (fun z => bdL bu z bv) (congrArg CS.nxt h9).symm)) | (have h9 := sentP_4 (s := s) (k := k) (q := q) (n := n) (by assumption) (by assumption); exact blk_eq (congrArg (fun z => bdL bu z bv) (congrArg CS.nxt h9).symm)) | (have h9 := sentP_5 (s := s) (k := k) (q := q) (n := n) (by assumption) (by assumption); exact blk_eq (congrArg (fun z => bdL bu z bv) (congrArg CS.nxt h9).symm)) | (have h9 := sentP_6 (s := s) (k := k) (q := q) (n := n) (by assumption) (by assumption); exact blk_eq (congrArg (fun z => bdL bu z bv) (congrArg CS.nxt h9).symm)) | (have h9 := sentP_7 (s := s) (k := k) (q := q) (n := n) (by assumption) (by assumption) (by assumption) (by assumption); exact blk_eq (congrArg (fun z => bdL bu z bv) (congrArg CS.nxt h9).symm)) | (have h9 := (sentP_8 (s := s) (k := k) (q := q) (n := n) (by assumption) (by assumption) (by assumption) (by assumption)).trans (rexP_1 (s := s) (x := (q - s.una) % 4294967296) (e := (q + n) % 4294967296) (by assumption) (by assumption)); exact blk_eq (congrArg (fun z => bdL bu z bv) (congrArg CS.nxt h9).symm)) | (have h9 := (sentP_8 (s := s) (k := k) (q := q) (n := n) (by assumption) (by assumption) (by assumption) (by assumption)).trans (rexP_2 (s := s) (x := (q - s.una) % 4294967296) (e := (q + n) % 4294967296) (by assumption) (by assumption)); exact blk_eq (congrArg (fun z => bdL bu z bv) (congrArg CS.nxt h9).symm)) | (have h9 := (sentP_8 (s := s) (k := k) (q := q) (n := n) (by assumption) (by assumption) (by assumption) (by assumption)).trans (rexP_3 (s := s) (x := (q - s.una) % 4294967296) (e := (q + n) % 4294967296) (by assumption) (by assumption)); exact blk_eq (congrArg (fun z => bdL bu z bv) (congrArg CS.nxt h9).symm)) | (have h9 := (sentP_8 (s := s) (k := k) (q := q) (n := n) (by assumption) (by assumption) (by assumption) (by assumption)).trans (rexP_4 (s := s) (x := (q - s.una) % 4294967296) (e := (q + n) % 4294967296) (by assumption) (by assumption)); exact blk_eq (congrArg (fun z => bdL bu z bv) (congrArg CS.nxt h9).symm)) | (have h9 := sentP_9 (s := s) (k := k) (q := q) (n := n) (by assumption) (by assumption) (by assumption); exact blk_eq (congrArg (fun z => bdL bu z bv) (congrArg CS.nxt h9).symm)) | exact absurd hc2 (by simp) | rfl) | exact keeps_self | apply keeps_mv)) ?_
                  exact ⟨rfl, rfl⟩
            · intro hc5
              try simp only [decide_eq_true_eq, decide_eq_false_iff_not, Bool.not_eq_true', Bool.not_eq_false', Bool.not_eq_true, Bool.not_eq_false, Bool.and_eq_true, Bool.or_eq_true, Bool.and_eq_false_iff, Bool.or_eq_false_iff, Bool.not_not, ne_eq, Int.not_lt, Int.not_le, Decidable.not_not, beq_iff_eq, bne_iff_ne] at hc5
              refine wp_skip ?_
              refine blk_normal ?_
              refine f_end0 (F' := [(cp, C (encC (sentP s k q n) (some ⟨sb, 0, none⟩)) 66), (sb, C (bdL bu (sentP s k q n).nxt bv) 85)]) hl hh rfl (by repeat (first | exact keeps_nil | apply keeps_cons (by repeat (first | exact find_head | apply find_tail)) (by first  | (have h9 := sentP_1 (s := s) (k := k) (q := q) (n := n) (by assumption) (by assumption) (by assumption); exact blk_eq (congrArg (fun z => encC z (some ⟨sb, 0, none⟩)) h9.symm)) | (have h9 := sentP_2 (s := s) (k := k) (q := q) (n := n) (by assumption) (by assumption); exact blk_eq (congrArg (fun z => encC z (some ⟨sb, 0, none⟩)) h9.symm)) | (have h9 := sentP_3 (s := s) (k := k) (q := q) (n := n) (by assumption) (by assumption); exact blk_eq (congrArg (fun z => encC z (some ⟨sb, 0, none⟩)) h9.symm)) | (have h9 := sentP_4 (s := s) (k := k) (q := q) (n := n) (by assumption) (by assumption); exact blk_eq (congrArg (fun z => encC z (some ⟨sb, 0, none⟩)) h9.symm)) | (have h9 := sentP_5 (s := s) (k := k) (q := q) (n := n) (by assumption) (by assumption); exact blk_eq (congrArg (fun z => encC z (some ⟨sb, 0, none⟩)) h9.symm)) | (have h9 := sentP_6 (s := s) (k := k) (q := q) (n := n) (by assumption) (by assumption); exact blk_eq (congrArg (fun z => encC z (some ⟨sb, 0, none⟩)) h9.symm)) | (have h9 := sentP_7 (s := s) (k := k) (q := q) (n := n) (by assumption) (by assumption) (by assumption) (by assumption); exact blk_eq (congrArg (fun z => encC z (some ⟨sb, 0, none⟩)) h9.symm)) | (have h9 := (sentP_8 (s := s) (k := k) (q := q) (n := n) (by assumption) (by assumption) (by assumption) (by assumption)).trans (rexP_1 (s := s) (x := (q - s.una) % 4294967296) (e := (q + n) % 4294967296) (by assumption) (by assumption)); exact blk_eq (congrArg (fun z => encC z (some ⟨sb, 0, none⟩)) h9.symm)) | (have h9 := (sentP_8 (s := s) (k := k) (q := q) (n := n) (by assumption) (by assumption) (by assumption) (by assumption)).trans (rexP_2 (s := s) (x := (q - s.una) % 4294967296) (e := (q + n) % 4294967296) (by assumption) (by assumption)); exact blk_eq (congrArg (fun z => encC z (some ⟨sb, 0, none⟩)) h9.symm)) | (have h9 := (sentP_8 (s := s) (k := k) (q := q) (n := n) (by assumption) (by assumption) (by assumption) (by assumption)).trans (rexP_3 (s := s) (x := (q - s.una) % 4294967296) (e := (q + n) % 4294967296) (by assumption) (by assumption)); exact blk_eq (congrArg (fun z => encC z (some ⟨sb, 0, none⟩)) h9.symm)) | (have h9 := (sentP_8 (s := s) (k := k) (q := q) (n := n) (by assumption) (by assumption) (by assumption) (by assumption)).trans (rexP_4 (s := s) (x := (q - s.una) % 4294967296) (e := (q + n) % 4294967296) (by assumption) (by assumption)); exact blk_eq (congrArg (fun z => encC z (some ⟨sb, 0, none⟩)) h9.symm)) | (have h9 := sentP_9 (s := s) (k := k) (q := q) (n := n) (by assumption) (by assumption) (by assumption); exact blk_eq (congrArg (fun z => encC z (some ⟨sb, 0, none⟩)) h9.symm)) | (have h9 := sentP_1 (s := s) (k := k) (q := q) (n := n) (by assumption) (by assumption) (by assumption); exact blk_eq (congrArg (fun z => bdL bu z bv) (congrArg CS.nxt h9).symm)) | (have h9 := sentP_2 (s := s) (k := k) (q := q) (n := n) (by assumption) (by assumption); exact blk_eq (congrArg (fun z => bdL bu z bv) (congrArg CS.nxt h9).symm)) | (have h9 := sentP_3 (s := s) (k := k) (q := q) (n := n) (by assumption) (by assumption); exact blk_eq (congrArg (fun z => bdL bu z bv) (congrArg CS.nxt h9).symm)) | (have h9 := sentP_4 (s := s) (k := k) (q := q) (n := n) (by assumption) (by assumption); exact blk_eq (congrArg (fun z => bdL bu z bv) (congrArg CS.nxt h9).symm)) | (have h9 := sentP_5 (s := s) (k := k) (q := q) (n := n) (by assumption) (by assumption); exact blk_eq (congrArg (fun z => bdL bu z bv) (congrArg CS.nxt h9).symm)) | (have h9 := sentP_6 (s := s) (k := k) (q := q) (n := n) (by assumption) (by assumption); exact blk_eq (congrArg (fun z => bdL bu z bv) (congrArg CS.nxt h9).symm)) | (have h9 := sentP_7 (s := s) (k := k) (q := q) (n := n) (by assumption) (by assumption) (by assumption) (by assumption); exact blk_eq (congrArg (fun z => bdL bu z bv) (congrArg CS.nxt h9).symm)) | (have h9 := (sentP_8 (s := s) (k := k) (q := q) (n := n) (by assumption) (by assumption) (by assumption) (by assumption)).trans (rexP_1 (s := s) (x := (q - s.una) % 4294967296) (e := (q + n) % 4294967296) (by assumption) (by assumption)); exact blk_eq (congrArg (fun z => bdL bu z bv) (congrArg CS.nxt h9).symm)) | (have h9 := (sentP_8 (s := s) (k := k) (q := q) (n := n) (by assumption) (by assumption) (by assumption) (by assumption)).trans (rexP_2 (s := s) (x := (q - s.una) % 4294967296) (e := (q + n) % 4294967296) (by assumption) (by assumption)); exact blk_eq (congrArg (fun z => bdL bu z bv) (congrArg CS.nxt h9).symm)) | (have h9 := (sentP_8 (s := s) (k := k) (q := q) (n := n) (by assumption) (by assumption) (by assumption) (by assumption)).trans (rexP_3 (s := s) (x := (q - s.una) % 4294967296) (e := (q + n) % 4294967296) (by assumption) (by assumption)); exact blk_eq (congrArg (fun z => bdL bu z bv) (congrArg CS.nxt h9).symm)) | (have h9 := (sentP_8 (s := s) (k := k) (q := q) (n := n) (by assumption) (by assumption) (by assumption) (by assumption)).trans (rexP_4 (s := s) (x := (q - s.una) % 4294967296) (e := (q + n) % 4294967296) (by assumption) (by assumption)); exact blk_eq (congrArg (fun z => bdL bu z bv) (congrArg CS.nxt h9).symm)) | (have h9 := sentP_9 (s := s) (k := k) (q := q) (n := n) (by assumption) (by assumption) (by assumption); exact blk_eq (congrArg (fun z => bdL bu z bv) (congrArg CS.nxt h9).symm)) | exact absurd hc2 (by simp) | rfl) | exact keeps_self | apply keeps_mv)) ?_
              exact ⟨rfl, rfl⟩

set_option maxHeartbeats 1000000 in
theorem validate_spec (c : CF) (hc : CFok c) (gT : TypeId) (gv : Value) (GT : TypeId) (gf : Nat × Nat) : SpK Tryz.prog 29 #[.agg ⟨cfL c⟩] (fun w => w.heap[1]? = some (.cells ⟨[.iface gT gv]⟩ GT gf)) [] (fun v F' => (CV c ∧ v = .nilIface ∧ F' = []) ∨ (¬ CV c ∧ v = .iface gT gv ∧ F' = [])) := by
  refine f_enter (args := [.agg ⟨cfL c⟩]) Tryz.func29 rfl Tryz.ntmps29 rfl ?_
  intro w0 w a hpre hl hh
  have o1 := hc.init; have o2 := hc.maxc; have o3 := hc.bn; have o4 := hc.bd; have o5 := hc.abc; have o6 := hc.dupt; have o7 := hc.mss
  unfold cfL at hl
  simp only [slotsFrom, Nat.reduceAdd] at hl
  refine c_seq ?_
  refine c_region ?_
  refine wl (w_box hl hh rfl trivial rfl rfl ?_)
  clear hl hh a w; intro k1 a w hl hh
  refine wl (wl_val hl rfl trivial (r_assign hl rfl) ?_)
  clear hl a; intro a hl
  refine w_nil ?_
  have hl2 := hl.add (t := 1) (hl.nil) rfl; clear hl; have hl := hl2; clear hl2
  refine then_normal ?_
  refine c_seq ?_
  refine c_region ?_
  refine wl (wl_val hl rfl trivial (r_field hl rfl fld33_0) ?_)
  clear hl a; intro a hl
  refine wl (w_loadA hl hh rfl trivial agg31 rfl (by repeat (first | exact find_head | apply find_tail)) (by first | (simp only [List.getElem?_cons_zero, List.getElem?_cons_succ, Value.cells, List.take_zero, List.take_succ_cons, List.take_nil, List.drop_zero, List.drop_succ_cons, List.drop_nil, List.length_cons, List.length_nil, List.cons_append, List.nil_append, List.append_nil, Nat.zero_add, Nat.add_zero, Nat.reduceAdd, Nat.reduceBEq, Nat.reduceEqDiff, Nat.ble, BEq.rfl, Bool.and_true, Bool.and_self, cond_true, beq_self_eq_true]; rfl)) (by first | rfl | (simp; done)) ?_)
  clear hl a; intro a hl
  refine wl (w_alloc hl hh rfl trivial zero31 rfl ?_)
  clear hl hh a w; intro k3 a w hl hh
  refine wl (w_storeA hl hh trivial agg31 rfl rfl (by repeat (first | exact find_head | apply find_tail)) (by first | rfl | (simp; done)) (by first | (simp; done) | (simp; omega)) (by first | rfl | (simp; done)) (by first | (simp only [setL, List.getElem?_cons_zero, List.getElem?_cons_succ, Value.cells, List.take_zero, List.take_succ_cons, List.take_nil, List.drop_zero, List.drop_succ_cons, List.drop_nil, List.length_cons, List.length_nil, List.cons_append, List.nil_append, List.append_nil, Nat.zero_add, Nat.add_zero, Nat.reduceAdd, Nat.reduceBEq, Nat.reduceEqDiff, Nat.ble, BEq.rfl, Bool.and_true, Bool.and_self, cond_true, beq_self_eq_true]; rfl)) ?_)
  clear hh w; intro w hh
  refine w_nil ?_
  have hl2 := hl.add (t := 1) (hl.add (t := 3) (hl.nil) rfl) rfl; clear hl; have hl := hl2; clear hl2
  refine then_normal ?_
  refine c_seq ?_
  refine wp_block ?_
  refine c_seq ?_
  refine c_seq ?_
  refine c_region ?_
  refine wl (wl_val hl rfl trivial (r_field hl rfl fld33_1) ?_)
  clear hl a; intro a hl
  first | refine wl (w_load hl hh rfl trivial one29 rfl (by repeat (first | exact find_head | apply find_tail)) (by first | rfl) ?_) | refine wl (w_loadR hl hh rfl trivial one29 rfl hpre (by simp) rfl ?_)
  clear hl a; intro a hl
  refine wl (wl_val hl rfl trivial (r_eql hl rfl rfl) ?_)
  clear hl a; intro a hl
  refine wl (wl_val hl rfl trivial (r_move hl rfl) ?_)
  clear hl a; intro a hl
  refine sl_split (t := 10) hl rfl ?_ ?_
  · intro hg1; clear hl; intro hl
    try simp only [decide_eq_true_eq, decide_eq_false_iff_not, Bool.not_eq_true', Bool.not_eq_false', Bool.not_eq_true, Bool.not_eq_false, Bool.and_eq_true, Bool.or_eq_true, Bool.and_eq_false_iff, Bool.or_eq_false_iff, Bool.not_not, ne_eq, Int.not_lt, Int.not_le, Decidable.not_not, beq_iff_eq, bne_iff_ne] at hg1
    refine wl (wl_skip hl rfl ⟨_, _, rfl, rfl, rfl⟩ ?_)
    clear hl a; intro a hl
    refine wl (wl_skip hl rfl ⟨_, _, rfl, rfl, rfl⟩ ?_)
    clear hl a; intro a hl
    refine wl (wl_skip hl rfl ⟨_, _, rfl, rfl, rfl⟩ ?_)
    clear hl a; intro a hl
    refine wl (wl_val hl rfl trivial (r_pickT hl rfl rfl) ?_)
    clear hl a; intro a hl
    refine wl (wl_val hl rfl trivial (r_assign hl rfl) ?_)
    clear hl a; intro a hl
    refine w_nil ?_
    have hl2 := hl.add (t := 1) (hl.add (t := 3) (hl.add (t := 6) (hl.nil) rfl) rfl) rfl; clear hl; have hl := hl2; clear hl2
    refine then_normal ?_
    refine c_condT hl rfl ?_
    refine wp_skip ?_
    refine then_normal ?_
    refine c_condT hl rfl ?_
    refine c_seq ?_
    refine c_region ?_
    first | refine wl (w_load hl hh rfl trivial one26 rfl (by repeat (first | exact find_head | apply find_tail)) (by first | rfl) ?_) | refine wl (w_loadR hl hh rfl trivial one26 rfl hpre (by simp) rfl ?_)
    clear hl a; intro a hl
    refine wl (wl_val hl rfl trivial (r_assign hl rfl) ?_)
    clear hl a; intro a hl
    refine w_nil ?_
    have hl2 := hl.add (t := 2) (hl.nil) rfl; clear hl; have hl := hl2; clear hl2
    refine then_normal ?_
    refine wp_ret ?_
    refine blk_ret ?_
    refine then_ret ?_
    refine f_ret1 (F' := []) hl hh rfl rfl (by repeat (first | exact keeps_nil | apply keeps_cons (by repeat (first | exact find_head | apply find_tail)) (by first  | rfl) | exact keeps_self | apply keeps_mv)) ?_
    first | exact .inl ⟨by unfold CV; omega, rfl, rfl⟩ | exact .inr ⟨by unfold CV; omega, rfl, rfl⟩
  · intro hg1; clear hl; intro hl
    try simp only [decide_eq_true_eq, decide_eq_false_iff_not, Bool.not_eq_true', Bool.not_eq_false', Bool.not_eq_true, Bool.not_eq_false, Bool.and_eq_true, Bool.or_eq_true, Bool.and_eq_false_iff, Bool.or_eq_false_iff, Bool.not_not, ne_eq, Int.not_lt, Int.not_le, Decidable.not_not, beq_iff_eq, bne_iff_ne] at hg1
    refine wl (wl_val hl rfl ⟨_, _, rfl, rfl, rfl⟩ (r_field hl rfl fld33_1) ?_)
    clear hl a; intro a hl
    first | refine wl (w_load hl hh rfl ⟨_, _, rfl, rfl, rfl⟩ one29 rfl (by repeat (first | exact find_head | apply find_tail)) (by first | rfl) ?_) | refine wl (w_loadR hl hh rfl ⟨_, _, rfl, rfl, rfl⟩ one29 rfl hpre (by simp) rfl ?_)
    clear hl a; intro a hl
    refine wl (wl_val hl rfl ⟨_, _, rfl, rfl, rfl⟩ (r_gtr hl rfl rfl) ?_)
    clear hl a; intro a hl
    refine wl (wl_val hl rfl trivial (r_pickF hl rfl rfl) ?_)
    clear hl a; intro a hl
    refine wl (wl_val hl rfl trivial (r_assign hl rfl) ?_)
    clear hl a; intro a hl
    refine w_nil ?_
    have hl2 := hl.add (t := 1) (hl.add (t := 3) (hl.add (t := 6) (hl.nil) rfl) rfl) rfl; clear hl; have hl := hl2; clear hl2
    refine then_normal ?_
    refine c_cond hl rfl ?_ ?_
    · intro hc0
      try simp only [decide_eq_true_eq, decide_eq_false_iff_not, Bool.not_eq_true', Bool.not_eq_false', Bool.not_eq_true, Bool.not_eq_false, Bool.and_eq_true, Bool.or_eq_true, Bool.and_eq_false_iff, Bool.or_eq_false_iff, Bool.not_not, ne_eq, Int.not_lt, Int.not_le, Decidable.not_not, beq_iff_eq, bne_iff_ne] at hc0
      refine wp_skip ?_
      refine then_normal ?_
      refine c_cond hl rfl ?_ ?_
      · intro hc5
        try simp only [decide_eq_true_eq, decide_eq_false_iff_not, Bool.not_eq_true', Bool.not_eq_false', Bool.not_eq_true, Bool.not_eq_false, Bool.and_eq_true, Bool.or_eq_true, Bool.and_eq_false_iff, Bool.or_eq_false_iff, Bool.not_not, ne_eq, Int.not_lt, Int.not_le, Decidable.not_not, beq_iff_eq, bne_iff_ne] at hc5
        refine c_seq ?_
        refine c_region ?_
        first | refine wl (w_load hl hh rfl trivial one26 rfl (by repeat (first | exact find_head | apply find_tail)) (by first | rfl) ?_) | refine wl (w_loadR hl hh rfl trivial one26 rfl hpre (by simp) rfl ?_)
        clear hl a; intro a hl
        refine wl (wl_val hl rfl trivial (r_assign hl rfl) ?_)
        clear hl a; intro a hl
        refine w_nil ?_
        have hl2 := hl.add (t := 2) (hl.nil) rfl; clear hl; have hl := hl2; clear hl2
        refine then_normal ?_
        refine wp_ret ?_
        refine blk_ret ?_
        refine then_ret ?_
        refine f_ret1 (F' := []) hl hh rfl rfl (by repeat (first | exact keeps_nil | apply keeps_cons (by repeat (first | exact find_head | apply find_tail)) (by first  | rfl) | exact keeps_self | apply keeps_mv)) ?_
        first | exact .inl ⟨by unfold CV; omega, rfl, rfl⟩ | exact .inr ⟨by unfold CV; omega, rfl, rfl⟩
      · intro hc5
        try simp only [decide_eq_true_eq, decide_eq_false_iff_not, Bool.not_eq_true', Bool.not_eq_false', Bool.not_eq_true, Bool.not_eq_false, Bool.and_eq_true, Bool.or_eq_true, Bool.and_eq_false_iff, Bool.or_eq_false_iff, Bool.not_not, ne_eq, Int.not_lt, Int.not_le, Decidable.not_not, beq_iff_eq, bne_iff_ne] at hc5
        refine wp_skip ?_
        refine blk_normal ?_
        refine then_normal ?_
        refine c_seq ?_
        refine c_region ?_
        refine wl (wl_val hl rfl trivial (r_assign hl rfl) ?_)
        clear hl a; intro a hl
        refine w_nil ?_
        have hl2 := hl.add (t := 2) (hl.nil) rfl; clear hl; have hl := hl2; clear hl2
        refine then_normal ?_
        refine wp_ret ?_
        refine f_ret1 (F' := []) hl hh rfl rfl (by repeat (first | exact keeps_nil | apply keeps_cons (by repeat (first | exact find_head | apply find_tail)) (by first  | rfl) | exact keeps_self | apply keeps_mv)) ?_
        first | exact .inl ⟨by unfold CV; omega, rfl, rfl⟩ | exact .inr ⟨by unfold CV; omega, rfl, rfl⟩
    · intro hc0
      try simp only [decide_eq_true_eq, decide_eq_false_iff_not, Bool.not_eq_true', Bool.not_eq_false', Bool.not_eq_true, Bool.not_eq_false, Bool.and_eq_true, Bool.or_eq_true, Bool.and_eq_false_iff, Bool.or_eq_false_iff, Bool.not_not, ne_eq, Int.not_lt, Int.not_le, Decidable.not_not, beq_iff_eq, bne_iff_ne] at hc0
      refine c_seq ?_
      refine c_region ?_
      refine wl (wl_val hl rfl trivial (r_field hl rfl fld31_1) ?_)
      clear hl a; intro a hl
      first | refine wl (w_load hl hh rfl trivial one29 rfl (by repeat (first | exact find_head | apply find_tail)) (by first | rfl) ?_) | refine wl (w_loadR hl hh rfl trivial one29 rfl hpre (by simp) rfl ?_)
      clear hl a; intro a hl
      refine wl (wl_val hl rfl trivial (r_field hl rfl fld33_1) ?_)
      clear hl a; intro a hl
      first | refine wl (w_load hl hh rfl trivial one29 rfl (by repeat (first | exact find_head | apply find_tail)) (by first | rfl) ?_) | refine wl (w_loadR hl hh rfl trivial one29 rfl hpre (by simp) rfl ?_)
      clear hl a; intro a hl
      first | refine wl (wl_val hl rfl trivial (r_mul hl rfl rfl (by simp only [Fits]; omega)) ?_) | refine wl (wl_val hl rfl trivial (r_mulM wm_u32 hl rfl rfl) ?_)
      clear hl a; intro a hl
      refine wl (wl_val hl rfl trivial (r_lss hl rfl rfl) ?_)
      clear hl a; intro a hl
      refine wl (wl_val hl rfl trivial (r_move hl rfl) ?_)
      clear hl a; intro a hl
      refine sl_split (t := 21) hl rfl ?_ ?_
      · intro hg2; clear hl; intro hl
        try simp only [decide_eq_true_eq, decide_eq_false_iff_not, Bool.not_eq_true', Bool.not_eq_false', Bool.not_eq_true, Bool.not_eq_false, Bool.and_eq_true, Bool.or_eq_true, Bool.and_eq_false_iff, Bool.or_eq_false_iff, Bool.not_not, ne_eq, Int.not_lt, Int.not_le, Decidable.not_not, beq_iff_eq, bne_iff_ne] at hg2
        refine wl (wl_skip hl rfl ⟨_, _, rfl, rfl, rfl⟩ ?_)
        clear hl a; intro a hl
        refine wl (wl_skip hl rfl ⟨_, _, rfl, rfl, rfl⟩ ?_)
        clear hl a; intro a hl
        refine wl (wl_skip hl rfl ⟨_, _, rfl, rfl, rfl⟩ ?_)
        clear hl a; intro a hl
        refine wl (wl_val hl rfl trivial (r_pickT hl rfl rfl) ?_)
        clear hl a; intro a hl
        refine wl (wl_val hl rfl trivial (r_assign hl rfl) ?_)
        clear hl a; intro a hl
        refine w_nil ?_
        have hl2 := hl.add (t := 3) (hl.add (t := 6) (hl.nil) rfl) rfl; clear hl; have hl := hl2; clear hl2
        refine then_normal ?_
        refine c_condT hl rfl ?_
        refine wp_skip ?_
        refine then_normal ?_
        refine c_condT hl rfl ?_
        refine c_seq ?_
        refine c_region ?_
        first | refine wl (w_load hl hh rfl trivial one26 rfl (by repeat (first | exact find_head | apply find_tail)) (by first | rfl) ?_) | refine wl (w_loadR hl hh rfl trivial one26 rfl hpre (by simp) rfl ?_)
        clear hl a; intro a hl
        refine wl (wl_val hl rfl trivial (r_assign hl rfl) ?_)
        clear hl a; intro a hl
        refine w_nil ?_
        have hl2 := hl.add (t := 2) (hl.nil) rfl; clear hl; have hl := hl2; clear hl2
        refine then_normal ?_
        refine wp_ret ?_
        refine blk_ret ?_
        refine then_ret ?_
        refine f_ret1 (F' := []) hl hh rfl rfl (by repeat (first | exact keeps_nil | apply keeps_cons (by repeat (first | exact find_head | apply find_tail)) (by first  | rfl) | exact keeps_self | apply keeps_mv)) ?_
        first | exact .inl ⟨by unfold CV; omega, rfl, rfl⟩ | exact .inr ⟨by unfold CV; omega, rfl, rfl⟩
      · intro hg2; clear hl; intro hl
        try simp only [decide_eq_true_eq, decide_eq_false_iff_not, Bool.not_eq_true', Bool.not_eq_false', Bool.not_eq_true, Bool.not_eq_false, Bool.and_eq_true, Bool.or_eq_true, Bool.and_eq_false_iff, Bool.or_eq_false_iff, Bool.not_not, ne_eq, Int.not_lt, Int.not_le, Decidable.not_not, beq_iff_eq, bne_iff_ne] at hg2
        refine wl (wl_val hl rfl ⟨_, _, rfl, rfl, rfl⟩ (r_field hl rfl fld31_1) ?_)
        clear hl a; intro a hl
        first | refine wl (w_load hl hh rfl ⟨_, _, rfl, rfl, rfl⟩ one29 rfl (by repeat (first | exact find_head | apply find_tail)) (by first | rfl) ?_) | refine wl (w_loadR hl hh rfl ⟨_, _, rfl, rfl, rfl⟩ one29 rfl hpre (by simp) rfl ?_)
        clear hl a; intro a hl
        refine wl (wl_val hl rfl ⟨_, _, rfl, rfl, rfl⟩ (r_gtr hl rfl rfl) ?_)
        clear hl a; intro a hl
        refine wl (wl_val hl rfl trivial (r_pickF hl rfl rfl) ?_)
        clear hl a; intro a hl
        refine wl (wl_val hl rfl trivial (r_assign hl rfl) ?_)
        clear hl a; intro a hl
        refine w_nil ?_
        have hl2 := hl.add (t := 3) (hl.add (t := 6) (hl.nil) rfl) rfl; clear hl; have hl := hl2; clear hl2
        refine then_normal ?_
        refine c_cond hl rfl ?_ ?_
        · intro hc1
          try simp only [decide_eq_true_eq, decide_eq_false_iff_not, Bool.not_eq_true', Bool.not_eq_false', Bool.not_eq_true, Bool.not_eq_false, Bool.and_eq_true, Bool.or_eq_true, Bool.and_eq_false_iff, Bool.or_eq_false_iff, Bool.not_not, ne_eq, Int.not_lt, Int.not_le, Decidable.not_not, beq_iff_eq, bne_iff_ne] at hc1
          refine wp_skip ?_
          refine then_normal ?_
          refine c_cond hl rfl ?_ ?_
          · intro hc5
            try simp only [decide_eq_true_eq, decide_eq_false_iff_not, Bool.not_eq_true', Bool.not_eq_false', Bool.not_eq_true, Bool.not_eq_false, Bool.and_eq_true, Bool.or_eq_true, Bool.and_eq_false_iff, Bool.or_eq_false_iff, Bool.not_not, ne_eq, Int.not_lt, Int.not_le, Decidable.not_not, beq_iff_eq, bne_iff_ne] at hc5
            refine c_seq ?_
            refine c_region ?_
            first | refine wl (w_load hl hh rfl trivial one26 rfl (by repeat (first | exact find_head | apply find_tail)) (by first | rfl) ?_) | refine wl (w_loadR hl hh rfl trivial one26 rfl hpre (by simp) rfl ?_)
            clear hl a; intro a hl
            refine wl (wl_val hl rfl trivial (r_assign hl rfl) ?_)
            clear hl a; intro a hl
            refine w_nil ?_
            have hl2 := hl.add (t := 2) (hl.nil) rfl; clear hl; have hl := hl2; clear hl2
            refine then_normal ?_
            refine wp_ret ?_
            refine blk_ret ?_
            refine then_ret ?_
            refine f_ret1 (F' := []) hl hh rfl rfl (by repeat (first | exact keeps_nil | apply keeps_cons (by repeat (first | exact find_head | apply find_tail)) (by first  | rfl) | exact keeps_self | apply keeps_mv)) ?_
            first | exact .inl ⟨by unfold CV; omega, rfl, rfl⟩ | exact .inr ⟨by unfold CV; omega, rfl, rfl⟩
          · intro hc5
            try simp only [decide_eq_true_eq, decide_eq_false_iff_not, Bool.not_eq_true', Bool.not_eq_false', Bool.not_eq_true, Bool.not_eq_false, Bool.and_eq_true, Bool.or_eq_true, Bool.and_eq_false_iff, Bool.or_eq_false_iff, Bool.not_not, ne_eq, Int.not_lt, Int.not_le, Decidable.not_not, beq_iff_eq, bne_iff_ne] at hc5
            refine wp_skip ?_
            refine blk_normal ?_
            refine then_normal ?_
            refine c_seq ?_
            refine c_region ?_
            refine wl (wl_val hl rfl trivial (r_assign hl rfl) ?_)
            clear hl a; intro a hl
            refine w_nil ?_
            have hl2 := hl.add (t := 2) (hl.nil) rfl; clear hl; have hl := hl2; clear hl2
            refine then_normal ?_
            refine wp_ret ?_
            refine f_ret1 (F' := []) hl hh rfl rfl (by repeat (first | exact keeps_nil | apply keeps_cons (by repeat (first | exact find_head | apply find_tail)) (by first  | rfl) | exact keeps_self | apply keeps_mv)) ?_
            first | exact .inl ⟨by unfold CV; omega, rfl, rfl⟩ | exact .inr ⟨by unfold CV; omega, rfl, rfl⟩
        · intro hc1
          try simp only [decide_eq_true_eq, decide_eq_false_iff_not, Bool.not_eq_true', Bool.not_eq_false', Bool.not_eq_true, Bool.not_eq_false, Bool.and_eq_true, Bool.or_eq_true, Bool.and_eq_false_iff, Bool.or_eq_false_iff, Bool.not_not, ne_eq, Int.not_lt, Int.not_le, Decidable.not_not, beq_iff_eq, bne_iff_ne] at hc1
          refine c_seq ?_
          refine c_region ?_
          refine wl (wl_val hl rfl trivial (r_field hl rfl fld31_0) ?_)
          clear hl a; intro a hl
          first | refine wl (w_load hl hh rfl trivial one29 rfl (by repeat (first | exact find_head | apply find_tail)) (by first | rfl) ?_) | refine wl (w_loadR hl hh rfl trivial one29 rfl hpre (by simp) rfl ?_)
          clear hl a; intro a hl
          refine wl (wl_val hl rfl trivial (r_gtr hl rfl rfl) ?_)
          clear hl a; intro a hl
          refine wl (wl_val hl rfl trivial (r_assign hl rfl) ?_)
          clear hl a; intro a hl
          refine w_nil ?_
          have hl2 := hl.add (t := 3) (hl.add (t := 6) (hl.nil) rfl) rfl; clear hl; have hl := hl2; clear hl2
          refine then_normal ?_
          refine c_cond hl rfl ?_ ?_
          · intro hc2
            try simp only [decide_eq_true_eq, decide_eq_false_iff_not, Bool.not_eq_true', Bool.not_eq_false', Bool.not_eq_true, Bool.not_eq_false, Bool.and_eq_true, Bool.or_eq_true, Bool.and_eq_false_iff, Bool.or_eq_false_iff, Bool.not_not, ne_eq, Int.not_lt, Int.not_le, Decidable.not_not, beq_iff_eq, bne_iff_ne] at hc2
            refine wp_skip ?_
            refine then_normal ?_
            refine c_cond hl rfl ?_ ?_
            · intro hc5
              try simp only [decide_eq_true_eq, decide_eq_false_iff_not, Bool.not_eq_true', Bool.not_eq_false', Bool.not_eq_true, Bool.not_eq_false, Bool.and_eq_true, Bool.or_eq_true, Bool.and_eq_false_iff, Bool.or_eq_false_iff, Bool.not_not, ne_eq, Int.not_lt, Int.not_le, Decidable.not_not, beq_iff_eq, bne_iff_ne] at hc5
              refine c_seq ?_
              refine c_region ?_
              first | refine wl (w_load hl hh rfl trivial one26 rfl (by repeat (first | exact find_head | apply find_tail)) (by first | rfl) ?_) | refine wl (w_loadR hl hh rfl trivial one26 rfl hpre (by simp) rfl ?_)
              clear hl a; intro a hl
              refine wl (wl_val hl rfl trivial (r_assign hl rfl) ?_)
              clear hl a; intro a hl
              refine w_nil ?_
              have hl2 := hl.add (t := 2) (hl.nil) rfl; clear hl; have hl := hl2; clear hl2
              refine then_normal ?_
              refine wp_ret ?_
              refine blk_ret ?_
              refine then_ret ?_
              refine f_ret1 (F' := []) hl hh rfl rfl (by repeat (first | exact keeps_nil | apply keeps_cons (by repeat (first | exact find_head | apply find_tail)) (by first  | rfl) | exact keeps_self | apply keeps_mv)) ?_
              first | exact .inl ⟨by unfold CV; omega, rfl, rfl⟩ | exact .inr ⟨by unfold CV; omega, rfl, rfl⟩
            · intro hc5
              try simp only [decide_eq_true_eq, decide_eq_false_iff_not, Bool.not_eq_true', Bool.not_eq_false', Bool.not_eq_true, Bool.not_eq_false, Bool.and_eq_true, Bool.or_eq_true, Bool.and_eq_false_iff, Bool.or_eq_false_iff, Bool.not_not, ne_eq, Int.not_lt, Int.not_le, Decidable.not_not, beq_iff_eq, bne_iff_ne] at hc5
              refine wp_skip ?_
              refine blk_normal ?_
              refine then_normal ?_
              refine c_seq ?_
              refine c_region ?_
              refine wl (wl_val hl rfl trivial (r_assign hl rfl) ?_)
              clear hl a; intro a hl
              refine w_nil ?_
              have hl2 := hl.add (t := 2) (hl.nil) rfl; clear hl; have hl := hl2; clear hl2
              refine then_normal ?_
              refine wp_ret ?_
              refine f_ret1 (F' := []) hl hh rfl rfl (by repeat (first | exact keeps_nil | apply keeps_cons (by repeat (first | exact find_head | apply find_tail)) (by first  | rfl) | exact keeps_self | apply keeps_mv)) ?_
              first | exact .inl ⟨by unfold CV; omega, rfl, rfl⟩ | exact .inr ⟨by unfold CV; omega, rfl, rfl⟩
          · intro hc2
            try simp only [decide_eq_true_eq, decide_eq_false_iff_not, Bool.not_eq_true', Bool.not_eq_false', Bool.not_eq_true, Bool.not_eq_false, Bool.and_eq_true, Bool.or_eq_true, Bool.and_eq_false_iff, Bool.or_eq_false_iff, Bool.not_not, ne_eq, Int.not_lt, Int.not_le, Decidable.not_not, beq_iff_eq, bne_iff_ne] at hc2
            refine c_seq ?_
            refine c_region ?_
            refine wl (wl_val hl rfl trivial (r_field hl rfl fld31_2) ?_)
            clear hl a; intro a hl
            first | refine wl (w_load hl hh rfl trivial one29 rfl (by repeat (first | exact find_head | apply find_tail)) (by first | rfl) ?_) | refine wl (w_loadR hl hh rfl trivial one29 rfl hpre (by simp) rfl ?_)
            clear hl a; intro a hl
            refine wl (wl_val hl rfl trivial (r_eql hl rfl rfl) ?_)
            clear hl a; intro a hl
            refine wl (wl_val hl rfl trivial (r_move hl rfl) ?_)
            clear hl a; intro a hl
            refine sl_split (t := 32) hl rfl ?_ ?_
            · intro hg3; clear hl; intro hl
              try simp only [decide_eq_true_eq, decide_eq_false_iff_not, Bool.not_eq_true', Bool.not_eq_false', Bool.not_eq_true, Bool.not_eq_false, Bool.and_eq_true, Bool.or_eq_true, Bool.and_eq_false_iff, Bool.or_eq_false_iff, Bool.not_not, ne_eq, Int.not_lt, Int.not_le, Decidable.not_not, beq_iff_eq, bne_iff_ne] at hg3
              refine wl (wl_skip hl rfl ⟨_, _, rfl, rfl, rfl⟩ ?_)
              clear hl a; intro a hl
              refine wl (wl_skip hl rfl ⟨_, _, rfl, rfl, rfl⟩ ?_)
              clear hl a; intro a hl
              refine wl (wl_skip hl rfl ⟨_, _, rfl, rfl, rfl⟩ ?_)
              clear hl a; intro a hl
              refine wl (wl_skip hl rfl ⟨_, _, rfl, rfl, rfl⟩ ?_)
              clear hl a; intro a hl
              refine wl (wl_skip hl rfl ⟨_, _, rfl, rfl, rfl⟩ ?_)
              clear hl a; intro a hl
              refine wl (wl_val hl rfl trivial (r_pickT hl rfl rfl) ?_)
              clear hl a; intro a hl
              refine wl (wl_val hl rfl trivial (r_assign hl rfl) ?_)
              clear hl a; intro a hl
              refine w_nil ?_
              have hl2 := hl.add (t := 3) (hl.add (t := 6) (hl.nil) rfl) rfl; clear hl; have hl := hl2; clear hl2
              refine then_normal ?_
              refine c_condT hl rfl ?_
              refine wp_skip ?_
              refine then_normal ?_
              refine c_condT hl rfl ?_
              refine c_seq ?_
              refine c_region ?_
              first | refine wl (w_load hl hh rfl trivial one26 rfl (by repeat (first | exact find_head | apply find_tail)) (by first | rfl) ?_) | refine wl (w_loadR hl hh rfl trivial one26 rfl hpre (by simp) rfl ?_)
              clear hl a; intro a hl
              refine wl (wl_val hl rfl trivial (r_assign hl rfl) ?_)
              clear hl a; intro a hl
              refine w_nil ?_
              have hl2 := hl.add (t := 2) (hl.nil) rfl; clear hl; have hl := hl2; clear hl2
              refine then_normal ?_
              refine wp_ret ?_
              refine blk_ret ?_
              refine then_ret ?_
              refine f_ret1 (F' := []) hl hh rfl rfl (by repeat (first | exact keeps_nil | apply keeps_cons (by repeat (first | exact find_head | apply find_tail)) (by first  | rfl) | exact keeps_self | apply keeps_mv)) ?_
              first | exact .inl ⟨by unfold CV; omega, rfl, rfl⟩ | exact .inr ⟨by unfold CV; omega, rfl, rfl⟩
            · intro hg3; clear hl; intro hl
              try simp only [decide_eq_true_eq, decide_eq_false_iff_not, Bool.not_eq_true', Bool.not_eq_false', Bool.not_eq_true, Bool.not_eq_false, Bool.and_eq_true, Bool.or_eq_true, Bool.and_eq_false_iff, Bool.or_eq_false_iff, Bool.not_not, ne_eq, Int.not_lt, Int.not_le, Decidable.not_not, beq_iff_eq, bne_iff_ne] at hg3
              refine wl (wl_val hl rfl ⟨_, _, rfl, rfl, rfl⟩ (r_field hl rfl fld31_2) ?_)
              clear hl a; intro a hl
              first | refine wl (w_load hl hh rfl ⟨_, _, rfl, rfl, rfl⟩ one29 rfl (by repeat (first | exact find_head | apply find_tail)) (by first | rfl) ?_) | refine wl (w_loadR hl hh rfl ⟨_, _, rfl, rfl, rfl⟩ one29 rfl hpre (by simp) rfl ?_)
              clear hl a; intro a hl
              refine wl (wl_val hl rfl ⟨_, _, rfl, rfl, rfl⟩ (r_field hl rfl fld31_3) ?_)
              clear hl a; intro a hl
              first | refine wl (w_load hl hh rfl ⟨_, _, rfl, rfl, rfl⟩ one29 rfl (by repeat (first | exact find_head | apply find_tail)) (by first | rfl) ?_) | refine wl (w_loadR hl hh rfl ⟨_, _, rfl, rfl, rfl⟩ one29 rfl hpre (by simp) rfl ?_)
              clear hl a; intro a hl
              refine wl (wl_val hl rfl ⟨_, _, rfl, rfl, rfl⟩ (r_geq hl rfl rfl) ?_)
              clear hl a; intro a hl
              refine wl (wl_val hl rfl trivial (r_pickF hl rfl rfl) ?_)
              clear hl a; intro a hl
              refine wl (wl_val hl rfl trivial (r_assign hl rfl) ?_)
              clear hl a; intro a hl
              refine w_nil ?_
              have hl2 := hl.add (t := 3) (hl.add (t := 6) (hl.nil) rfl) rfl; clear hl; have hl := hl2; clear hl2
              refine then_normal ?_
              refine c_cond hl rfl ?_ ?_
              · intro hc3
                try simp only [decide_eq_true_eq, decide_eq_false_iff_not, Bool.not_eq_true', Bool.not_eq_false', Bool.not_eq_true, Bool.not_eq_false, Bool.and_eq_true, Bool.or_eq_true, Bool.and_eq_false_iff, Bool.or_eq_false_iff, Bool.not_not, ne_eq, Int.not_lt, Int.not_le, Decidable.not_not, beq_iff_eq, bne_iff_ne] at hc3
                refine wp_skip ?_
                refine then_normal ?_
                refine c_cond hl rfl ?_ ?_
                · intro hc5
                  try simp only [decide_eq_true_eq, decide_eq_false_iff_not, Bool.not_eq_true', Bool.not_eq_false', Bool.not_eq_true, Bool.not_eq_false, Bool.and_eq_true, Bool.or_eq_true, Bool.and_eq_false_iff, Bool.or_eq_false_iff, Bool.not_not, ne_eq, Int.not_lt, Int.not_le, Decidable.not_not, beq_iff_eq, bne_iff_ne] at hc5
                  refine c_seq ?_
                  refine c_region ?_
                  first | refine wl (w_load hl hh rfl trivial one26 rfl (by repeat (first | exact find_head | apply find_tail)) (by first | rfl) ?_) | refine wl (w_loadR hl hh rfl trivial one26 rfl hpre (by simp) rfl ?_)
                  clear hl a; intro a hl
                  refine wl (wl_val hl rfl trivial (r_assign hl rfl) ?_)
                  clear hl a; intro a hl
                  refine w_nil ?_
                  have hl2 := hl.add (t := 2) (hl.nil) rfl; clear hl; have hl := hl2; clear hl2
                  refine then_normal ?_
                  refine wp_ret ?_
                  refine blk_ret ?_
                  refine then_ret ?_
                  refine f_ret1 (F' := []) hl hh rfl rfl (by repeat (first | exact keeps_nil | apply keeps_cons (by repeat (first | exact find_head | apply find_tail)) (by first  | rfl) | exact keeps_self | apply keeps_mv)) ?_
                  first | exact .inl ⟨by unfold CV; omega, rfl, rfl⟩ | exact .inr ⟨by unfold CV; omega, rfl, rfl⟩
                · intro hc5
                  try simp only [decide_eq_true_eq, decide_eq_false_iff_not, Bool.not_eq_true', Bool.not_eq_false', Bool.not_eq_true, Bool.not_eq_false, Bool.and_eq_true, Bool.or_eq_true, Bool.and_eq_false_iff, Bool.or_eq_false_iff, Bool.not_not, ne_eq, Int.not_lt, Int.not_le, Decidable.not_not, beq_iff_eq, bne_iff_ne] at hc5
                  refine wp_skip ?_
                  refine blk_normal ?_
                  refine then_normal ?_
                  refine c_seq ?_
                  refine c_region ?_
                  refine wl (wl_val hl rfl trivial (r_assign hl rfl) ?_)
                  clear hl a; intro a hl
                  refine w_nil ?_
                  have hl2 := hl.add (t := 2) (hl.nil) rfl; clear hl; have hl := hl2; clear hl2
                  refine then_normal ?_
                  refine wp_ret ?_
                  refine f_ret1 (F' := []) hl hh rfl rfl (by repeat (first | exact keeps_nil | apply keeps_cons (by repeat (first | exact find_head | apply find_tail)) (by first  | rfl) | exact keeps_self | apply keeps_mv)) ?_
                  first | exact .inl ⟨by unfold CV; omega, rfl, rfl⟩ | exact .inr ⟨by unfold CV; omega, rfl, rfl⟩
              · intro hc3
                try simp only [decide_eq_true_eq, decide_eq_false_iff_not, Bool.not_eq_true', Bool.not_eq_false', Bool.not_eq_true, Bool.not_eq_false, Bool.and_eq_true, Bool.or_eq_true, Bool.and_eq_false_iff, Bool.or_eq_false_iff, Bool.not_not, ne_eq, Int.not_lt, Int.not_le, Decidable.not_not, beq_iff_eq, bne_iff_ne] at hc3
                refine c_seq ?_
                refine c_region ?_
                refine wl (wl_val hl rfl trivial (r_field hl rfl fld31_4) ?_)
                clear hl a; intro a hl
                first | refine wl (w_load hl hh rfl trivial one29 rfl (by repeat (first | exact find_head | apply find_tail)) (by first | rfl) ?_) | refine wl (w_loadR hl hh rfl trivial one29 rfl hpre (by simp) rfl ?_)
                clear hl a; intro a hl
                refine wl (wl_val hl rfl trivial (r_eql hl rfl rfl) ?_)
                clear hl a; intro a hl
                refine wl (wl_val hl rfl trivial (r_move hl rfl) ?_)
                clear hl a; intro a hl
                refine sl_split (t := 42) hl rfl ?_ ?_
                · intro hg4; clear hl; intro hl
                  try simp only [decide_eq_true_eq, decide_eq_false_iff_not, Bool.not_eq_true', Bool.not_eq_false', Bool.not_eq_true, Bool.not_eq_false, Bool.and_eq_true, Bool.or_eq_true, Bool.and_eq_false_iff, Bool.or_eq_false_iff, Bool.not_not, ne_eq, Int.not_lt, Int.not_le, Decidable.not_not, beq_iff_eq, bne_iff_ne] at hg4
                  refine wl (wl_skip hl rfl ⟨_, _, rfl, rfl, rfl⟩ ?_)
                  clear hl a; intro a hl
                  refine wl (wl_skip hl rfl ⟨_, _, rfl, rfl, rfl⟩ ?_)
                  clear hl a; intro a hl
                  refine wl (wl_skip hl rfl ⟨_, _, rfl, rfl, rfl⟩ ?_)
                  clear hl a; intro a hl
                  refine wl (wl_val hl rfl trivial (r_pickT hl rfl rfl) ?_)
                  clear hl a; intro a hl
                  refine wl (wl_val hl rfl trivial (r_assign hl rfl) ?_)
                  clear hl a; intro a hl
                  refine w_nil ?_
                  have hl2 := hl.add (t := 3) (hl.add (t := 6) (hl.nil) rfl) rfl; clear hl; have hl := hl2; clear hl2
                  refine then_normal ?_
                  refine c_condT hl rfl ?_
                  refine wp_skip ?_
                  refine then_normal ?_
                  refine c_condT hl rfl ?_
                  refine c_seq ?_
                  refine c_region ?_
                  first | refine wl (w_load hl hh rfl trivial one26 rfl (by repeat (first | exact find_head | apply find_tail)) (by first | rfl) ?_) | refine wl (w_loadR hl hh rfl trivial one26 rfl hpre (by simp) rfl ?_)
                  clear hl a; intro a hl
                  refine wl (wl_val hl rfl trivial (r_assign hl rfl) ?_)
                  clear hl a; intro a hl
                  refine w_nil ?_
                  have hl2 := hl.add (t := 2) (hl.nil) rfl; clear hl; have hl := hl2; clear hl2
                  refine then_normal ?_
                  refine wp_ret ?_
                  refine blk_ret ?_
                  refine then_ret ?_
                  refine f_ret1 (F' := []) hl hh rfl rfl (by repeat (first | exact keeps_nil | apply keeps_cons (by repeat (first | exact find_head | apply find_tail)) (by first  | rfl) | exact keeps_self | apply keeps_mv)) ?_
                  first | exact .inl ⟨by unfold CV; omega, rfl, rfl⟩ | exact .inr ⟨by unfold CV; omega, rfl, rfl⟩
                · intro hg4; clear hl; intro hl
                  try simp only [decide_eq_true_eq, decide_eq_false_iff_not, Bool.not_eq_true', Bool.not_eq_false', Bool.not_eq_true, Bool.not_eq_false, Bool.and_eq_true, Bool.or_eq_true, Bool.and_eq_false_iff, Bool.or_eq_false_iff, Bool.not_not, ne_eq, Int.not_lt, Int.not_le, Decidable.not_not, beq_iff_eq, bne_iff_ne] at hg4
                  refine wl (wl_val hl rfl ⟨_, _, rfl, rfl, rfl⟩ (r_field hl rfl fld31_4) ?_)
                  clear hl a; intro a hl
                  first | refine wl (w_load hl hh rfl ⟨_, _, rfl, rfl, rfl⟩ one29 rfl (by repeat (first | exact find_head | apply find_tail)) (by first | rfl) ?_) | refine wl (w_loadR hl hh rfl ⟨_, _, rfl, rfl, rfl⟩ one29 rfl hpre (by simp) rfl ?_)
                  clear hl a; intro a hl
                  refine wl (wl_val hl rfl ⟨_, _, rfl, rfl, rfl⟩ (r_gtr hl rfl rfl) ?_)
                  clear hl a; intro a hl
                  refine wl (wl_val hl rfl trivial (r_pickF hl rfl rfl) ?_)
                  clear hl a; intro a hl
                  refine wl (wl_val hl rfl trivial (r_assign hl rfl) ?_)
                  clear hl a; intro a hl
                  refine w_nil ?_
                  have hl2 := hl.add (t := 3) (hl.add (t := 6) (hl.nil) rfl) rfl; clear hl; have hl := hl2; clear hl2
                  refine then_normal ?_
                  refine c_cond hl rfl ?_ ?_
                  · intro hc4
                    try simp only [decide_eq_true_eq, decide_eq_false_iff_not, Bool.not_eq_true', Bool.not_eq_false', Bool.not_eq_true, Bool.not_eq_false, Bool.and_eq_true, Bool.or_eq_true, Bool.and_eq_false_iff, Bool.or_eq_false_iff, Bool.not_not, ne_eq, Int.not_lt, Int.not_le, Decidable.not_not, beq_iff_eq, bne_iff_ne] at hc4
                    refine wp_skip ?_
                    refine then_normal ?_
                    refine c_cond hl rfl ?_ ?_
                    · intro hc5
                      try simp only [decide_eq_true_eq, decide_eq_false_iff_not, Bool.not_eq_true', Bool.not_eq_false', Bool.not_eq_true, Bool.not_eq_false, Bool.and_eq_true, Bool.or_eq_true, Bool.and_eq_false_iff, Bool.or_eq_false_iff, Bool.not_not, ne_eq, Int.not_lt, Int.not_le, Decidable.not_not, beq_iff_eq, bne_iff_ne] at hc5
                      refine c_seq ?_
                      refine c_region ?_
                      first | refine wl (w_load hl hh rfl trivial one26 rfl (by repeat (first | exact find_head | apply find_tail)) (by first | rfl) ?_) | refine wl (w_loadR hl hh rfl trivial one26 rfl hpre (by simp) rfl ?_)
                      clear hl a; intro a hl
                      refine wl (wl_val hl rfl trivial (r_assign hl rfl) ?_)
                      clear hl a; intro a hl
                      refine w_nil ?_
                      have hl2 := hl.add (t := 2) (hl.nil) rfl; clear hl; have hl := hl2; clear hl2
                      refine then_normal ?_
                      refine wp_ret ?_
                      refine blk_ret ?_
                      refine then_ret ?_
                      refine f_ret1 (F' := []) hl hh rfl rfl (by repeat (first | exact keeps_nil | apply keeps_cons (by repeat (first | exact find_head | apply find_tail)) (by first  | rfl) | exact keeps_self | apply keeps_mv)) ?_
                      first | exact .inl ⟨by unfold CV; omega, rfl, rfl⟩ | exact .inr ⟨by unfold CV; omega, rfl, rfl⟩
                    · intro hc5
                      try simp only [decide_eq_true_eq, decide_eq_false_iff_not, Bool.not_eq_true', Bool.not_eq_false', Bool.not_eq_true, Bool.not_eq_false, Bool.and_eq_true, Bool.or_eq_true, Bool.and_eq_false_iff, Bool.or_eq_false_iff, Bool.not_not, ne_eq, Int.not_lt, Int.not_le, Decidable.not_not, beq_iff_eq, bne_iff_ne] at hc5
                      refine wp_skip ?_
                      refine blk_normal ?_
                      refine then_normal ?_
                      refine c_seq ?_
                      refine c_region ?_
                      refine wl (wl_val hl rfl trivial (r_assign hl rfl) ?_)
                      clear hl a; intro a hl
                      refine w_nil ?_
                      have hl2 := hl.add (t := 2) (hl.nil) rfl; clear hl; have hl := hl2; clear hl2
                      refine then_normal ?_
                      refine wp_ret ?_
                      refine f_ret1 (F' := []) hl hh rfl rfl (by repeat (first | exact keeps_nil | apply keeps_cons (by repeat (first | exact find_head | apply find_tail)) (by first  | rfl) | exact keeps_self | apply keeps_mv)) ?_
                      first | exact .inl ⟨by unfold CV; omega, rfl, rfl⟩ | exact .inr ⟨by unfold CV; omega, rfl, rfl⟩
                  · intro hc4
                    try simp only [decide_eq_true_eq, decide_eq_false_iff_not, Bool.not_eq_true', Bool.not_eq_false', Bool.not_eq_true, Bool.not_eq_false, Bool.and_eq_true, Bool.or_eq_true, Bool.and_eq_false_iff, Bool.or_eq_false_iff, Bool.not_not, ne_eq, Int.not_lt, Int.not_le, Decidable.not_not, beq_iff_eq, bne_iff_ne] at hc4
                    refine c_region ?_
                    refine wl (wl_val hl rfl trivial (r_field hl rfl fld31_5) ?_)
                    clear hl a; intro a hl
                    first | refine wl (w_load hl hh rfl trivial one29 rfl (by repeat (first | exact find_head | apply find_tail)) (by first | rfl) ?_) | refine wl (w_loadR hl hh rfl trivial one29 rfl hpre (by simp) rfl ?_)
                    clear hl a; intro a hl
                    refine wl (wl_val hl rfl trivial (r_eql hl rfl rfl) ?_)
                    clear hl a; intro a hl
                    refine wl (wl_val hl rfl trivial (r_move hl rfl) ?_)
                    clear hl a; intro a hl
                    refine sl_split (t := 50) hl rfl ?_ ?_
                    · intro hg5; clear hl; intro hl
                      try simp only [decide_eq_true_eq, decide_eq_false_iff_not, Bool.not_eq_true', Bool.not_eq_false', Bool.not_eq_true, Bool.not_eq_false, Bool.and_eq_true, Bool.or_eq_true, Bool.and_eq_false_iff, Bool.or_eq_false_iff, Bool.not_not, ne_eq, Int.not_lt, Int.not_le, Decidable.not_not, beq_iff_eq, bne_iff_ne] at hg5
                      refine wl (wl_skip hl rfl ⟨_, _, rfl, rfl, rfl⟩ ?_)
                      clear hl a; intro a hl
                      refine wl (wl_skip hl rfl ⟨_, _, rfl, rfl, rfl⟩ ?_)
                      clear hl a; intro a hl
                      refine wl (wl_skip hl rfl ⟨_, _, rfl, rfl, rfl⟩ ?_)
                      clear hl a; intro a hl
                      refine wl (wl_val hl rfl trivial (r_pickT hl rfl rfl) ?_)
                      clear hl a; intro a hl
                      refine wl (wl_val hl rfl trivial (r_assign hl rfl) ?_)
                      clear hl a; intro a hl
                      refine w_nil ?_
                      have hl2 := hl.add (t := 6) (hl.nil) rfl; clear hl; have hl := hl2; clear hl2
                      refine then_normal ?_
                      refine c_condT hl rfl ?_
                      refine c_seq ?_
                      refine c_region ?_
                      first | refine wl (w_load hl hh rfl trivial one26 rfl (by repeat (first | exact find_head | apply find_tail)) (by first | rfl) ?_) | refine wl (w_loadR hl hh rfl trivial one26 rfl hpre (by simp) rfl ?_)
                      clear hl a; intro a hl
                      refine wl (wl_val hl rfl trivial (r_assign hl rfl) ?_)
                      clear hl a; intro a hl
                      refine w_nil ?_
                      have hl2 := hl.add (t := 2) (hl.nil) rfl; clear hl; have hl := hl2; clear hl2
                      refine then_normal ?_
                      refine wp_ret ?_
                      refine blk_ret ?_
                      refine then_ret ?_
                      refine f_ret1 (F' := []) hl hh rfl rfl (by repeat (first | exact keeps_nil | apply keeps_cons (by repeat (first | exact find_head | apply find_tail)) (by first  | rfl) | exact keeps_self | apply keeps_mv)) ?_
                      first | exact .inl ⟨by unfold CV; omega, rfl, rfl⟩ | exact .inr ⟨by unfold CV; omega, rfl, rfl⟩
                    · intro hg5; clear hl; intro hl
                      try simp only [decide_eq_true_eq, decide_eq_false_iff_not, Bool.not_eq_true', Bool.not_eq_false', Bool.not_eq_true, Bool.not_eq_false, Bool.and_eq_true, Bool.or_eq_true, Bool.and_eq_false_iff, Bool.or_eq_false_iff, Bool.not_not, ne_eq, Int.not_lt, Int.not_le, Decidable.not_not, beq_iff_eq, bne_iff_ne] at hg5
                      refine wl (wl_val hl rfl ⟨_, _, rfl, rfl, rfl⟩ (r_field hl rfl fld31_5) ?_)
                      clear hl a; intro a hl
                      first | refine wl (w_load hl hh rfl ⟨_, _, rfl, rfl, rfl⟩ one29 rfl (by repeat (first | exact find_head | apply find_tail)) (by first | rfl) ?_) | refine wl (w_loadR hl hh rfl ⟨_, _, rfl, rfl, rfl⟩ one29 rfl hpre (by simp) rfl ?_)
                      clear hl a; intro a hl
                      refine wl (wl_val hl rfl ⟨_, _, rfl, rfl, rfl⟩ (r_gtr hl rfl rfl) ?_)
                      clear hl a; intro a hl
                      refine wl (wl_val hl rfl trivial (r_pickF hl rfl rfl) ?_)
                      clear hl a; intro a hl
                      refine wl (wl_val hl rfl trivial (r_assign hl rfl) ?_)
                      clear hl a; intro a hl
                      refine w_nil ?_
                      have hl2 := hl.add (t := 6) (hl.nil) rfl; clear hl; have hl := hl2; clear hl2
                      refine then_normal ?_
                      refine c_cond hl rfl ?_ ?_
                      · intro hc5
                        try simp only [decide_eq_true_eq, decide_eq_false_iff_not, Bool.not_eq_true', Bool.not_eq_false', Bool.not_eq_true, Bool.not_eq_false, Bool.and_eq_true, Bool.or_eq_true, Bool.and_eq_false_iff, Bool.or_eq_false_iff, Bool.not_not, ne_eq, Int.not_lt, Int.not_le, Decidable.not_not, beq_iff_eq, bne_iff_ne] at hc5
                        refine c_seq ?_
                        refine c_region ?_
                        first | refine wl (w_load hl hh rfl trivial one26 rfl (by repeat (first | exact find_head | apply find_tail)) (by first | rfl) ?_) | refine wl (w_loadR hl hh rfl trivial one26 rfl hpre (by simp) rfl ?_)
                        clear hl a; intro a hl
                        refine wl (wl_val hl rfl trivial (r_assign hl rfl) ?_)
                        clear hl a; intro a hl
                        refine w_nil ?_
                        have hl2 := hl.add (t := 2) (hl.nil) rfl; clear hl; have hl := hl2; clear hl2
                        refine then_normal ?_
                        refine wp_ret ?_
                        refine blk_ret ?_
                        refine then_ret ?_
                        refine f_ret1 (F' := []) hl hh rfl rfl (by repeat (first | exact keeps_nil | apply keeps_cons (by repeat (first | exact find_head | apply find_tail)) (by first  | rfl) | exact keeps_self | apply keeps_mv)) ?_
                        first | exact .inl ⟨by unfold CV; omega, rfl, rfl⟩ | exact .inr ⟨by unfold CV; omega, rfl, rfl⟩
                      · intro hc5
                        try simp only [decide_eq_true_eq, decide_eq_false_iff_not, Bool.not_eq_true', Bool.not_eq_false', Bool.not_eq_true, Bool.not_eq_false, Bool.and_eq_true, Bool.or_eq_true, Bool.and_eq_false_iff, Bool.or_eq_false_iff, Bool.not_not, ne_eq, Int.not_lt, Int.not_le, Decidable.not_not, beq_iff_eq, bne_iff_ne] at hc5
                        refine wp_skip ?_
                        refine blk_normal ?_
                        refine then_normal ?_
                        refine c_seq ?_
                        refine c_region ?_
                        refine wl (wl_val hl rfl trivial (r_assign hl rfl) ?_)
                        clear hl a; intro a hl
                        refine w_nil ?_
                        have hl2 := hl.add (t := 2) (hl.nil) rfl; clear hl; have hl := hl2; clear hl2
                        refine then_normal ?_
                        refine wp_ret ?_
                        refine f_ret1 (F' := []) hl hh rfl rfl (by repeat (first | exact keeps_nil | apply keeps_cons (by repeat (first | exact find_head | apply find_tail)) (by first  | rfl) | exact keeps_self | apply keeps_mv)) ?_
                        first | exact .inl ⟨by unfold CV; omega, rfl, rfl⟩ | exact .inr ⟨by unfold CV; omega, rfl, rfl⟩

set_option maxHeartbeats 1000000 in
theorem newBoard_spec (x : Int) : Sp Tryz.prog 31 #[.int .u32 x, .int .i64 16] [] (fun v F' => ∃ sb, v = .pointer (some ⟨sb, 0, none⟩) ∧ F' = [(sb, C (bdL x x (.slice none 0 0)) 85)]) := by
  refine f_enter (args := [.int .u32 x, .int .i64 16]) Tryz.func31 rfl Tryz.ntmps31 rfl ?_
  intro w0 w a hpre hl hh
  simp only [slotsFrom, Nat.reduceAdd] at hl
  refine c_seq ?_
  refine c_region ?_
  refine wl (wl_val hl rfl trivial (r_assign hl rfl) ?_)
  clear hl a; intro a hl
  refine w_nil ?_
  have hl2 := hl.add (t := 0) (hl.add (t := 1) (hl.nil) rfl) rfl; clear hl; have hl := hl2; clear hl2
  refine then_normal ?_
  refine c_seq ?_
  refine c_region ?_
  refine wl (wl_val hl rfl trivial (r_move hl rfl) ?_)
  clear hl a; intro a hl
  refine wl (wl_val hl rfl trivial (r_move hl rfl) ?_)
  clear hl a; intro a hl
  refine wl (wl_val hl rfl trivial (r_move hl rfl) ?_)
  clear hl a; intro a hl
  refine wl (wl_val hl rfl trivial (r_build hl rfl zero85 bld85 (by simp only [fillL, setL, List.getElem?_cons_zero, List.getElem?_cons_succ, Value.cells, List.take_zero, List.take_succ_cons, List.take_nil, List.drop_zero, List.drop_succ_cons, List.drop_nil, List.length_cons, List.length_nil, List.cons_append, List.nil_append, List.append_nil, Nat.zero_add, Nat.add_zero, Nat.reduceAdd, Nat.reduceBEq, Nat.reduceEqDiff, Nat.ble, BEq.rfl, Bool.and_true, Bool.and_self, cond_true, beq_self_eq_true]; rfl)) ?_)
  clear hl a; intro a hl
  refine wl (w_box hl hh rfl trivial rfl rfl ?_)
  clear hl hh a w; intro k9 a w hl hh
  refine wl (wl_val hl rfl trivial (r_assign hl rfl) ?_)
  clear hl a; intro a hl
  refine w_nil ?_
  have hl2 := hl.add (t := 4) (hl.nil) rfl; clear hl; have hl := hl2; clear hl2
  refine then_normal ?_
  refine wp_ret ?_
  refine f_ret1 (F' := [(k9, C (bdL x x (.slice none 0 0)) 85)]) hl hh rfl rfl (by repeat (first | exact keeps_nil | apply keeps_cons (by repeat (first | exact find_head | apply find_tail)) (by first  | rfl) | exact keeps_self | apply keeps_mv)) ?_
  exact ⟨k9, rfl, rfl⟩

set_option maxHeartbeats 1000000 in
theorem new_spec (c : CF) (hc : CFok c) (gT : TypeId) (gv : Value) (GT : TypeId) (gf : Nat × Nat) : SpK Tryz.prog 5 #[.agg ⟨cfL c⟩] (fun w => w.heap[1]? = some (.cells ⟨[.iface gT gv]⟩ GT gf)) [] (fun v F' => (¬ CV c ∧ v = .tuple #[.pointer none, .iface gT gv] ∧ F' = []) ∨ (CV c ∧ ∃ cp, v = .tuple #[.pointer (some ⟨cp, 0, none⟩), .nilIface] ∧ ((c.sack = false ∧ F' = [(cp, C (encC (newP c) none) 66)]) ∨ (c.sack = true ∧ ∃ sb, F' = [(cp, C (encC (newP c) (some ⟨sb, 0, none⟩)) 66), (sb, C (bdL c.start c.start (.slice none 0 0)) 85)])))) := by
  refine f_enter (args := [.agg ⟨cfL c⟩]) Tryz.func5 rfl Tryz.ntmps5 rfl ?_
  intro w0 w a hpre hl hh
  unfold cfL at hl
  simp only [slotsFrom, Nat.reduceAdd] at hl
  refine c_seq ?_
  refine c_region ?_
  refine wl (w_box hl hh rfl trivial rfl rfl ?_)
  clear hl hh a w; intro k1 a w hl hh
  refine wl (wl_val hl rfl trivial (r_assign hl rfl) ?_)
  clear hl a; intro a hl
  refine wl (wl_val hl rfl trivial (r_assign hl rfl) ?_)
  clear hl a; intro a hl
  refine w_nil ?_
  have hl2 := hl.add (t := 1) (hl.nil) rfl; clear hl; have hl := hl2; clear hl2
  refine then_normal ?_
  refine c_seq ?_
  refine c_seq ?_
  refine c_region ?_
  refine wl (w_loadA hl hh rfl trivial agg33 rfl (by repeat (first | exact find_head | apply find_tail)) (by first | (simp only [List.getElem?_cons_zero, List.getElem?_cons_succ, Value.cells, List.take_zero, List.take_succ_cons, List.take_nil, List.drop_zero, List.drop_succ_cons, List.drop_nil, List.length_cons, List.length_nil, List.cons_append, List.nil_append, List.append_nil, Nat.zero_add, Nat.add_zero, Nat.reduceAdd, Nat.reduceBEq, Nat.reduceEqDiff, Nat.ble, BEq.rfl, Bool.and_true, Bool.and_self, cond_true, beq_self_eq_true]; rfl)) (by first | rfl | (simp; done)) ?_)
  clear hl a; intro a hl
  refine wl (w_call hl hh rfl trivial rfl cal29 rfl (validate_spec c hc gT gv GT gf) (by repeat (first | exact keeps_nil | apply keeps_cons (by repeat (first | exact find_head | apply find_tail)) (by first  | rfl) | exact keeps_self | apply keeps_mv)) (heap_keep hh hpre) ?_)
  clear hl hh a w; intro vc Fc a w hR hl hh
  rcases hR with ⟨hv, rfl, rfl⟩ | ⟨hv, rfl, rfl⟩
  ·
    try simp only [List.cons_append, List.nil_append, List.append_nil] at hh
    refine wl (wl_val hl rfl trivial (r_assign hl rfl) ?_)
    clear hl a; intro a hl
    refine w_nil ?_
    have hl2 := hl.add (t := 1) (hl.add (t := 4) (hl.nil) rfl) rfl; clear hl; have hl := hl2; clear hl2
    refine then_normal ?_
    refine c_seq ?_
    refine c_region ?_
    refine wl (wl_val hl rfl trivial (r_move hl rfl) ?_)
    clear hl a; intro a hl
    first | refine wl (wl_val hl rfl trivial (r_neq_ifcN hl rfl ifc26) ?_) | refine wl (wl_val hl rfl trivial (r_neq_ifcS hl rfl ifc26) ?_)
    clear hl a; intro a hl
    refine w_nil ?_
    have hl2 := hl.add (t := 1) (hl.add (t := 4) (hl.add (t := 9) (hl.nil) rfl) rfl) rfl; clear hl; have hl := hl2; clear hl2
    refine then_normal ?_
    refine c_condF hl rfl ?_
    refine wp_skip ?_
    refine then_normal ?_
    refine c_seq ?_
    refine c_region ?_
    refine wl (wl_val hl rfl trivial (r_field hl rfl fld33_0) ?_)
    clear hl a; intro a hl
    refine wl (w_loadA hl hh rfl trivial agg31 rfl (by repeat (first | exact find_head | apply find_tail)) (by first | (simp only [List.getElem?_cons_zero, List.getElem?_cons_succ, Value.cells, List.take_zero, List.take_succ_cons, List.take_nil, List.drop_zero, List.drop_succ_cons, List.drop_nil, List.length_cons, List.length_nil, List.cons_append, List.nil_append, List.append_nil, Nat.zero_add, Nat.add_zero, Nat.reduceAdd, Nat.reduceBEq, Nat.reduceEqDiff, Nat.ble, BEq.rfl, Bool.and_true, Bool.and_self, cond_true, beq_self_eq_true]; rfl)) (by first | rfl | (simp; done)) ?_)
    clear hl a; intro a hl
    refine wl (wl_val hl rfl trivial (r_field hl rfl fld33_1) ?_)
    clear hl a; intro a hl
    refine wl (w_load hl hh rfl trivial one29 rfl (by repeat (first | exact find_head | apply find_tail)) (by first | rfl | rfl) ?_)
    clear hl a; intro a hl
    refine wl (wl_val hl rfl trivial (r_field hl rfl fld33_0) ?_)
    clear hl a; intro a hl
    refine wl (wl_val hl rfl trivial (r_field hl rfl fld31_1) ?_)
    clear hl a; intro a hl
    refine wl (w_load hl hh rfl trivial one29 rfl (by repeat (first | exact find_head | apply find_tail)) (by first | rfl | rfl) ?_)
    clear hl a; intro a hl
    refine wl (wl_val hl rfl trivial (r_field hl rfl fld33_2) ?_)
    clear hl a; intro a hl
    refine wl (w_load hl hh rfl trivial one29 rfl (by repeat (first | exact find_head | apply find_tail)) (by first | rfl | rfl) ?_)
    clear hl a; intro a hl
    refine wl (wl_val hl rfl trivial (r_field hl rfl fld33_2) ?_)
    clear hl a; intro a hl
    refine wl (w_load hl hh rfl trivial one29 rfl (by repeat (first | exact find_head | apply find_tail)) (by first | rfl | rfl) ?_)
    clear hl a; intro a hl
    refine wl (wl_val hl rfl trivial (r_field hl rfl fld33_2) ?_)
    clear hl a; intro a hl
    refine wl (w_load hl hh rfl trivial one29 rfl (by repeat (first | exact find_head | apply find_tail)) (by first | rfl | rfl) ?_)
    clear hl a; intro a hl
    refine wl (wl_val hl rfl trivial (r_subM wm_u32 hl rfl rfl) ?_)
    clear hl a; intro a hl
    refine wl (wl_val hl rfl trivial (r_field hl rfl fld33_2) ?_)
    clear hl a; intro a hl
    refine wl (w_load hl hh rfl trivial one29 rfl (by repeat (first | exact find_head | apply find_tail)) (by first | rfl | rfl) ?_)
    clear hl a; intro a hl
    refine wl (wl_val hl rfl trivial (r_build hl rfl zero66 bld66 (by simp only [fillL, setL, List.getElem?_cons_zero, List.getElem?_cons_succ, Value.cells, List.take_zero, List.take_succ_cons, List.take_nil, List.drop_zero, List.drop_succ_cons, List.drop_nil, List.length_cons, List.length_nil, List.cons_append, List.nil_append, List.append_nil, Nat.zero_add, Nat.add_zero, Nat.reduceAdd, Nat.reduceBEq, Nat.reduceEqDiff, Nat.ble, BEq.rfl, Bool.and_true, Bool.and_self, cond_true, beq_self_eq_true]; rfl)) ?_)
    clear hl a; intro a hl
    refine wl (w_box hl hh rfl trivial rfl rfl ?_)
    clear hl hh a w; intro k28 a w hl hh
    replace hh := hh.keep (F' := [(k28, C (encC (newX c 0) none) 66), (k1, C [.int .u32 c.init, .int .u32 c.maxc, .int .u32 c.bn, .int .u32 c.bd, .int .u32 c.abc, .int .u32 c.dupt, .bool c.idle, .int .u32 c.mss, .int .u32 c.start, .bool c.sack] 33)]) (keeps_cons (by repeat (first | exact find_head | apply find_tail)) rfl (keeps_cons (by repeat (first | exact find_head | apply find_tail)) rfl keeps_nil))
    refine wl (wl_val hl rfl trivial (r_assign hl rfl) ?_)
    clear hl a; intro a hl
    refine w_nil ?_
    have hl2 := hl.add (t := 1) (hl.add (t := 5) (hl.nil) rfl) rfl; clear hl; have hl := hl2; clear hl2
    refine then_normal ?_
    refine c_seq ?_
    refine c_region ?_
    refine wl (wl_val hl rfl trivial (r_move hl rfl) ?_)
    clear hl a; intro a hl
    refine wl (wl_val hl rfl trivial (r_move hl rfl) ?_)
    clear hl a; intro a hl
    refine wl (w_call hl hh rfl trivial rfl cal30 rfl (initW_spec k28 (newX c 0) none (newX_cf hc hv 0)) (by repeat (first | exact keeps_nil | apply keeps_cons (by repeat (first | exact find_head | apply find_tail)) (by first  | rfl) | exact keeps_self | apply keeps_mv)) (hh.mem _ _ (Find.mem (by repeat (first | exact find_head | apply find_tail)))) ?_)
    clear hl hh a w; intro vc Fc a w hR hl hh
    obtain ⟨rfl, rfl⟩ := hR
    try simp only [List.cons_append, List.nil_append] at hh
    refine wl (wl_val hl rfl trivial (r_nilCheck hl rfl) ?_)
    clear hl a; intro a hl
    refine wl (wl_val hl rfl trivial (r_field hl rfl fld66_3) ?_)
    clear hl a; intro a hl
    refine wl (w_store hl hh trivial one29 rfl rfl (by repeat (first | exact find_head | apply find_tail)) (by first | (simp; done) | (simp; omega)) (by first | rfl | assumption | (apply Row.one; assumption)) (by first | (simp only [encC, setL, List.getElem?_cons_zero, List.getElem?_cons_succ, Value.cells, List.take_zero, List.take_succ_cons, List.take_nil, List.drop_zero, List.drop_succ_cons, List.drop_nil, List.length_cons, List.length_nil, List.cons_append, List.nil_append, List.append_nil, Nat.zero_add, Nat.add_zero, Nat.reduceAdd, Nat.reduceBEq, Nat.reduceEqDiff, Nat.ble, BEq.rfl, Bool.and_true, Bool.and_self, cond_true, beq_self_eq_true]; rfl) | (simp only [encC, newX, setL, List.getElem?_cons_zero, List.getElem?_cons_succ, Value.cells, List.take_zero, List.take_succ_cons, List.take_nil, List.drop_zero, List.drop_succ_cons, List.drop_nil, List.length_cons, List.length_nil, List.cons_append, List.nil_append, List.append_nil, Nat.zero_add, Nat.add_zero, Nat.reduceAdd, Nat.reduceBEq, Nat.reduceEqDiff, Nat.ble, BEq.rfl, Bool.and_true, Bool.and_self, cond_true, beq_self_eq_true]; rfl) | (simp only [setL, List.getElem?_cons_zero, List.getElem?_cons_succ, Value.cells, List.take_zero, List.take_succ_cons, List.take_nil, List.drop_zero, List.drop_succ_cons, List.drop_nil, List.length_cons, List.length_nil, List.cons_append, List.nil_append, List.append_nil, Nat.zero_add, Nat.add_zero, Nat.reduceAdd, Nat.reduceBEq, Nat.reduceEqDiff, Nat.ble, BEq.rfl, Bool.and_true, Bool.and_self, cond_true, beq_self_eq_true]; rfl)) ?_)
    clear hh w; intro w hh
    refine w_nil ?_
    have hl2 := hl.add (t := 1) (hl.add (t := 5) (hl.nil) rfl) rfl; clear hl; have hl := hl2; clear hl2
    refine then_normal ?_
    refine c_seq ?_
    refine c_seq ?_
    refine c_region ?_
    refine wl (wl_val hl rfl trivial (r_field hl rfl fld33_3) ?_)
    clear hl a; intro a hl
    refine wl (w_load hl hh rfl trivial one4 rfl (by repeat (first | exact find_head | apply find_tail)) (by first | rfl | rfl) ?_)
    clear hl a; intro a hl
    refine w_nil ?_
    have hl2 := hl.add (t := 1) (hl.add (t := 5) (hl.add (t := 35) (hl.nil) rfl) rfl) rfl; clear hl; have hl := hl2; clear hl2
    refine then_normal ?_
    refine c_cond hl rfl ?_ ?_
    · intro hc1
      try simp only [decide_eq_true_eq, decide_eq_false_iff_not, Bool.not_eq_true', Bool.not_eq_false', Bool.not_eq_true, Bool.not_eq_false, Bool.and_eq_true, Bool.or_eq_true, Bool.and_eq_false_iff, Bool.or_eq_false_iff, Bool.not_not, ne_eq, Int.not_lt, Int.not_le, Decidable.not_not, beq_iff_eq, bne_iff_ne] at hc1
      refine c_region ?_
      refine wl (wl_val hl rfl trivial (r_move hl rfl) ?_)
      clear hl a; intro a hl
      refine wl (wl_val hl rfl trivial (r_field hl rfl fld33_2) ?_)
      clear hl a; intro a hl
      refine wl (w_load hl hh rfl trivial one29 rfl (by repeat (first | exact find_head | apply find_tail)) (by first | rfl | rfl) ?_)
      clear hl a; intro a hl
      refine wl (w_call hl hh rfl trivial rfl cal31 rfl (newBoard_spec c.start) (by repeat (first | exact keeps_nil | apply keeps_cons (by repeat (first | exact find_head | apply find_tail)) (by first  | rfl) | exact keeps_self | apply keeps_mv)) trivial ?_)
      clear hl hh a w; intro vc Fc a w hR hl hh
      obtain ⟨sb, rfl, rfl⟩ := hR
      try simp only [List.cons_append, List.nil_append] at hh
      refine wl (wl_val hl rfl trivial (r_nilCheck hl rfl) ?_)
      clear hl a; intro a hl
      refine wl (wl_val hl rfl trivial (r_field hl rfl fld66_2) ?_)
      clear hl a; intro a hl
      refine wl (w_store hl hh trivial one64 rfl rfl (by repeat (first | exact find_head | apply find_tail)) (by first | (simp; done) | (simp; omega)) (by first | rfl | assumption | (apply Row.one; assumption)) (by first | (simp only [encC, setL, List.getElem?_cons_zero, List.getElem?_cons_succ, Value.cells, List.take_zero, List.take_succ_cons, List.take_nil, List.drop_zero, List.drop_succ_cons, List.drop_nil, List.length_cons, List.length_nil, List.cons_append, List.nil_append, List.append_nil, Nat.zero_add, Nat.add_zero, Nat.reduceAdd, Nat.reduceBEq, Nat.reduceEqDiff, Nat.ble, BEq.rfl, Bool.and_true, Bool.and_self, cond_true, beq_self_eq_true]; rfl) | (simp only [encC, newX, setL, List.getElem?_cons_zero, List.getElem?_cons_succ, Value.cells, List.take_zero, List.take_succ_cons, List.take_nil, List.drop_zero, List.drop_succ_cons, List.drop_nil, List.length_cons, List.length_nil, List.cons_append, List.nil_append, List.append_nil, Nat.zero_add, Nat.add_zero, Nat.reduceAdd, Nat.reduceBEq, Nat.reduceEqDiff, Nat.ble, BEq.rfl, Bool.and_true, Bool.and_self, cond_true, beq_self_eq_true]; rfl) | (simp only [setL, List.getElem?_cons_zero, List.getElem?_cons_succ, Value.cells, List.take_zero, List.take_succ_cons, List.take_nil, List.drop_zero, List.drop_succ_cons, List.drop_nil, List.length_cons, List.length_nil, List.cons_append, List.nil_append, List.append_nil, Nat.zero_add, Nat.add_zero, Nat.reduceAdd, Nat.reduceBEq, Nat.reduceEqDiff, Nat.ble, BEq.rfl, Bool.and_true, Bool.and_self, cond_true, beq_self_eq_true]; rfl)) ?_)
      clear hh w; intro w hh
      refine w_nil ?_
      have hl2 := hl.add (t := 5) (hl.nil) rfl; clear hl; have hl := hl2; clear hl2
      refine then_normal ?_
      refine c_seq ?_
      refine c_region ?_
      refine wl (wl_val hl rfl trivial (r_move hl rfl) ?_)
      clear hl a; intro a hl
      refine wl (wl_val hl rfl trivial (r_assign hl rfl) ?_)
      clear hl a; intro a hl
      refine wl (wl_val hl rfl trivial (r_assign hl rfl) ?_)
      clear hl a; intro a hl
      refine w_nil ?_
      have hl2 := hl.add (t := 2) (hl.add (t := 3) (hl.nil) rfl) rfl; clear hl; have hl := hl2; clear hl2
      refine then_normal ?_
      refine wp_ret ?_
      first | (refine f_ret2 (F' := [(k28, C (encC (newP c) none) 66)]) hl hh rfl rfl rfl (keeps_cons (by repeat (first | exact find_head | apply find_tail)) rfl keeps_nil) ?_; exact .inr ⟨hv, k28, rfl, .inl ⟨hc1, rfl⟩⟩) | (refine f_ret2 (F' := [(k28, C (encC (newP c) (some ⟨sb, 0, none⟩)) 66), (sb, C (bdL c.start c.start (.slice none 0 0)) 85)]) hl hh rfl rfl rfl (keeps_cons (by repeat (first | exact find_head | apply find_tail)) rfl (keeps_cons (by repeat (first | exact find_head | apply find_tail)) rfl keeps_nil)) ?_; exact .inr ⟨hv, k28, rfl, .inr ⟨hc1, sb, rfl⟩⟩)
    · intro hc1
      try simp only [decide_eq_true_eq, decide_eq_false_iff_not, Bool.not_eq_true', Bool.not_eq_false', Bool.not_eq_true, Bool.not_eq_false, Bool.and_eq_true, Bool.or_eq_true, Bool.and_eq_false_iff, Bool.or_eq_false_iff, Bool.not_not, ne_eq, Int.not_lt, Int.not_le, Decidable.not_not, beq_iff_eq, bne_iff_ne] at hc1
      refine wp_skip ?_
      refine then_normal ?_
      refine c_seq ?_
      refine c_region ?_
      refine wl (wl_val hl rfl trivial (r_move hl rfl) ?_)
      clear hl a; intro a hl
      refine wl (wl_val hl rfl trivial (r_assign hl rfl) ?_)
      clear hl a; intro a hl
      refine wl (wl_val hl rfl trivial (r_assign hl rfl) ?_)
      clear hl a; intro a hl
      refine w_nil ?_
      have hl2 := hl.add (t := 2) (hl.add (t := 3) (hl.nil) rfl) rfl; clear hl; have hl := hl2; clear hl2
      refine then_normal ?_
      refine wp_ret ?_
      first | (refine f_ret2 (F' := [(k28, C (encC (newP c) none) 66)]) hl hh rfl rfl rfl (keeps_cons (by repeat (first | exact find_head | apply find_tail)) rfl keeps_nil) ?_; exact .inr ⟨hv, k28, rfl, .inl ⟨hc1, rfl⟩⟩) | (refine f_ret2 (F' := [(k28, C (encC (newP c) (some ⟨sb, 0, none⟩)) 66), (sb, C (bdL c.start c.start (.slice none 0 0)) 85)]) hl hh rfl rfl rfl (keeps_cons (by repeat (first | exact find_head | apply find_tail)) rfl (keeps_cons (by repeat (first | exact find_head | apply find_tail)) rfl keeps_nil)) ?_; exact .inr ⟨hv, k28, rfl, .inr ⟨hc1, sb, rfl⟩⟩)
  ·
    try simp only [List.cons_append, List.nil_append, List.append_nil] at hh
    refine wl (wl_val hl rfl trivial (r_assign hl rfl) ?_)
    clear hl a; intro a hl
    refine w_nil ?_
    have hl2 := hl.add (t := 1) (hl.add (t := 4) (hl.nil) rfl) rfl; clear hl; have hl := hl2; clear hl2
    refine then_normal ?_
    refine c_seq ?_
    refine c_region ?_
    refine wl (wl_val hl rfl trivial (r_move hl rfl) ?_)
    clear hl a; intro a hl
    first | refine wl (wl_val hl rfl trivial (r_neq_ifcN hl rfl ifc26) ?_) | refine wl (wl_val hl rfl trivial (r_neq_ifcS hl rfl ifc26) ?_)
    clear hl a; intro a hl
    refine w_nil ?_
    have hl2 := hl.add (t := 1) (hl.add (t := 4) (hl.add (t := 9) (hl.nil) rfl) rfl) rfl; clear hl; have hl := hl2; clear hl2
    refine then_normal ?_
    refine c_condT hl rfl ?_
    refine c_seq ?_
    refine c_region ?_
    refine wl (wl_val hl rfl trivial (r_move hl rfl) ?_)
    clear hl a; intro a hl
    refine wl (wl_val hl rfl trivial (r_assign hl rfl) ?_)
    clear hl a; intro a hl
    refine wl (wl_val hl rfl trivial (r_assign hl rfl) ?_)
    clear hl a; intro a hl
    refine w_nil ?_
    have hl2 := hl.add (t := 2) (hl.add (t := 3) (hl.nil) rfl) rfl; clear hl; have hl := hl2; clear hl2
    refine then_normal ?_
    refine wp_ret ?_
    refine then_ret ?_
    refine f_ret2 (F' := []) hl hh rfl rfl rfl (by repeat (first | exact keeps_nil | apply keeps_cons (by repeat (first | exact find_head | apply find_tail)) (by first  | rfl) | exact keeps_self | apply keeps_mv)) ?_
    exact .inl ⟨hv, rfl, rfl⟩
end Go.Proofs.Qxb6500912aGreatDoor

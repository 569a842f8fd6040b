import Derived.Test.Qxb6500911aGreatDoorA0
import Derived.Test.Qxb6500911aGreatDoorRw
import Derived.Test.Qxb6500911aGreatDoorMkn
namespace Go.Proofs.Qxb6500911aGreatDoor
open Go.Eng
set_option linter.unusedVariables false
set_option linter.unusedSimpArgs false
theorem cal80 : callable Tryz.prog 80 = true := by kernel_rfl
theorem cal81 : callable Tryz.prog 81 = true := by kernel_rfl
theorem mixed : Tryz.prog.follows .mixedOrders = true := by kernel_rfl
theorem arr189 : arrOk Tryz.prog 189 32 1 = true := by kernel_rfl
theorem one5 : oneOk Tryz.prog 5 = true := by kernel_rfl
theorem app114 : appOk Tryz.prog 114 57 1 8 = true := by kernel_rfl
theorem zero57 : zeroOk Tryz.prog 57 (.int .i64 0) := by unfold zeroOk; kernel_rfl
theorem r_negI {P : Program} {n : Nat} {L : List (Nat × Value)} {a : Act} {w : World} {T : TypeId} {pos : String} {aft : Array Edge} {g : Option (Nat × Bool)} {dst : Option Nat} {x : Operand} {k : IntKind} {i : Int} {t : TypeId} (hl : Sl n L a) (hx : val L x = some (.int k i)) : Gives P a ⟨dst, .unOp .neg t x, T, pos, aft, g⟩ w (.int k (k.wrap (-i))) w := by
  simp [Gives, execOp, hl.ev hx, Op.unary, Op.intArith]
theorem lt_of_size {s : ByteArray} {i : Int} (h : s.size = 256) (hi : i < 256) : i < (s.size : Int) := by rw [h]; exact hi
theorem shr8 (m : BitVec 16) : (mi m).fdiv (2 ^ (min (8 : Int).toNat IntKind.u16.bits)) = ((m.toNat / 256 : Nat) : Int) := by
  have : min (8 : Int).toNat IntKind.u16.bits = 8 := by decide
  rw [this, Int.fdiv_eq_ediv_of_nonneg _ (by decide)]
  unfold mi
  rw [Int.natCast_ediv]; rfl
theorem and255 (m : BitVec 16) : bitsOf .and .u16 (mi m) 255 = (((m &&& 255#16).toNat : Nat) : Int) := and_mi m 255#16
theorem and255_le (m : BitVec 16) : (m &&& 255#16).toNat ≤ 255 := by
  rw [BitVec.toNat_and]; exact Nat.and_le_right
def tabI : List Int := [0, 1, 28, 2, 29, 14, 24, 3, 30, 22, 20, 15, 25, 17, 4, 8, 31, 27, 13, 23, 21, 19, 16, 7, 26, 12, 18, 6, 11, 5, 10, 9]
def tabL : List Value := tabI.map (Value.int .u8)
theorem neg_mi (m : BitVec 16) : IntKind.u16.wrap (-(mi m)) = mi (-m) := by
  unfold mi
  rw [BitVec.toNat_neg]
  have h := m.isLt
  have e : IntKind.u16.wrap (-(m.toNat : Int)) = (-(m.toNat : Int)) % 65536 := wm_u16 _
  rw [e]
  omega
def tzI (b : Nat) : Int := ((mi (bitB b)) * 125613361 % 4294967296).fdiv (2 ^ (min (27 : Int).toNat IntKind.u32.bits))
theorem tz_tab {b : Nat} (h : b < 16) : (0 ≤ tzI b ∧ tzI b < 32) ∧ tabL[(tzI b).toNat]? = some (.int .u8 (b : Int)) := by
  have : ∀ b : Fin 16, (0 ≤ tzI b ∧ tzI b < 32) ∧ tabI[(tzI b).toNat]? = some ((b : Nat) : Int) := by decide
  obtain ⟨h1, h2⟩ := this ⟨b, h⟩
  refine ⟨h1, ?_⟩
  unfold tabL
  rw [List.getElem?_map, h2]; rfl
def tkc (t : Nat) : List Value := [.int .i64 (t : Int)]
theorem tkc_len (t : Nat) : (tkc t).length = 1 := rfl
theorem tkc_one (t : Nat) : (tkc t).all (·.oneCell') = true := rfl
structure TS where
  m : BitVec 16
  v : Value
  E : List (Nat × Obj)
  l : List Nat
theorem tasks_len (m : BitVec 16) : (tasksB m).length ≤ 16 := by
  unfold tasksB
  have := List.length_filter_le (fun t => m.getLsbD t) (List.range 16)
  simpa using this
theorem tasks_zero : tasksB 0#16 = [] := by decide
theorem sub_mi {m : BitVec 16} (h : ¬ mi m = 0) : mi (m - 1#16) = mi m - 1 := by
  unfold mi at h ⊢
  rw [BitVec.toNat_sub]
  have := m.isLt
  have e1 : (1#16).toNat = 1 := rfl
  rw [e1]
  omega
theorem sub_miM (m : BitVec 16) : (mi m - 1) % 65536 = mi (m - 1#16) := by
  unfold mi
  rw [BitVec.toNat_sub]
  have := m.isLt
  have e1 : (1#16).toNat = 1 := rfl
  rw [e1]
  omega
theorem row_empty {b c : Nat} {junk : List Value} (h : junk.length = c * 1) : Row (.slice (some ⟨b, 0, none⟩) 0 c) 0 (fl tkc []) 1 57 [(b, C junk 57)] :=
  .inr ⟨b, c, junk, rfl, rfl, by simpa [fl] using h, Nat.zero_le _, by simp [fl]⟩
theorem row_snoc {v : Value} {l : List Nat} {t : Nat} {E : List (Nat × Obj)} (h : Row v (l.length + 1) (fl tkc l ++ [.int .i64 (t : Int)]) 1 57 E) : Row v (l ++ [t]).length (fl tkc (l ++ [t])) 1 57 E := by
  rw [List.length_append, fl_append]; exact h


set_option maxHeartbeats 1000000 in
theorem ones_spec (m : BitVec 16) : Sp Tryz.prog 80 #[.int .u16 (mi m)] [] (fun v F' => ∃ c : Nat, c ≤ 255 ∧ v = .int .i64 (c : Int) ∧ F' = []) := by
  refine f_enter (args := [.int .u16 (mi m)]) Tryz.func80 rfl Tryz.ntmps80 rfl ?_
  intro w0 w a hpre hl hh
  have hm := m.isLt; have h255 := and255_le m
  simp only [slotsFrom, Nat.reduceAdd] at hl
  refine c_seq ?_
  refine c_region ?_
  refine wl (wl_val hl rfl trivial (r_assign hl rfl) ?_)
  clear hl a; intro a hl
  refine w_nil ?_
  have hl2 := hl.add (t := 0) (hl.nil) rfl; clear hl; have hl := hl2; clear hl2
  refine then_normal ?_
  refine c_seq ?_
  refine c_draw [] [] mixed hh ?_
  clear hh w; intro w hh
  have hM : Mem [] w := Mem.nil
  refine d_take (i := 0) hl rfl (by kernel_rfl) (by kernel_rfl) (by kernel_rfl) (by kernel_rfl) (by kernel_rfl) rfl trivial (fun _ _ _ h => h) hM (fun w hC => r_move hl rfl) rfl ?_
  clear hl a; intro a hl
  refine d_take (i := 1) hl rfl (by kernel_rfl) (by kernel_rfl) (by kernel_rfl) (by kernel_rfl) (by kernel_rfl) rfl trivial (fun _ _ _ h => h) hM (fun w hC => r_shr hl rfl rfl (by omega)) rfl ?_
  clear hl a; intro a hl
  rw [shr8] at hl
  refine d_take (i := 2) hl rfl (by kernel_rfl) (by kernel_rfl) (by kernel_rfl) (by kernel_rfl) (by kernel_rfl) rfl trivial (fun _ _ _ h => h) hM (fun w hC => r_indexStr hl rfl rfl Tryz.underlying9 (by omega) (lt_of_size (by kernel_rfl) (by omega)) rfl) rfl ?_
  clear hl a; intro a hl
  refine d_take (i := 3) hl rfl (by kernel_rfl) (by kernel_rfl) (by kernel_rfl) (by kernel_rfl) (by kernel_rfl) rfl trivial (fun _ _ _ h => h) hM (fun w hC => r_move hl rfl) rfl ?_
  clear hl a; intro a hl
  refine d_take (i := 4) hl rfl (by kernel_rfl) (by kernel_rfl) (by kernel_rfl) (by kernel_rfl) (by kernel_rfl) rfl trivial (fun _ _ _ h => h) hM (fun w hC => r_and hl rfl rfl) rfl ?_
  clear hl a; intro a hl
  rw [and255] at hl
  refine d_take (i := 5) hl rfl (by kernel_rfl) (by kernel_rfl) (by kernel_rfl) (by kernel_rfl) (by kernel_rfl) rfl trivial (fun _ _ _ h => h) hM (fun w hC => r_indexStr hl rfl rfl Tryz.underlying9 (by omega) (lt_of_size (by kernel_rfl) (by omega)) rfl) rfl ?_
  clear hl a; intro a hl
  refine d_take (i := 6) hl rfl (by kernel_rfl) (by kernel_rfl) (by kernel_rfl) (by kernel_rfl) (by kernel_rfl) rfl trivial (fun _ _ _ h => h) hM (fun w hC => r_addM wm_u8 hl rfl rfl) rfl ?_
  clear hl a; intro a hl
  first | refine d_take (i := 7) hl rfl (by kernel_rfl) (by kernel_rfl) (by kernel_rfl) (by kernel_rfl) (by kernel_rfl) rfl trivial (fun _ _ _ h => h) hM (fun w hC => r_conv hl rfl Tryz.underlying5 Tryz.underlying3 (by simp only [Fits]; omega)) rfl ?_ | refine d_take (i := 7) hl rfl (by kernel_rfl) (by kernel_rfl) (by kernel_rfl) (by kernel_rfl) (by kernel_rfl) rfl trivial (fun _ _ _ h => h) hM (fun w hC => r_convW hl rfl Tryz.underlying5 Tryz.underlying3) rfl ?_
  clear hl a; intro a hl
  refine d_take (i := 8) hl rfl (by kernel_rfl) (by kernel_rfl) (by kernel_rfl) (by kernel_rfl) (by kernel_rfl) rfl trivial (fun _ _ _ h => h) hM (fun w hC => r_assign hl rfl) rfl ?_
  clear hl a; intro a hl
  refine d_done (by kernel_rfl) ?_
  try clear hM
  have hl2 := hl.add (t := 2) (hl.nil) rfl; clear hl; have hl := hl2; clear hl2
  refine then_normal ?_
  refine wp_ret ?_
  refine f_ret1 (F' := []) hl hh rfl rfl (by repeat (first | exact keeps_nil | apply keeps_cons (by repeat (first | exact find_head | apply find_tail)) (by first  | rfl) | exact keeps_self | apply keeps_mv)) ?_
  exact ⟨_, by omega, congrArg (Value.int .i64) (Int.toNat_of_nonneg (by omega)).symm, rfl⟩

set_option maxHeartbeats 1000000 in
theorem tz_spec (m : BitVec 16) (b : Nat) (hb : b < 16) (h1 : m.getLsbD b = true) (h2 : ∀ j, j < b → m.getLsbD j = false) (tT : TypeId) (tf : Nat × Nat) : SpK Tryz.prog 81 #[.int .u16 (mi m)] (fun w => w.heap[0]? = some (.cells ⟨tabL⟩ tT tf)) [] (fun v F' => v = .int .i64 (b : Int) ∧ F' = []) := by
  refine f_enter (args := [.int .u16 (mi m)]) Tryz.func81 rfl Tryz.ntmps81 rfl ?_
  intro w0 w a hpre hl hh
  have hm := m.isLt
  have hne : ¬ mi m = 0 := fun e => by rw [(mi_zero m).1 e] at h1; simp at h1
  obtain ⟨⟨z0, z1⟩, z2⟩ := tz_tab hb
  obtain ⟨q, hq⟩ : ∃ q : Nat, (q : Int) = tzI b := ⟨(tzI b).toNat, Int.toNat_of_nonneg z0⟩
  rw [← hq] at z0 z1 z2
  rw [Int.toNat_natCast] at z2
  have hbr := mi_rng (bitB b)
  simp only [slotsFrom, Nat.reduceAdd] at hl
  refine c_seq ?_
  refine c_region ?_
  refine wl (wl_val hl rfl trivial (r_assign hl rfl) ?_)
  clear hl a; intro a hl
  refine w_nil ?_
  have hl2 := hl.add (t := 0) (hl.nil) rfl; clear hl; have hl := hl2; clear hl2
  refine then_normal ?_
  refine c_seq ?_
  refine c_seq ?_
  refine c_region ?_
  refine wl (wl_val hl rfl trivial (r_move hl rfl) ?_)
  clear hl a; intro a hl
  refine wl (wl_val hl rfl trivial (r_eql hl rfl rfl) ?_)
  clear hl a; intro a hl
  refine w_nil ?_
  have hl2 := hl.add (t := 0) (hl.add (t := 4) (hl.nil) rfl) rfl; clear hl; have hl := hl2; clear hl2
  refine then_normal ?_
  refine c_cond hl rfl ?_ ?_
  · intro hc0
    try simp only [decide_eq_true_eq, decide_eq_false_iff_not, Bool.not_eq_true', Bool.not_eq_false', Bool.not_eq_true, Bool.not_eq_false, Bool.and_eq_true, Bool.or_eq_true, Bool.and_eq_false_iff, Bool.or_eq_false_iff, Bool.not_not, ne_eq, Int.not_lt, Int.not_le, Decidable.not_not, beq_iff_eq, bne_iff_ne] at hc0
    exfalso; first | contradiction | omega
  · intro hc0
    try simp only [decide_eq_true_eq, decide_eq_false_iff_not, Bool.not_eq_true', Bool.not_eq_false', Bool.not_eq_true, Bool.not_eq_false, Bool.and_eq_true, Bool.or_eq_true, Bool.and_eq_false_iff, Bool.or_eq_false_iff, Bool.not_not, ne_eq, Int.not_lt, Int.not_le, Decidable.not_not, beq_iff_eq, bne_iff_ne] at hc0
    refine wp_skip ?_
    refine then_normal ?_
    refine c_seq ?_
    refine c_region ?_
    refine wl (wl_val hl rfl trivial (r_move hl rfl) ?_)
    clear hl a; intro a hl
    refine wl (wl_val hl rfl trivial (r_move hl rfl) ?_)
    clear hl a; intro a hl
    refine wl (wl_val hl rfl trivial (r_negI hl rfl) ?_)
    clear hl a; intro a hl
    rw [neg_mi] at hl
    refine wl (wl_val hl rfl trivial (r_and hl rfl rfl) ?_)
    clear hl a; intro a hl
    rw [and_mi, neg_low hb h1 h2] at hl
    first | refine wl (wl_val hl rfl trivial (r_conv hl rfl Tryz.underlying36 Tryz.underlying74 (by simp only [Fits]; omega)) ?_) | refine wl (wl_val hl rfl trivial (r_convM wm_u32 hl rfl Tryz.underlying36 Tryz.underlying74) ?_)
    clear hl a; intro a hl
    refine wl (wl_val hl rfl trivial (r_mulM wm_u32 hl rfl rfl) ?_)
    clear hl a; intro a hl
    refine wl (wl_val hl rfl trivial (r_shr hl rfl rfl (by omega)) ?_)
    clear hl a; intro a hl
    rw [show (mi (bitB b) * 125613361 % 4294967296).fdiv (2 ^ (min (27 : Int).toNat IntKind.u32.bits)) = (q : Int) from hq.symm] at hl
    refine wl (wl_val hl rfl trivial (r_indexA hl rfl rfl arr189 (by omega) (by omega) (by first | (simp only [Int.reduceToNat]; rfl) | exact toNat_add1 _ | exact toNat_add2 _ _ | exact toNat_emod _ _ | exact Int.toNat_natCast _ | rfl)) ?_)
    clear hl a; intro a hl
    first | refine wl (w_load hl hh rfl trivial one5 rfl (by repeat (first | exact find_head | apply find_tail)) (by first | rfl) ?_) | refine wl (w_loadR hl hh rfl trivial one5 rfl hpre (by simp) (by simpa using z2) ?_)
    clear hl a; intro a hl
    first | refine wl (wl_val hl rfl trivial (r_conv hl rfl Tryz.underlying5 Tryz.underlying3 (by simp only [Fits]; omega)) ?_) | refine wl (wl_val hl rfl trivial (r_convW hl rfl Tryz.underlying5 Tryz.underlying3) ?_)
    clear hl a; intro a hl
    refine wl (wl_val hl rfl trivial (r_assign hl rfl) ?_)
    clear hl a; intro a hl
    refine w_nil ?_
    have hl2 := hl.add (t := 2) (hl.nil) rfl; clear hl; have hl := hl2; clear hl2
    refine then_normal ?_
    refine wp_ret ?_
    refine f_ret1 (F' := []) hl hh rfl rfl (by repeat (first | exact keeps_nil | apply keeps_cons (by repeat (first | exact find_head | apply find_tail)) (by first  | rfl) | exact keeps_self | apply keeps_mv)) ?_
    exact ⟨rfl, rfl⟩

set_option maxHeartbeats 1000000 in
theorem tasks_spec (m : BitVec 16) (tT : TypeId) (tf : Nat × Nat) : SpK Tryz.prog 60 #[.int .u16 (mi m)] (fun w => w.heap[0]? = some (.cells ⟨tabL⟩ tT tf)) [] (fun v F' => Row v (tasksB m).length (fl tkc (tasksB m)) 1 57 F') := by
  refine f_enter (args := [.int .u16 (mi m)]) Tryz.func60 rfl Tryz.ntmps60 rfl ?_
  intro w0 w a hpre hl hh
  simp only [slotsFrom, Nat.reduceAdd] at hl
  refine c_seq ?_
  refine c_region ?_
  refine wl (wl_val hl rfl trivial (r_assign hl rfl) ?_)
  clear hl a; intro a hl
  refine w_nil ?_
  have hl2 := hl.add (t := 0) (hl.nil) rfl; clear hl; have hl := hl2; clear hl2
  refine then_normal ?_
  refine c_seq ?_
  refine c_region ?_
  refine wl (wl_val hl rfl trivial (r_move hl rfl) ?_)
  clear hl a; intro a hl
  refine wl (w_call hl hh rfl trivial rfl cal80 rfl (ones_spec m) (by repeat (first | exact keeps_nil | apply keeps_cons (by repeat (first | exact find_head | apply find_tail)) (by first  | rfl) | exact keeps_self | exact keeps_left | exact keeps_right | exact keeps_swap | apply keeps_mv)) trivial ?_)
  clear hl hh a w; intro vc Fc a w hR hl hh
  obtain ⟨c, hc, rfl, rfl⟩ := hR
  try simp only [List.cons_append, List.nil_append] at hh
  refine wl (w_makeSlice0 hl hh rfl trivial app114 rfl rfl (by omega) (by decide) ?_)
  clear hl hh a w; intro k6 jk6 a w hjk6 hl hh
  refine wl (wl_val hl rfl trivial (r_assign hl rfl) ?_)
  clear hl a; intro a hl
  refine w_nil ?_
  have hl2 := hl.add (t := 0) (hl.add (t := 3) (hl.nil) rfl) rfl; clear hl; have hl := hl2; clear hl2
  refine then_normal ?_
  refine c_seq ?_
  refine wp_block ?_
  obtain ⟨KS0, hKS0, hk⟩ := (hl.nil).name
  obtain ⟨HS0, hHS0, hh2⟩ := hh.nameT (A := []) (U := [(k6, C jk6 57)]) ((by repeat (first | exact keeps_nil | exact keeps_self | exact keeps_swap | apply keeps_mv)))
  refine c_loop (α := TS) (fun z => (tasksB z.m).length) (fun z a w => (Row z.v z.l.length (fl tkc z.l) 1 57 z.E ∧ z.l ++ tasksB z.m = tasksB m ∧ z.l.length ≤ 16) ∧ Sl 19 ([(0, .int .u16 (mi z.m)), (3, z.v)] ++ KS0) a ∧ Has _ w0 ([] ++ (HS0 ++ z.E)) w) ⟨m, .slice (some ⟨k6, 0, none⟩) 0 c, [(k6, C jk6 57)], []⟩ ⟨⟨row_empty hjk6, rfl, Nat.zero_le _⟩, hl.addE (t := 0) (hl.addE (t := 3) (hk) rfl (by first | rfl)) rfl (by first | rfl), hh2⟩ ?_
  clear hk hh2 hl hh a w
  intro z a w hI
  obtain ⟨⟨hRz, hz, hzl⟩, hl, hh⟩ := hI
  subst hKS0; subst hHS0
  simp only [List.cons_append, List.nil_append, List.append_nil] at hl hh
  refine c_seq ?_
  refine c_seq ?_
  refine c_region ?_
  refine wl (wl_val hl rfl trivial (r_move hl rfl) ?_)
  clear hl a; intro a hl
  refine wl (wl_val hl rfl trivial (r_neq hl rfl rfl) ?_)
  clear hl a; intro a hl
  refine w_nil ?_
  have hl2 := hl.add (t := 0) (hl.add (t := 3) (hl.add (t := 8) (hl.nil) rfl) rfl) rfl; clear hl; have hl := hl2; clear hl2
  refine then_normal ?_
  refine c_cond hl rfl ?_ ?_
  · intro hc0
    try simp only [decide_eq_true_eq, decide_eq_false_iff_not, Bool.not_eq_true', Bool.not_eq_false', Bool.not_eq_true, Bool.not_eq_false, Bool.and_eq_true, Bool.or_eq_true, Bool.and_eq_false_iff, Bool.or_eq_false_iff, Bool.not_not, ne_eq, Int.not_lt, Int.not_le, Decidable.not_not, beq_iff_eq, bne_iff_ne] at hc0
    obtain ⟨b, hb, hb1, hb2⟩ := low_ex (m := z.m) (fun e => by first | exact absurd ((mi_zero _).2 e) (by assumption) | exact absurd (by rw [e]; rfl) hc0)
    refine wp_skip ?_
    refine then_normal ?_
    refine c_seq ?_
    refine wp_block ?_
    refine c_region ?_
    refine wl (wl_val hl rfl trivial (r_move hl rfl) ?_)
    clear hl a; intro a hl
    refine wl (wl_val hl rfl trivial (r_move hl rfl) ?_)
    clear hl a; intro a hl
    refine wl (w_call hl hh rfl trivial rfl cal81 rfl (tz_spec z.m b hb hb1 hb2 tT tf) (by repeat (first | exact keeps_nil | apply keeps_cons (by repeat (first | exact find_head | apply find_tail)) (by first  | rfl) | exact keeps_self | exact keeps_left | exact keeps_right | exact keeps_swap | apply keeps_mv)) (heap_keep hh hpre) ?_)
    clear hl hh a w; intro vc Fc a w hR hl hh
    obtain ⟨rfl, rfl⟩ := hR
    try simp only [List.cons_append, List.nil_append] at hh
    refine wl (w_buildSlice hl hh rfl trivial app114 zero57 rfl rfl rfl rfl rfl (by simp only [fillL, arrPl, List.range_succ, List.range_zero, List.map_cons, List.map_nil, List.map_append, List.nil_append, List.replicate_succ, List.replicate_zero, List.flatten_cons, List.flatten_nil, Nat.zero_mul, Nat.mul_one, Nat.one_mul, Nat.reduceMul, setL, List.getElem?_cons_zero, List.getElem?_cons_succ, Value.cells, List.take_zero, List.take_succ_cons, List.take_nil, List.drop_zero, List.drop_succ_cons, List.drop_nil, List.length_cons, List.length_nil, List.cons_append, List.nil_append, List.append_nil, Nat.zero_add, Nat.add_zero, Nat.reduceAdd, Nat.reduceBEq, Nat.reduceEqDiff, Nat.ble, BEq.rfl, Bool.and_true, Bool.and_self, cond_true, beq_self_eq_true]; rfl) ?_)
    clear hl hh a w; intro k16 a w hl hh
    refine wl (w_append (news := [.int .i64 (b : Int)]) hl hh rfl trivial app114 rfl rfl rfl hRz (by repeat (first | exact keeps_nil | apply keeps_cons (by repeat (first | exact find_head | apply find_tail)) (by first  | rfl) | exact keeps_self | exact keeps_left | exact keeps_right | exact keeps_swap | apply keeps_mv)) (hh.mem _ _ (Find.mem (by repeat (first | exact find_head | apply find_tail)))) rfl rfl rfl (by omega) (by omega) (by omega) (by decide) ?_)
    clear hl hh a w; intro rv2 E2 a w hR2 hl hh
    have hh3 := hh.comm; clear hh; have hh := hh3; clear hh3
    simp only [List.cons_append, List.nil_append] at hh
    refine wl (wl_val hl rfl trivial (r_assign hl rfl) ?_)
    clear hl a; intro a hl
    refine w_nil ?_
    have hl2 := hl.add (t := 0) (hl.add (t := 3) (hl.nil) rfl) rfl; clear hl; have hl := hl2; clear hl2
    refine blk_normal ?_
    refine then_normal ?_
    refine c_region ?_
    refine wl (wl_val hl rfl trivial (r_move hl rfl) ?_)
    clear hl a; intro a hl
    refine wl (wl_val hl rfl trivial (r_move hl rfl) ?_)
    clear hl a; intro a hl
    refine wl (wl_val hl rfl trivial (r_subM wm_u16 hl rfl rfl) ?_)
    clear hl a; intro a hl
    rw [sub_miM] at hl
    refine wl (wl_val hl rfl trivial (r_and hl rfl rfl) ?_)
    clear hl a; intro a hl
    rw [and_mi, clear_low hb hb1 hb2] at hl
    refine wl (wl_val hl rfl trivial (r_assign hl rfl) ?_)
    clear hl a; intro a hl
    refine w_nil ?_
    have hl2 := hl.add (t := 0) (hl.add (t := 3) (hl.nil) rfl) rfl; clear hl; have hl := hl2; clear hl2
    refine then_normal ?_
    refine ⟨⟨z.m &&& ~~~ bitB b, rv2, E2, z.l ++ [b]⟩, (by simp only; rw [tasks_cons hb hb1 hb2]; simp), ⟨row_snoc hR2, by simp only; rw [List.append_assoc, List.singleton_append, ← tasks_cons hb hb1 hb2]; exact hz, by have := congrArg List.length hz; rw [tasks_cons hb hb1 hb2] at this; have h16 := tasks_len m; simp only [List.length_append, List.length_cons, List.length_nil] at this ⊢; omega⟩, hl.addE (t := 0) (hl.addE (t := 3) (hl.nil) rfl (by first | rfl | (congr 1; omega))) rfl (by first | rfl | (congr 1; omega)), hh.keep (by repeat (first | exact keeps_nil | apply keeps_cons (by repeat (first | exact find_head | apply find_tail)) (by first  | rfl) | exact keeps_self | exact keeps_left | exact keeps_right | exact keeps_swap | apply keeps_mv))⟩
  · intro hc0
    try simp only [decide_eq_true_eq, decide_eq_false_iff_not, Bool.not_eq_true', Bool.not_eq_false', Bool.not_eq_true, Bool.not_eq_false, Bool.and_eq_true, Bool.or_eq_true, Bool.and_eq_false_iff, Bool.or_eq_false_iff, Bool.not_not, ne_eq, Int.not_lt, Int.not_le, Decidable.not_not, beq_iff_eq, bne_iff_ne] at hc0
    have hm0 : z.m = 0#16 := (mi_zero _).1 (by first | assumption | exact Classical.byContradiction hc0)
    rw [hm0, tasks_zero, List.append_nil] at hz
    rw [hz] at hRz
    refine wp_exit ?_
    refine then_exit ?_
    refine then_exit ?_
    refine blk_exit ?_
    refine then_normal ?_
    refine c_seq ?_
    refine c_region ?_
    refine wl (wl_val hl rfl trivial (r_move hl rfl) ?_)
    clear hl a; intro a hl
    refine wl (wl_val hl rfl trivial (r_assign hl rfl) ?_)
    clear hl a; intro a hl
    refine w_nil ?_
    have hl2 := hl.add (t := 2) (hl.nil) rfl; clear hl; have hl := hl2; clear hl2
    refine then_normal ?_
    refine wp_ret ?_
    refine f_ret1 (F' := z.E) hl hh rfl rfl (by repeat (first | exact keeps_nil | apply keeps_cons (by repeat (first | exact find_head | apply find_tail)) (by first  | rfl) | exact keeps_self | exact keeps_left | exact keeps_right | exact keeps_swap | apply keeps_mv)) ?_
    exact hRz
end Go.Proofs.Qxb6500911aGreatDoor

import Derived.Test.Qxb6500913aR2
namespace Go.Proofs.Qxb6500913a
open Go.Eng
set_option linter.unusedVariables false
set_option linter.unusedSimpArgs false
theorem zero56 : zeroOk Try.prog 56 (.agg #[(.map none), (.int .u64 0), (.map none), (.map none), (.map none), (.map none), (.int .u32 0), (.int .i64 0)]) := by unfold zeroOk; kernel_rfl
theorem bld56 : buildOk Try.prog 56 [(0, 1), (1, 1), (2, 1), (3, 1), (4, 1), (5, 1), (6, 1), (7, 1)] = true := by kernel_rfl
attribute [local irreducible] encL

def cutG (g : Nat) : Int := if 281474976710655 < g then 281474976710655 else (g : Int)
theorem newAt_cut (g : Nat) : Sp Try.prog 38 #[.int .u64 g] [] (fun u F' => ∃ k, u = .pointer (some ⟨k, 0, none⟩) ∧ F' = [(k, C (encL (initF (cutG g))) 87)]) := by
  unfold cutG
  by_cases h : 281474976710655 < g
  · rw [if_pos h]; exact newAt_gt g h
  · rw [if_neg h]; exact newAt_le g (by omega)
theorem cutG_in (g : Nat) : 0 ≤ cutG g ∧ cutG g ≤ 281474976710655 := by unfold cutG; split <;> omega
def StartG (sb : Nat) (c : List Value) (ops : List MOp) (g : Nat) (u : Value) (F' : List (Nat × Obj)) : Prop :=
  ∃ gb k p n cap steps, n = steps.length ∧ u = .tuple #[.pointer (some ⟨gb, 0, none⟩), .slice p n cap] ∧ Ops sb c p cap steps ∧ steps.length ≤ ops.length ∧
    F' = [(gb, C [.pointer (some ⟨k, 0, none⟩), .slice none 0 0] 41), (k, C (encL (initF (cutG g))) 87)]
theorem start_boot (sb : Nat) (c : List Value) (T : TypeId) (fr : Nat × Nat) (p : Option Addr) (n cap : Nat) (ops : List MOp) (hn : n = ops.length) (h : Ops sb c p cap ops) :
    ∃ (g : Nat) (sv : Value), g < 18446744073709551616 ∧ SpK Try.prog 14 #[.slice p n cap] (OpsIn sb c T fr ops) [] (fun u F' => u = .tuple #[.int .u64 g, sv] ∧ F' = []) ∧ SpK Try.prog 13 #[.slice p n cap] (OpsIn sb c T fr ops) [] (StartG sb c ops g) := by
  subst hn
  cases ops with
  | nil =>
    refine ⟨0, _, by omega, spk_weak (boot_nil p cap) (fun _ _ => trivial) (fun _ _ r => r), ?_⟩
    refine spk_weak (start_gen _ _ 0 (cutG 0) (OpsIn sb c T fr []) (spk_weak (boot_nil p cap) (fun _ _ => trivial) (fun _ _ r => r)) (newAt_cut 0) (fun w w' hw hp => hp.keep hw)) (fun _ hp => hp) ?_
    rintro u F' ⟨gb, k, rfl, rfl⟩
    exact ⟨gb, k, p, 0, cap, [], rfl, rfl, h, Nat.le_refl _, rfl⟩
  | cons o ops =>
    obtain ⟨so, rfl, h0⟩ := h.at_ (by simp)
    have hle := h.le
    simp only [List.length_cons] at hle
    have hin : ∀ w, OpsIn sb c T fr (o :: ops) w → w.heap[sb]? = some (.cells ⟨c⟩ T fr) := fun w hp => hp (by simp)
    by_cases hk : o.kd = 8
    · have tl : ∀ o', o' ∈ ops → o'.ok := fun o' m => h.ok o' (List.mem_cons_of_mem _ m)
      have hoa : o.a < 18446744073709551616 := (h.ok o (List.mem_cons_self ..)).2.2.1
      by_cases h1 : 1 < cap
      · refine ⟨o.a, _, hoa, spk_weak (boot_yes so cap sb c T fr o ops hle h0 hk h1) hin (fun _ _ r => r), ?_⟩
        refine spk_weak (start_gen _ _ o.a (cutG o.a) (OpsIn sb c T fr (o :: ops)) (spk_weak (boot_yes so cap sb c T fr o ops hle h0 hk h1) hin (fun _ _ r => r)) (newAt_cut o.a) (fun w w' hw hp => hp.keep hw)) (fun _ hp => hp) ?_
        rintro u F' ⟨gb, k, rfl, rfl⟩
        refine ⟨gb, k, _, _, cap - 1, ops, by simp, rfl, ⟨by omega, tl, fun h2 => ⟨so + 1 * 6, rfl, fun i q hq => ?_⟩⟩, by simp, rfl⟩
        have := h0 (i + 1) q (by simpa using hq)
        rw [show so + 1 * 6 + i * 6 = so + (i + 1) * 6 by omega]
        exact this
      · have e : ops = [] := by cases ops with
          | nil => rfl
          | cons a b => simp only [List.length_cons] at hle; omega
        subst e
        refine ⟨o.a, _, hoa, spk_weak (boot_yes1 so cap sb c T fr o [] hle h0 hk (by simp only [List.length_nil] at hle; omega)) hin (fun _ _ r => r), ?_⟩
        refine spk_weak (start_gen _ _ o.a (cutG o.a) (OpsIn sb c T fr (o :: [])) (spk_weak (boot_yes1 so cap sb c T fr o [] hle h0 hk (by simp only [List.length_nil] at hle; omega)) hin (fun _ _ r => r)) (newAt_cut o.a) (fun w w' hw hp => hp.keep hw)) (fun _ hp => hp) ?_
        rintro u F' ⟨gb, k, rfl, rfl⟩
        exact ⟨gb, k, _, _, 0, [], rfl, rfl, ⟨Nat.le_refl _, tl, fun h2 => absurd h2 (by simp)⟩, by simp, rfl⟩
    · refine ⟨0, _, by omega, spk_weak (boot_no so cap sb c T fr o ops hle h0 hk) hin (fun _ _ r => r), ?_⟩
      refine spk_weak (start_gen _ _ 0 (cutG 0) (OpsIn sb c T fr (o :: ops)) (spk_weak (boot_no so cap sb c T fr o ops hle h0 hk) hin (fun _ _ r => r)) (newAt_cut 0) (fun w w' hw hp => hp.keep hw)) (fun _ hp => hp) ?_
      rintro u F' ⟨gb, k, rfl, rfl⟩
      exact ⟨gb, k, _, _, cap, o :: ops, rfl, rfl, h, Nat.le_refl _, rfl⟩
/-! sums over the entries that have come -/
def sumF (g : Nat → Int) : List Nat → Int
  | [] => 0
  | x :: l => g x + sumF g l
theorem sumF_snoc (g : Nat → Int) (x : Nat) : ∀ l : List Nat, sumF g (l ++ [x]) = sumF g l + g x
  | [] => by simp [sumF]
  | y :: l => by show g y + sumF g (l ++ [x]) = g y + sumF g l + g x; rw [sumF_snoc g x l]; omega
theorem sumF_erase (g : Nat → Int) {x : Nat} : ∀ {l : List Nat}, x ∈ l → sumF g l = g x + sumF g (l.erase x)
  | [], h => by cases h
  | y :: l, h => by
    by_cases e : y = x
    · subst e; rw [List.erase_cons_head]; rfl
    · rw [List.erase_cons_tail (by simpa using e)]
      show g y + sumF g l = g x + (g y + sumF g (l.erase x))
      rw [sumF_erase g ((List.mem_cons.1 h).resolve_left fun q => e q.symm)]; omega
theorem sumF_nn (g : Nat → Int) (hg : ∀ x, 0 ≤ g x) : ∀ l : List Nat, 0 ≤ sumF g l
  | [] => Int.le_refl _
  | y :: l => by have := sumF_nn g hg l; have := hg y; show 0 ≤ g y + sumF g l; omega
theorem sumF_le (g : Nat → Int) (hg : ∀ x, 0 ≤ g x) : ∀ {l m : List Nat}, l.Nodup → (∀ x, x ∈ l → x ∈ m) → sumF g l ≤ sumF g m
  | [], m, _, _ => sumF_nn g hg m
  | x :: l, m, hn, h => by
    obtain ⟨n1, n2⟩ := List.nodup_cons.1 hn
    have hx := h x (List.mem_cons_self ..)
    have h1 := sumF_le g hg (l := l) (m := m.erase x) n2 fun y hy => by
      have hne : y ≠ x := fun e => n1 (e ▸ hy)
      exact (List.mem_erase_of_ne hne).2 (h y (List.mem_cons_of_mem _ hy))
    rw [sumF_erase g hx]
    show g x + sumF g l ≤ _
    omega
theorem nodup_le : ∀ {l m : List Nat}, l.Nodup → (∀ x, x ∈ l → x ∈ m) → l.length ≤ m.length
  | [], _, _, _ => Nat.zero_le _
  | x :: l, m, hn, h => by
    obtain ⟨n1, n2⟩ := List.nodup_cons.1 hn
    have hx := h x (List.mem_cons_self ..)
    have h1 := nodup_le (l := l) (m := m.erase x) n2 fun y hy => by
      have hne : y ≠ x := fun e => n1 (e ▸ hy)
      exact (List.mem_erase_of_ne hne).2 (h y (List.mem_cons_of_mem _ hy))
    rw [List.length_erase_of_mem hx] at h1
    have h2 : 0 < m.length := List.length_pos_of_mem hx
    show l.length + 1 ≤ m.length
    omega
structure SeenOk (n : Nat) (seen : List Nat) : Prop where
  nd : seen.Nodup
  lt : ∀ j, j ∈ seen → j < n
theorem SeenOk.start (n : Nat) : SeenOk n [] := ⟨List.nodup_nil, fun j h => by cases h⟩
theorem SeenOk.next {n j : Nat} {seen : List Nat} (h : SeenOk n seen) (hj : j < n) (hn : j ∉ seen) : SeenOk n (seen ++ [j]) := by
  refine ⟨List.nodup_append.2 ⟨h.nd, List.nodup_cons.2 ⟨by simp, List.nodup_nil⟩, ?_⟩, fun i hi => ?_⟩
  · intro a ha b hb e
    rw [List.mem_singleton] at hb
    exact hn (hb ▸ e ▸ ha)
  · rcases List.mem_append.1 hi with q | q
    · exact h.lt i q
    · rw [List.mem_singleton.1 q]; exact hj
theorem SeenOk.len {n : Nat} {seen : List Nat} (h : SeenOk n seen) : seen.length ≤ n := by
  have := nodup_le (m := List.range n) h.nd fun x hx => List.mem_range.2 (h.lt x hx)
  rw [List.length_range] at this; exact this
theorem SeenOk.sum {n : Nat} {seen : List Nat} (h : SeenOk n seen) (g : Nat → Int) (hg : ∀ x, 0 ≤ g x) : 0 ≤ sumF g seen ∧ sumF g seen ≤ sumF g (List.range n) :=
  ⟨sumF_nn g hg _, sumF_le g hg h.nd fun x hx => List.mem_range.2 (h.lt x hx)⟩
theorem SeenOk.all {n : Nat} {seen : List Nat} (h : SeenOk n seen) (g : Nat → Int) (hg : ∀ x, 0 ≤ g x) (ha : ∀ j, j < n → j ∈ seen) : sumF g seen = sumF g (List.range n) := by
  have h1 := (h.sum g hg).2
  have h2 := sumF_le g hg (l := List.range n) (m := seen) List.nodup_range fun x hx => ha x (List.mem_range.1 hx)
  omega


set_option maxHeartbeats 2000000 in
theorem newM_le (g : Nat) (hg : g ≤ 281474976710655) : Sp Try.prog 15 #[.int .u64 g] [] (fun v F' => ∃ mb wb rb zb fb qb, v = .pointer (some ⟨mb, 0, none⟩) ∧ F' = [(mb, C [.map (some wb), .int .u64 (g : Int), .map (some rb), .map (some zb), .map (some fb), .map (some qb), .int .u32 2, .int .i64 0] 56), (wb, MO (kInt .u32) []), (rb, MO (kInt .u32) []), (zb, MO (kInt .u64) []), (fb, MO (kInt .u64) []), (qb, MO (kInt .i64) [])]) := by
  refine f_enter (args := [.int .u64 g]) Try.func15 rfl Try.ntmps15 rfl ?_
  intro w0 w a hpre hl hh
  simp only [slotsFrom, Nat.reduceAdd] at hl
  refine c_seq ?_
  refine c_region ?_
  refine wl (wl_val hl rfl trivial (r_assign hl rfl) ?_)
  clear hl a; intro a hl
  refine w_nil ?_
  have hl2 := hl.add (t := 0) (hl.nil) rfl; clear hl; have hl := hl2; clear hl2
  refine then_normal ?_
  refine c_seq ?_
  refine c_seq ?_
  refine c_region ?_
  refine wl (wl_val hl rfl trivial (r_move hl rfl) ?_)
  clear hl a; intro a hl
  refine wl (wl_val hl rfl trivial (r_gtr hl rfl rfl) ?_)
  clear hl a; intro a hl
  refine w_nil ?_
  have hl2 := hl.add (t := 0) (hl.add (t := 4) (hl.nil) rfl) rfl; clear hl; have hl := hl2; clear hl2
  refine then_normal ?_
  refine c_cond hl rfl ?_ ?_
  · intro hc0
    try simp only [decide_eq_true_eq, decide_eq_false_iff_not, Bool.not_eq_true', Bool.not_eq_false', Bool.not_eq_true, Bool.not_eq_false, Bool.and_eq_true, Bool.or_eq_true, Bool.and_eq_false_iff, Bool.or_eq_false_iff, Bool.not_not, ne_eq, Int.not_lt, Int.not_le, Decidable.not_not, beq_iff_eq, bne_iff_ne] at hc0
    exfalso; omega
  · intro hc0
    try simp only [decide_eq_true_eq, decide_eq_false_iff_not, Bool.not_eq_true', Bool.not_eq_false', Bool.not_eq_true, Bool.not_eq_false, Bool.and_eq_true, Bool.or_eq_true, Bool.and_eq_false_iff, Bool.or_eq_false_iff, Bool.not_not, ne_eq, Int.not_lt, Int.not_le, Decidable.not_not, beq_iff_eq, bne_iff_ne] at hc0
    refine wp_skip ?_
    refine then_normal ?_
    refine c_seq ?_
    refine c_region ?_
    refine wl (w_makeMap (kInt .u32) hl hh rfl trivial ?_)
    clear hl hh a w; intro k5 a w hl hh
    refine wl (wl_val hl rfl trivial (r_move hl rfl) ?_)
    clear hl a; intro a hl
    refine wl (w_makeMap (kInt .u32) hl hh rfl trivial ?_)
    clear hl hh a w; intro k7 a w hl hh
    refine wl (w_makeMap (kInt .u64) hl hh rfl trivial ?_)
    clear hl hh a w; intro k8 a w hl hh
    refine wl (w_makeMap (kInt .u64) hl hh rfl trivial ?_)
    clear hl hh a w; intro k9 a w hl hh
    refine wl (w_makeMap (kInt .i64) hl hh rfl trivial ?_)
    clear hl hh a w; intro k10 a w hl hh
    refine wl (wl_val hl rfl trivial (r_build hl rfl zero56 bld56 (by simp only [fillL, setL, List.getElem?_cons_zero, List.getElem?_cons_succ, Value.cells, List.take_zero, List.take_succ_cons, List.take_nil, List.drop_zero, List.drop_succ_cons, List.drop_nil, List.length_cons, List.length_nil, List.cons_append, List.nil_append, List.append_nil, Nat.zero_add, Nat.add_zero, Nat.reduceAdd, Nat.reduceBEq, Nat.reduceEqDiff, Nat.ble, BEq.rfl, Bool.and_true, Bool.and_self, cond_true, beq_self_eq_true]; rfl)) ?_)
    clear hl a; intro a hl
    refine wl (w_box hl hh rfl trivial rfl rfl ?_)
    clear hl hh a w; intro k12 a w hl hh
    refine wl (wl_val hl rfl trivial (r_assign hl rfl) ?_)
    clear hl a; intro a hl
    refine w_nil ?_
    have hl2 := hl.add (t := 2) (hl.nil) rfl; clear hl; have hl := hl2; clear hl2
    refine then_normal ?_
    refine wp_ret ?_
    refine f_ret1 (F' := [(k12, C [.map (some k5), .int .u64 (g : Int), .map (some k7), .map (some k8), .map (some k9), .map (some k10), .int .u32 2, .int .i64 0] 56), (k5, MO (kInt .u32) []), (k7, MO (kInt .u32) []), (k8, MO (kInt .u64) []), (k9, MO (kInt .u64) []), (k10, MO (kInt .i64) [])]) hl hh rfl rfl (by repeat (first | exact keeps_nil | apply keeps_cons (by repeat (first | exact find_head | apply find_tail)) (by first  | rfl) | exact keeps_self | apply keeps_mv)) ?_
    exact ⟨k12, k5, k7, k8, k9, k10, rfl, rfl⟩

set_option maxHeartbeats 2000000 in
theorem newM_gt (g : Nat) (hg : 281474976710655 < g) : Sp Try.prog 15 #[.int .u64 g] [] (fun v F' => ∃ mb wb rb zb fb qb, v = .pointer (some ⟨mb, 0, none⟩) ∧ F' = [(mb, C [.map (some wb), .int .u64 281474976710655, .map (some rb), .map (some zb), .map (some fb), .map (some qb), .int .u32 2, .int .i64 0] 56), (wb, MO (kInt .u32) []), (rb, MO (kInt .u32) []), (zb, MO (kInt .u64) []), (fb, MO (kInt .u64) []), (qb, MO (kInt .i64) [])]) := by
  refine f_enter (args := [.int .u64 g]) Try.func15 rfl Try.ntmps15 rfl ?_
  intro w0 w a hpre hl hh
  simp only [slotsFrom, Nat.reduceAdd] at hl
  refine c_seq ?_
  refine c_region ?_
  refine wl (wl_val hl rfl trivial (r_assign hl rfl) ?_)
  clear hl a; intro a hl
  refine w_nil ?_
  have hl2 := hl.add (t := 0) (hl.nil) rfl; clear hl; have hl := hl2; clear hl2
  refine then_normal ?_
  refine c_seq ?_
  refine c_seq ?_
  refine c_region ?_
  refine wl (wl_val hl rfl trivial (r_move hl rfl) ?_)
  clear hl a; intro a hl
  refine wl (wl_val hl rfl trivial (r_gtr hl rfl rfl) ?_)
  clear hl a; intro a hl
  refine w_nil ?_
  have hl2 := hl.add (t := 0) (hl.add (t := 4) (hl.nil) rfl) rfl; clear hl; have hl := hl2; clear hl2
  refine then_normal ?_
  refine c_cond hl rfl ?_ ?_
  · intro hc0
    try simp only [decide_eq_true_eq, decide_eq_false_iff_not, Bool.not_eq_true', Bool.not_eq_false', Bool.not_eq_true, Bool.not_eq_false, Bool.and_eq_true, Bool.or_eq_true, Bool.and_eq_false_iff, Bool.or_eq_false_iff, Bool.not_not, ne_eq, Int.not_lt, Int.not_le, Decidable.not_not, beq_iff_eq, bne_iff_ne] at hc0
    refine c_region ?_
    refine wl (wl_val hl rfl trivial (r_assign hl rfl) ?_)
    clear hl a; intro a hl
    refine w_nil ?_
    have hl2 := hl.add (t := 0) (hl.nil) rfl; clear hl; have hl := hl2; clear hl2
    refine then_normal ?_
    refine c_seq ?_
    refine c_region ?_
    refine wl (w_makeMap (kInt .u32) hl hh rfl trivial ?_)
    clear hl hh a w; intro k5 a w hl hh
    refine wl (wl_val hl rfl trivial (r_move hl rfl) ?_)
    clear hl a; intro a hl
    refine wl (w_makeMap (kInt .u32) hl hh rfl trivial ?_)
    clear hl hh a w; intro k7 a w hl hh
    refine wl (w_makeMap (kInt .u64) hl hh rfl trivial ?_)
    clear hl hh a w; intro k8 a w hl hh
    refine wl (w_makeMap (kInt .u64) hl hh rfl trivial ?_)
    clear hl hh a w; intro k9 a w hl hh
    refine wl (w_makeMap (kInt .i64) hl hh rfl trivial ?_)
    clear hl hh a w; intro k10 a w hl hh
    refine wl (wl_val hl rfl trivial (r_build hl rfl zero56 bld56 (by simp only [fillL, setL, List.getElem?_cons_zero, List.getElem?_cons_succ, Value.cells, List.take_zero, List.take_succ_cons, List.take_nil, List.drop_zero, List.drop_succ_cons, List.drop_nil, List.length_cons, List.length_nil, List.cons_append, List.nil_append, List.append_nil, Nat.zero_add, Nat.add_zero, Nat.reduceAdd, Nat.reduceBEq, Nat.reduceEqDiff, Nat.ble, BEq.rfl, Bool.and_true, Bool.and_self, cond_true, beq_self_eq_true]; rfl)) ?_)
    clear hl a; intro a hl
    refine wl (w_box hl hh rfl trivial rfl rfl ?_)
    clear hl hh a w; intro k12 a w hl hh
    refine wl (wl_val hl rfl trivial (r_assign hl rfl) ?_)
    clear hl a; intro a hl
    refine w_nil ?_
    have hl2 := hl.add (t := 2) (hl.nil) rfl; clear hl; have hl := hl2; clear hl2
    refine then_normal ?_
    refine wp_ret ?_
    refine f_ret1 (F' := [(k12, C [.map (some k5), .int .u64 281474976710655, .map (some k7), .map (some k8), .map (some k9), .map (some k10), .int .u32 2, .int .i64 0] 56), (k5, MO (kInt .u32) []), (k7, MO (kInt .u32) []), (k8, MO (kInt .u64) []), (k9, MO (kInt .u64) []), (k10, MO (kInt .i64) [])]) hl hh rfl rfl (by repeat (first | exact keeps_nil | apply keeps_cons (by repeat (first | exact find_head | apply find_tail)) (by first  | rfl) | exact keeps_self | apply keeps_mv)) ?_
    exact ⟨k12, k5, k7, k8, k9, k10, rfl, rfl⟩
  · intro hc0
    try simp only [decide_eq_true_eq, decide_eq_false_iff_not, Bool.not_eq_true', Bool.not_eq_false', Bool.not_eq_true, Bool.not_eq_false, Bool.and_eq_true, Bool.or_eq_true, Bool.and_eq_false_iff, Bool.or_eq_false_iff, Bool.not_not, ne_eq, Int.not_lt, Int.not_le, Decidable.not_not, beq_iff_eq, bne_iff_ne] at hc0
    exfalso; omega

theorem newM_spec (g : Nat) : Sp Try.prog 15 #[.int .u64 g] [] (fun v F' => ∃ mb wb rb zb fb qb, v = .pointer (some ⟨mb, 0, none⟩) ∧ F' = [(mb, C [.map (some wb), .int .u64 (cutG g), .map (some rb), .map (some zb), .map (some fb), .map (some qb), .int .u32 2, .int .i64 0] 56), (wb, MO (kInt .u32) []), (rb, MO (kInt .u32) []), (zb, MO (kInt .u64) []), (fb, MO (kInt .u64) []), (qb, MO (kInt .i64) [])]) := by
  unfold cutG
  by_cases h : 281474976710655 < g
  · rw [if_pos h]; exact newM_gt g h
  · rw [if_neg h]; exact newM_le g (by omega)

set_option maxHeartbeats 1000000 in
theorem genM_spec (mb wb rb zb fb qb : Nat) (W R Z Fd Q : List (Int × Value)) (bt fr sp : Int) (x : Nat) (u : Int) (hw : (mget R (x : Int)).getD (.int .u64 0) = .int .u64 u) (h0 : 0 ≤ bt ∧ 0 ≤ u ∧ bt + u ≤ 281474976710655) : Sp Try.prog 23 #[.pointer (some ⟨mb, 0, none⟩), .int .u32 x] [(mb, C [.map (some wb), .int .u64 bt, .map (some rb), .map (some zb), .map (some fb), .map (some qb), .int .u32 fr, .int .i64 sp] 56), (wb, MO (kInt .u32) W), (rb, MO (kInt .u32) R), (zb, MO (kInt .u64) Z), (fb, MO (kInt .u64) Fd), (qb, MO (kInt .i64) Q)] (fun v F' => v = .int .u64 (bt + u) ∧ F' = [(mb, C [.map (some wb), .int .u64 bt, .map (some rb), .map (some zb), .map (some fb), .map (some qb), .int .u32 fr, .int .i64 sp] 56), (wb, MO (kInt .u32) W), (rb, MO (kInt .u32) R), (zb, MO (kInt .u64) Z), (fb, MO (kInt .u64) Fd), (qb, MO (kInt .i64) Q)]) := by
  refine f_enter (args := [.pointer (some ⟨mb, 0, none⟩), .int .u32 x]) Try.func23 rfl Try.ntmps23 rfl ?_
  intro w0 w a hpre hl hh
  simp only [slotsFrom, Nat.reduceAdd] at hl
  refine c_seq ?_
  refine c_region ?_
  refine wl (wl_val hl rfl trivial (r_assign hl rfl) ?_)
  clear hl a; intro a hl
  refine w_nil ?_
  have hl2 := hl.add (t := 0) (hl.add (t := 1) (hl.nil) rfl) rfl; clear hl; have hl := hl2; clear hl2
  refine then_normal ?_
  refine c_seq ?_
  refine c_draw [(mb, C [.map (some wb), .int .u64 bt, .map (some rb), .map (some zb), .map (some fb), .map (some qb), .int .u32 fr, .int .i64 sp] 56), (rb, MO (kInt .u32) R)] [10, 11] mixed hh ?_
  clear hh w; intro w hh
  have hM : Mem [(mb, C [.map (some wb), .int .u64 bt, .map (some rb), .map (some zb), .map (some fb), .map (some qb), .int .u32 fr, .int .i64 sp] 56), (rb, MO (kInt .u32) R)] w := (by repeat (first | exact Mem.nil | refine Mem.cons hh.mem (by repeat (first | exact find_head | apply find_tail)) ?_ | refine Mem.consR hh (by assumption) (by simp) ?_))
  refine d_take (i := 0) hl rfl (by kernel_rfl) (by kernel_rfl) (by kernel_rfl) (by kernel_rfl) (by kernel_rfl) rfl trivial (fun _ _ _ h => h) hM (fun w hC => r_move hl rfl) rfl ?_
  clear hl a; intro a hl
  refine d_take (i := 1) hl rfl (by kernel_rfl) (by kernel_rfl) (by kernel_rfl) (by kernel_rfl) (by kernel_rfl) rfl trivial (fun _ _ _ h => h) hM (fun w hC => r_nilCheck hl rfl) rfl ?_
  clear hl a; intro a hl
  refine d_take (i := 2) hl rfl (by kernel_rfl) (by kernel_rfl) (by kernel_rfl) (by kernel_rfl) (by kernel_rfl) rfl trivial (fun _ _ _ h => h) hM (fun w hC => r_field hl rfl fld56_1) rfl ?_
  clear hl a; intro a hl
  refine d_take (i := 3) hl rfl (by kernel_rfl) (by kernel_rfl) (by kernel_rfl) (by kernel_rfl) (by kernel_rfl) rfl trivial (fun _ _ _ h => h) hM (fun w hC => r_loadC hl rfl one27 hC (by repeat (first | exact find_head | apply find_tail)) (by first | rfl)) rfl ?_
  clear hl a; intro a hl
  refine d_take (i := 4) hl rfl (by kernel_rfl) (by kernel_rfl) (by kernel_rfl) (by kernel_rfl) (by kernel_rfl) rfl trivial (fun _ _ _ h => h) hM (fun w hC => r_move hl rfl) rfl ?_
  clear hl a; intro a hl
  refine d_take (i := 5) hl rfl (by kernel_rfl) (by kernel_rfl) (by kernel_rfl) (by kernel_rfl) (by kernel_rfl) rfl trivial (fun _ _ _ h => h) hM (fun w hC => r_nilCheck hl rfl) rfl ?_
  clear hl a; intro a hl
  refine d_take (i := 6) hl rfl (by kernel_rfl) (by kernel_rfl) (by kernel_rfl) (by kernel_rfl) (by kernel_rfl) rfl trivial (fun _ _ _ h => h) hM (fun w hC => r_field hl rfl fld56_2) rfl ?_
  clear hl a; intro a hl
  refine d_take (i := 7) hl rfl (by kernel_rfl) (by kernel_rfl) (by kernel_rfl) (by kernel_rfl) (by kernel_rfl) rfl trivial (fun _ _ _ h => h) hM (fun w hC => r_loadC hl rfl one51 hC (by repeat (first | exact find_head | apply find_tail)) (by first | rfl)) rfl ?_
  clear hl a; intro a hl
  refine d_take (i := 8) hl rfl (by kernel_rfl) (by kernel_rfl) (by kernel_rfl) (by kernel_rfl) (by kernel_rfl) rfl trivial (fun _ _ _ h => h) hM (fun w hC => r_move hl rfl) rfl ?_
  clear hl a; intro a hl
  refine d_take (i := 9) hl rfl (by kernel_rfl) (by kernel_rfl) (by kernel_rfl) (by kernel_rfl) (by kernel_rfl) rfl trivial (fun _ _ _ h => h) hM (fun w hC => r_lookup (keyInt Try.underlying34) Try.underlying51 zero27 hl rfl rfl (hC _ _ (Find.mem (by repeat (first | exact find_head | apply find_tail))))) rfl ?_
  clear hl a; intro a hl
  rw [hw] at hl
  first | refine d_takeL (i := 10) hl rfl (by kernel_rfl) (by kernel_rfl) (by kernel_rfl) (by kernel_rfl) (by kernel_rfl) rfl trivial (fun _ _ _ h => h) (fun w => r_add hl rfl rfl (by simp only [Fits]; omega)) rfl ?_ | refine d_takeL (i := 10) hl rfl (by kernel_rfl) (by kernel_rfl) (by kernel_rfl) (by kernel_rfl) (by kernel_rfl) rfl trivial (fun _ _ _ h => h) (fun w => r_addW hl rfl rfl) rfl ?_
  clear hl a; intro a hl
  refine d_takeL (i := 11) hl rfl (by kernel_rfl) (by kernel_rfl) (by kernel_rfl) (by kernel_rfl) (by kernel_rfl) rfl trivial (fun _ _ _ h => h) (fun w => r_assign hl rfl) rfl ?_
  clear hl a; intro a hl
  refine d_done (by kernel_rfl) ?_
  try clear hM
  have hl2 := hl.add (t := 4) (hl.nil) rfl; clear hl; have hl := hl2; clear hl2
  refine then_normal ?_
  refine wp_ret ?_
  refine f_ret1 (F' := [(mb, C [.map (some wb), .int .u64 bt, .map (some rb), .map (some zb), .map (some fb), .map (some qb), .int .u32 fr, .int .i64 sp] 56), (wb, MO (kInt .u32) W), (rb, MO (kInt .u32) R), (zb, MO (kInt .u64) Z), (fb, MO (kInt .u64) Fd), (qb, MO (kInt .i64) Q)]) hl hh rfl rfl (by repeat (first | exact keeps_nil | apply keeps_cons (by repeat (first | exact find_head | apply find_tail)) (by first  | rfl) | exact keeps_self | apply keeps_mv)) ?_
  exact ⟨rfl, rfl⟩

set_option maxHeartbeats 4000000 in
theorem censusM_spec (mb wb rb zb fb qb : Nat) (W R Z Fd Q : List (Int × Value)) (bt fr sp : Int) (zt qt : Nat → Int) (tl tf : Int) (hfr : 0 ≤ fr ∧ fr ≤ 4096) (hz0 : ∀ j, 0 ≤ zt j) (hq0 : ∀ j, 0 ≤ qt j) (hZ : ∀ (j : Nat) (p : Int × Value), Z[j]? = some p → ∃ (s : Int) (b : Bool), p.2 = .int .i64 s ∧ 0 ≤ s ∧ s ≤ 32 ∧ (mget Fd p.1).getD (.bool false) = .bool b ∧ zt j = if b then 0 else s) (hQ : ∀ (j : Nat) (p : Int × Value), Q[j]? = some p → ∃ (pp : Option Addr) (m cap : Nat), p.2 = .slice pp m cap ∧ m ≤ 1000000 ∧ (0 : Int) ≤ p.1 ∧ p.1 ≤ (32 : Int) ∧ p.1 * (m : Int) = qt j ∧ 0 ≤ p.1 * (m : Int) ∧ p.1 * (m : Int) ≤ 32000000) (htl : sumF zt (List.range Z.length) = tl) (htf : sumF qt (List.range Q.length) = tf) (hb1 : tl ≤ 100000000) (hb2 : tf ≤ 100000000) : Sp Try.prog 20 #[.pointer (some ⟨mb, 0, none⟩)] [(mb, C [.map (some wb), .int .u64 bt, .map (some rb), .map (some zb), .map (some fb), .map (some qb), .int .u32 fr, .int .i64 sp] 56), (wb, MO (kInt .u32) W), (rb, MO (kInt .u32) R), (zb, MO (kInt .u64) Z), (fb, MO (kInt .u64) Fd), (qb, MO (kInt .i64) Q)] (fun v F' => v = .agg ⟨[.int .i64 2, .int .i64 tl, .int .i64 tf, .int .i64 sp, .int .i64 (4096 - fr)]⟩ ∧ F' = [(mb, C [.map (some wb), .int .u64 bt, .map (some rb), .map (some zb), .map (some fb), .map (some qb), .int .u32 fr, .int .i64 sp] 56), (wb, MO (kInt .u32) W), (rb, MO (kInt .u32) R), (zb, MO (kInt .u64) Z), (fb, MO (kInt .u64) Fd), (qb, MO (kInt .i64) Q)]) := by
  refine f_enter (args := [.pointer (some ⟨mb, 0, none⟩)]) Try.func20 rfl Try.ntmps20 rfl ?_
  intro w0 w a hpre hl hh
  simp only [slotsFrom, Nat.reduceAdd] at hl
  refine c_seq ?_
  refine c_region ?_
  refine wl (w_alloc hl hh rfl trivial zero47 rfl ?_)
  clear hl hh a w; intro k2 a w hl hh
  refine w_nil ?_
  have hl2 := hl.add (t := 0) (hl.add (t := 2) (hl.nil) rfl) rfl; clear hl; have hl := hl2; clear hl2
  refine then_normal ?_
  refine c_seq ?_
  refine c_draw [(mb, C [.map (some wb), .int .u64 bt, .map (some rb), .map (some zb), .map (some fb), .map (some qb), .int .u32 fr, .int .i64 sp] 56)] [12] mixed hh ?_
  clear hh w; intro w hh
  have hM : Mem [(mb, C [.map (some wb), .int .u64 bt, .map (some rb), .map (some zb), .map (some fb), .map (some qb), .int .u32 fr, .int .i64 sp] 56)] w := (by repeat (first | exact Mem.nil | refine Mem.cons hh.mem (by repeat (first | exact find_head | apply find_tail)) ?_ | refine Mem.consR hh (by assumption) (by simp) ?_))
  refine d_take (i := 0) hl rfl (by kernel_rfl) (by kernel_rfl) (by kernel_rfl) (by kernel_rfl) (by kernel_rfl) rfl trivial (fun _ _ _ h => h) hM (fun w hC => r_move hl rfl) rfl ?_
  clear hl a; intro a hl
  refine d_take (i := 1) hl rfl (by kernel_rfl) (by kernel_rfl) (by kernel_rfl) (by kernel_rfl) (by kernel_rfl) rfl trivial (fun _ _ _ h => h) hM (fun w hC => r_nilCheck hl rfl) rfl ?_
  clear hl a; intro a hl
  refine d_take (i := 2) hl rfl (by kernel_rfl) (by kernel_rfl) (by kernel_rfl) (by kernel_rfl) (by kernel_rfl) rfl trivial (fun _ _ _ h => h) hM (fun w hC => r_field hl rfl fld56_7) rfl ?_
  clear hl a; intro a hl
  refine d_take (i := 3) hl rfl (by kernel_rfl) (by kernel_rfl) (by kernel_rfl) (by kernel_rfl) (by kernel_rfl) rfl trivial (fun _ _ _ h => h) hM (fun w hC => r_loadC hl rfl one3 hC (by repeat (first | exact find_head | apply find_tail)) (by first | rfl)) rfl ?_
  clear hl a; intro a hl
  refine d_take (i := 4) hl rfl (by kernel_rfl) (by kernel_rfl) (by kernel_rfl) (by kernel_rfl) (by kernel_rfl) rfl trivial (fun _ _ _ h => h) hM (fun w hC => r_move hl rfl) rfl ?_
  clear hl a; intro a hl
  refine d_take (i := 5) hl rfl (by kernel_rfl) (by kernel_rfl) (by kernel_rfl) (by kernel_rfl) (by kernel_rfl) rfl trivial (fun _ _ _ h => h) hM (fun w hC => r_nilCheck hl rfl) rfl ?_
  clear hl a; intro a hl
  refine d_take (i := 6) hl rfl (by kernel_rfl) (by kernel_rfl) (by kernel_rfl) (by kernel_rfl) (by kernel_rfl) rfl trivial (fun _ _ _ h => h) hM (fun w hC => r_field hl rfl fld56_6) rfl ?_
  clear hl a; intro a hl
  refine d_take (i := 7) hl rfl (by kernel_rfl) (by kernel_rfl) (by kernel_rfl) (by kernel_rfl) (by kernel_rfl) rfl trivial (fun _ _ _ h => h) hM (fun w hC => r_loadC hl rfl one34 hC (by repeat (first | exact find_head | apply find_tail)) (by first | rfl)) rfl ?_
  clear hl a; intro a hl
  first | refine d_take (i := 8) hl rfl (by kernel_rfl) (by kernel_rfl) (by kernel_rfl) (by kernel_rfl) (by kernel_rfl) rfl trivial (fun _ _ _ h => h) hM (fun w hC => r_conv hl rfl Try.underlying34 Try.underlying3 (by simp only [Fits]; omega)) rfl ?_ | refine d_take (i := 8) hl rfl (by kernel_rfl) (by kernel_rfl) (by kernel_rfl) (by kernel_rfl) (by kernel_rfl) rfl trivial (fun _ _ _ h => h) hM (fun w hC => r_convW hl rfl Try.underlying34 Try.underlying3) rfl ?_
  clear hl a; intro a hl
  first | refine d_take (i := 9) hl rfl (by kernel_rfl) (by kernel_rfl) (by kernel_rfl) (by kernel_rfl) (by kernel_rfl) rfl trivial (fun _ _ _ h => h) hM (fun w hC => r_sub hl rfl rfl (by simp only [Fits]; omega)) rfl ?_ | refine d_take (i := 9) hl rfl (by kernel_rfl) (by kernel_rfl) (by kernel_rfl) (by kernel_rfl) (by kernel_rfl) rfl trivial (fun _ _ _ h => h) hM (fun w hC => r_subW hl rfl rfl) rfl ?_
  clear hl a; intro a hl
  refine d_take (i := 10) hl rfl (by kernel_rfl) (by kernel_rfl) (by kernel_rfl) (by kernel_rfl) (by kernel_rfl) rfl trivial (fun _ _ _ h => h) hM (fun w hC => r_build hl rfl zero47 bld47 (by simp only [fillL, setL, List.getElem?_cons_zero, List.getElem?_cons_succ, Value.cells, List.take_zero, List.take_succ_cons, List.take_nil, List.drop_zero, List.drop_succ_cons, List.drop_nil, List.length_cons, List.length_nil, List.cons_append, List.nil_append, List.append_nil, Nat.zero_add, Nat.add_zero, Nat.reduceAdd, Nat.reduceBEq, Nat.reduceEqDiff, Nat.ble, BEq.rfl, Bool.and_true, Bool.and_self, cond_true, beq_self_eq_true]; rfl)) rfl ?_
  clear hl a; intro a hl
  refine d_one (i := 11) (by kernel_rfl) rfl ?_
  try clear hM
  refine id (w_alloc hl hh rfl trivial zero47 rfl ?_)
  clear hl hh a w; intro k3 a w hl hh
  have hM : Mem [(mb, C [.map (some wb), .int .u64 bt, .map (some rb), .map (some zb), .map (some fb), .map (some qb), .int .u32 fr, .int .i64 sp] 56)] w := (by repeat (first | exact Mem.nil | refine Mem.cons hh.mem (by repeat (first | exact find_head | apply find_tail)) ?_ | refine Mem.consR hh (by assumption) (by simp) ?_))
  refine d_step (fun _ => hM) ?_
  refine d_one (i := 12) (by kernel_rfl) rfl ?_
  try clear hM
  refine id (w_storeA hl hh trivial agg47 rfl rfl (by repeat (first | exact find_head | apply find_tail)) (by first | rfl | (simp; done)) (by first | (simp; done) | (simp; omega)) (by first | rfl | (simp; done)) (by first | (simp only [setL, List.getElem?_cons_zero, List.getElem?_cons_succ, Value.cells, List.take_zero, List.take_succ_cons, List.take_nil, List.drop_zero, List.drop_succ_cons, List.drop_nil, List.length_cons, List.length_nil, List.cons_append, List.nil_append, List.append_nil, Nat.zero_add, Nat.add_zero, Nat.reduceAdd, Nat.reduceBEq, Nat.reduceEqDiff, Nat.ble, BEq.rfl, Bool.and_true, Bool.and_self, cond_true, beq_self_eq_true]; rfl)) ?_)
  clear hh w; intro w hh
  refine d_step (fun h => absurd h (by decide)) ?_
  refine d_done (by kernel_rfl) ?_
  try clear hM
  have hl2 := hl.add (t := 0) (hl.add (t := 2) (hl.add (t := 3) (hl.nil) rfl) rfl) rfl; clear hl; have hl := hl2; clear hl2
  refine then_normal ?_
  refine c_seq ?_
  refine c_seq ?_
  refine c_region ?_
  refine wl (wl_val hl rfl trivial (r_move hl rfl) ?_)
  clear hl a; intro a hl
  refine wl (wl_val hl rfl trivial (r_nilCheck hl rfl) ?_)
  clear hl a; intro a hl
  refine wl (wl_val hl rfl trivial (r_field hl rfl fld56_3) ?_)
  clear hl a; intro a hl
  refine wl (w_load hl hh rfl trivial one52 rfl (by repeat (first | exact find_head | apply find_tail)) (by first | rfl) ?_)
  clear hl a; intro a hl
  refine wl (w_range Try.underlying52 hl hh rfl trivial rfl (by repeat (first | exact find_head | apply find_tail)) ?_)
  clear hl hh a w; intro k23 a w hl hh
  refine w_nil ?_
  have hl2 := hl.add (t := 0) (hl.add (t := 2) (hl.add (t := 3) (hl.add (t := 23) (hl.nil) rfl) rfl) rfl) rfl; clear hl; have hl := hl2; clear hl2
  refine then_normal ?_
  refine wp_block ?_
  obtain ⟨KS0, hKS0, hk⟩ := (hl.add (t := 0) (hl.add (t := 2) (hl.add (t := 3) (hl.add (t := 23) (hl.nil) rfl) rfl) rfl) rfl).name
  obtain ⟨HS0, hHS0, hh2⟩ := hh.name (keeps_cons (b := k3) (o' := C [.int .i64 2, .int .i64 (sumF zt []), .int .i64 (0), .int .i64 sp, .int .i64 (4096 - fr)] 47) (by repeat (first | exact find_head | apply find_tail)) (by first | rfl) (keeps_cons (b := k23) (o' := IT zb Z.length []) (by repeat (first | exact find_head | apply find_tail)) (by first | rfl) (keeps_nil)))
  refine c_loop (α := List Nat) (fun seen => Z.length - seen.length) (fun seen a w => (SeenOk Z.length seen) ∧ Sl 60 ([] ++ KS0) a ∧ Has _ w0 ([(k3, C [.int .i64 2, .int .i64 (sumF zt seen), .int .i64 (0), .int .i64 sp, .int .i64 (4096 - fr)] 47), (k23, IT zb Z.length seen)] ++ HS0) w) [] ⟨SeenOk.start _, hk, hh2⟩ ?_
  clear hk hh2 hl hh a w
  intro seen a w hI
  obtain ⟨hS, hl, hh⟩ := hI
  subst hKS0; subst hHS0
  simp only [List.cons_append, List.nil_append, List.append_nil] at hl hh
  refine c_seq ?_
  refine c_region ?_
  refine wl (w_next hl hh rfl trivial rfl (by repeat (first | exact find_head | apply find_tail)) (by repeat (first | exact find_head | apply find_tail)) ?_ ?_)
  ·
    intro hall; clear hl a; intro a hl
    have hsm := hS.all zt hz0 hall
    rw [htl] at hsm
    rw [hsm] at hh
    refine wl (wl_val hl rfl trivial (r_extract hl rfl (by simp only [List.getElem?_toArray, List.getElem?_cons_zero, List.getElem?_cons_succ]; rfl)) ?_)
    clear hl a; intro a hl
    refine w_nil ?_
    have hl2 := hl.add (t := 0) (hl.add (t := 2) (hl.add (t := 3) (hl.add (t := 23) (hl.add (t := 25) (hl.nil) rfl) rfl) rfl) rfl) rfl; clear hl; have hl := hl2; clear hl2
    refine then_normal ?_
    refine c_seq ?_
    refine c_condF hl rfl ?_
    refine wp_exit ?_
    refine then_exit ?_
    refine then_exit ?_
    refine blk_exit ?_
    refine then_normal ?_
    refine c_seq ?_
    refine c_seq ?_
    refine c_region ?_
    refine wl (wl_val hl rfl trivial (r_move hl rfl) ?_)
    clear hl a; intro a hl
    refine wl (wl_val hl rfl trivial (r_nilCheck hl rfl) ?_)
    clear hl a; intro a hl
    refine wl (wl_val hl rfl trivial (r_field hl rfl fld56_5) ?_)
    clear hl a; intro a hl
    refine wl (w_load hl hh rfl trivial one54 rfl (by repeat (first | exact find_head | apply find_tail)) (by first | rfl) ?_)
    clear hl a; intro a hl
    refine wl (w_range Try.underlying54 hl hh rfl trivial rfl (by repeat (first | exact find_head | apply find_tail)) ?_)
    clear hl hh a w; intro k45 a w hl hh
    refine w_nil ?_
    have hl2 := hl.add (t := 2) (hl.add (t := 3) (hl.add (t := 45) (hl.nil) rfl) rfl) rfl; clear hl; have hl := hl2; clear hl2
    refine then_normal ?_
    refine wp_block ?_
    obtain ⟨KS1, hKS1, hk⟩ := (hl.add (t := 2) (hl.add (t := 3) (hl.add (t := 45) (hl.nil) rfl) rfl) rfl).name
    obtain ⟨HS1, hHS1, hh2⟩ := hh.name (keeps_cons (b := k3) (o' := C [.int .i64 2, .int .i64 (tl), .int .i64 (sumF qt []), .int .i64 sp, .int .i64 (4096 - fr)] 47) (by repeat (first | exact find_head | apply find_tail)) (by first | rfl) (keeps_cons (b := k45) (o' := IT qb Q.length []) (by repeat (first | exact find_head | apply find_tail)) (by first | rfl) (keeps_nil)))
    refine c_loop (α := List Nat) (fun seen => Q.length - seen.length) (fun seen a w => (SeenOk Q.length seen) ∧ Sl 60 ([] ++ KS1) a ∧ Has _ w0 ([(k3, C [.int .i64 2, .int .i64 (tl), .int .i64 (sumF qt seen), .int .i64 sp, .int .i64 (4096 - fr)] 47), (k45, IT qb Q.length seen)] ++ HS1) w) [] ⟨SeenOk.start _, hk, hh2⟩ ?_
    clear hk hh2 hl hh a w
    intro seen a w hI
    obtain ⟨hS, hl, hh⟩ := hI
    subst hKS1; subst hHS1
    simp only [List.cons_append, List.nil_append, List.append_nil] at hl hh
    refine c_seq ?_
    refine c_region ?_
    refine wl (w_next hl hh rfl trivial rfl (by repeat (first | exact find_head | apply find_tail)) (by repeat (first | exact find_head | apply find_tail)) ?_ ?_)
    ·
      intro hall; clear hl a; intro a hl
      have hsm := hS.all qt hq0 hall
      rw [htf] at hsm
      rw [hsm] at hh
      refine wl (wl_val hl rfl trivial (r_extract hl rfl (by simp only [List.getElem?_toArray, List.getElem?_cons_zero, List.getElem?_cons_succ]; rfl)) ?_)
      clear hl a; intro a hl
      refine w_nil ?_
      have hl2 := hl.add (t := 2) (hl.add (t := 3) (hl.add (t := 45) (hl.add (t := 47) (hl.nil) rfl) rfl) rfl) rfl; clear hl; have hl := hl2; clear hl2
      refine then_normal ?_
      refine c_seq ?_
      refine c_condF hl rfl ?_
      refine wp_exit ?_
      refine then_exit ?_
      refine then_exit ?_
      refine blk_exit ?_
      refine then_normal ?_
      refine c_seq ?_
      refine c_region ?_
      refine wl (w_loadA hl hh rfl trivial agg47 rfl (by repeat (first | exact find_head | apply find_tail)) (by first | (simp only [List.getElem?_cons_zero, List.getElem?_cons_succ, Value.cells, List.take_zero, List.take_succ_cons, List.take_nil, List.drop_zero, List.drop_succ_cons, List.drop_nil, List.length_cons, List.length_nil, List.cons_append, List.nil_append, List.append_nil, Nat.zero_add, Nat.add_zero, Nat.reduceAdd, Nat.reduceBEq, Nat.reduceEqDiff, Nat.ble, BEq.rfl, Bool.and_true, Bool.and_self, cond_true, beq_self_eq_true]; rfl)) (by first | rfl | (simp; done)) ?_)
      clear hl a; intro a hl
      refine wl (w_storeA hl hh trivial agg47 rfl rfl (by repeat (first | exact find_head | apply find_tail)) (by first | rfl | (simp; done)) (by first | (simp; done) | (simp; omega)) (by first | rfl | (simp; done)) (by first | (simp only [setL, List.getElem?_cons_zero, List.getElem?_cons_succ, Value.cells, List.take_zero, List.take_succ_cons, List.take_nil, List.drop_zero, List.drop_succ_cons, List.drop_nil, List.length_cons, List.length_nil, List.cons_append, List.nil_append, List.append_nil, Nat.zero_add, Nat.add_zero, Nat.reduceAdd, Nat.reduceBEq, Nat.reduceEqDiff, Nat.ble, BEq.rfl, Bool.and_true, Bool.and_self, cond_true, beq_self_eq_true]; rfl)) ?_)
      clear hh w; intro w hh
      refine w_nil ?_
      have hl2 := hl.add (t := 2) (hl.nil) rfl; clear hl; have hl := hl2; clear hl2
      refine then_normal ?_
      refine wp_ret ?_
      refine f_retC (F' := [(mb, C [.map (some wb), .int .u64 bt, .map (some rb), .map (some zb), .map (some fb), .map (some qb), .int .u32 fr, .int .i64 sp] 56), (wb, MO (kInt .u32) W), (rb, MO (kInt .u32) R), (zb, MO (kInt .u64) Z), (fb, MO (kInt .u64) Fd), (qb, MO (kInt .i64) Q)]) hl hh rfl rfl agg47 (by repeat (first | exact find_head | apply find_tail)) (by first | rfl | (simp; done)) (by repeat (first | exact keeps_nil | apply keeps_cons (by repeat (first | exact find_head | apply find_tail)) (by first  | rfl) | exact keeps_self | apply keeps_mv)) ?_
      exact ⟨rfl, rfl⟩
    ·
      intro j46 p46 hjn46 hn46; clear hl hh a w; intro a w hl hh
      obtain ⟨pp9, m9, cap9, hp2, hm9, hk0, hk1, hqt, hk2, hk3⟩ := hQ _ _ hjn46
      obtain ⟨r9, v9⟩ := p46
      simp only at hp2 hk0 hk1 hqt hk2 hk3
      subst hp2
      have hjl := (List.getElem?_eq_some_iff.1 hjn46).1
      have hS2 := hS.next hjl hn46
      have hsn := sumF_snoc qt j46 seen
      have hbd := (hS2.sum qt hq0)
      have hbd1 := (hS.sum qt hq0)
      rw [htf] at hbd hbd1
      refine wl (wl_val hl rfl trivial (r_extract hl rfl (by simp only [List.getElem?_toArray, List.getElem?_cons_zero, List.getElem?_cons_succ]; rfl)) ?_)
      clear hl a; intro a hl
      refine w_nil ?_
      have hl2 := hl.add (t := 2) (hl.add (t := 3) (hl.add (t := 45) (hl.add (t := 47) (hl.nil) rfl) rfl) rfl) rfl; clear hl; have hl := hl2; clear hl2
      refine then_normal ?_
      refine c_seq ?_
      refine c_condT hl rfl ?_
      refine wp_skip ?_
      refine then_normal ?_
      refine wp_block ?_
      refine c_seq ?_
      refine c_region ?_
      refine wl (w_entry hjn46 hl hh rfl trivial rfl (by repeat (first | exact find_head | apply find_tail)) (by repeat (first | exact find_head | apply find_tail)) ?_)
      clear hl a; intro a hl
      refine wl (wl_val hl rfl trivial (r_extract hl rfl (by simp only [List.getElem?_toArray, List.getElem?_cons_zero, List.getElem?_cons_succ]; rfl)) ?_)
      clear hl a; intro a hl
      refine wl (wl_val hl rfl trivial (r_extract hl rfl (by simp only [List.getElem?_toArray, List.getElem?_cons_zero, List.getElem?_cons_succ]; rfl)) ?_)
      clear hl a; intro a hl
      refine wl (wl_val hl rfl trivial (r_assign hl rfl) ?_)
      clear hl a; intro a hl
      refine wl (wl_val hl rfl trivial (r_assign hl rfl) ?_)
      clear hl a; intro a hl
      refine w_nil ?_
      have hl2 := hl.add (t := 2) (hl.add (t := 3) (hl.add (t := 6) (hl.add (t := 7) (hl.add (t := 45) (hl.nil) rfl) rfl) rfl) rfl) rfl; clear hl; have hl := hl2; clear hl2
      refine then_normal ?_
      refine c_region ?_
      refine wl (wl_val hl rfl trivial (r_field hl rfl fld47_2) ?_)
      clear hl a; intro a hl
      refine wl (w_load hl hh rfl trivial one3 rfl (by repeat (first | exact find_head | apply find_tail)) (by first | rfl) ?_)
      clear hl a; intro a hl
      refine wl (wl_val hl rfl trivial (r_move hl rfl) ?_)
      clear hl a; intro a hl
      refine wl (wl_val hl rfl trivial (r_move hl rfl) ?_)
      clear hl a; intro a hl
      refine wl (wl_val hl rfl trivial (r_lenS hl rfl slc78) ?_)
      clear hl a; intro a hl
      first | refine wl (wl_val hl rfl trivial (r_mul hl rfl rfl (by simp only [Fits]; omega)) ?_) | refine wl (wl_val hl rfl trivial (r_mulW hl rfl rfl) ?_)
      clear hl a; intro a hl
      first | refine wl (wl_val hl rfl trivial (r_add hl rfl rfl (by simp only [Fits]; omega)) ?_) | refine wl (wl_val hl rfl trivial (r_addW hl rfl rfl) ?_)
      clear hl a; intro a hl
      refine wl (wl_val hl rfl trivial (r_field hl rfl fld47_2) ?_)
      clear hl a; intro a hl
      refine wl (w_store hl hh trivial one3 rfl rfl (by repeat (first | exact find_head | apply find_tail)) (by first | (simp; done) | (simp; omega)) (by first | rfl | assumption | (apply Row.one; assumption)) (by first | (simp only [setL, List.getElem?_cons_zero, List.getElem?_cons_succ, Value.cells, List.take_zero, List.take_succ_cons, List.take_nil, List.drop_zero, List.drop_succ_cons, List.drop_nil, List.length_cons, List.length_nil, List.cons_append, List.nil_append, List.append_nil, Nat.zero_add, Nat.add_zero, Nat.reduceAdd, Nat.reduceBEq, Nat.reduceEqDiff, Nat.ble, BEq.rfl, Bool.and_true, Bool.and_self, cond_true, beq_self_eq_true]; rfl)) ?_)
      clear hh w; intro w hh
      refine w_nil ?_
      have hl2 := hl.add (t := 2) (hl.add (t := 3) (hl.add (t := 45) (hl.nil) rfl) rfl) rfl; clear hl; have hl := hl2; clear hl2
      refine blk_normal ?_
      refine then_normal ?_
      refine ⟨seen ++ [j46], (by have := hS2.len; rw [List.length_append] at this ⊢; simp only [List.length_cons, List.length_nil] at this ⊢; omega), hS2, hl.addE (t := 2) (hl.addE (t := 3) (hl.addE (t := 45) (hl.nil) rfl (by first | rfl | (congr 1; omega))) rfl (by first | rfl | (congr 1; omega))) rfl (by first | rfl | (congr 1; omega)), hh.keep (by repeat (first | exact keeps_nil | apply keeps_cons (by repeat (first | exact find_head | apply find_tail)) (by first  | exact congrArg (fun q => C [.int .i64 2, .int .i64 (tl), .int .i64 (q), .int .i64 sp, .int .i64 (4096 - fr)] 47) (by rw [hsn, ← hqt]) | rfl) | exact keeps_self | apply keeps_mv))⟩
  ·
    intro j24 p24 hjn24 hn24; clear hl hh a w; intro a w hl hh
    obtain ⟨s9, b9, hp2, hs0, hs1, hb9, hzt⟩ := hZ _ _ hjn24
    obtain ⟨r9, v9⟩ := p24
    simp only at hp2 hb9
    subst hp2
    have hjl := (List.getElem?_eq_some_iff.1 hjn24).1
    have hS2 := hS.next hjl hn24
    have hsn := sumF_snoc zt j24 seen
    have hbd := (hS2.sum zt hz0)
    have hbd1 := (hS.sum zt hz0)
    rw [htl] at hbd hbd1
    refine wl (wl_val hl rfl trivial (r_extract hl rfl (by simp only [List.getElem?_toArray, List.getElem?_cons_zero, List.getElem?_cons_succ]; rfl)) ?_)
    clear hl a; intro a hl
    refine w_nil ?_
    have hl2 := hl.add (t := 0) (hl.add (t := 2) (hl.add (t := 3) (hl.add (t := 23) (hl.add (t := 25) (hl.nil) rfl) rfl) rfl) rfl) rfl; clear hl; have hl := hl2; clear hl2
    refine then_normal ?_
    refine c_seq ?_
    refine c_condT hl rfl ?_
    refine wp_skip ?_
    refine then_normal ?_
    refine wp_block ?_
    refine c_seq ?_
    refine c_region ?_
    refine wl (w_entry hjn24 hl hh rfl trivial rfl (by repeat (first | exact find_head | apply find_tail)) (by repeat (first | exact find_head | apply find_tail)) ?_)
    clear hl a; intro a hl
    refine wl (wl_val hl rfl trivial (r_extract hl rfl (by simp only [List.getElem?_toArray, List.getElem?_cons_zero, List.getElem?_cons_succ]; rfl)) ?_)
    clear hl a; intro a hl
    refine wl (wl_val hl rfl trivial (r_extract hl rfl (by simp only [List.getElem?_toArray, List.getElem?_cons_zero, List.getElem?_cons_succ]; rfl)) ?_)
    clear hl a; intro a hl
    refine wl (wl_val hl rfl trivial (r_assign hl rfl) ?_)
    clear hl a; intro a hl
    refine wl (wl_val hl rfl trivial (r_assign hl rfl) ?_)
    clear hl a; intro a hl
    refine w_nil ?_
    have hl2 := hl.add (t := 0) (hl.add (t := 2) (hl.add (t := 3) (hl.add (t := 4) (hl.add (t := 5) (hl.add (t := 23) (hl.nil) rfl) rfl) rfl) rfl) rfl) rfl; clear hl; have hl := hl2; clear hl2
    refine then_normal ?_
    refine c_seq ?_
    refine c_region ?_
    refine wl (wl_val hl rfl trivial (r_move hl rfl) ?_)
    clear hl a; intro a hl
    refine wl (wl_val hl rfl trivial (r_nilCheck hl rfl) ?_)
    clear hl a; intro a hl
    refine wl (wl_val hl rfl trivial (r_field hl rfl fld56_4) ?_)
    clear hl a; intro a hl
    refine wl (w_load hl hh rfl trivial one53 rfl (by repeat (first | exact find_head | apply find_tail)) (by first | rfl) ?_)
    clear hl a; intro a hl
    refine wl (wl_val hl rfl trivial (r_move hl rfl) ?_)
    clear hl a; intro a hl
    refine wl (w_lookup (keyInt Try.underlying63) Try.underlying53 zero4 hl hh rfl trivial rfl rfl (by repeat (first | exact find_head | apply find_tail)) ?_)
    clear hl a; intro a hl
    first | rw [hb9] at hl | (rw [show p24.1 = r9 from rfl] at hl; rw [hb9] at hl)
    refine wl (wl_val hl rfl trivial (r_not hl rfl) ?_)
    clear hl a; intro a hl
    refine w_nil ?_
    have hl2 := hl.add (t := 0) (hl.add (t := 2) (hl.add (t := 3) (hl.add (t := 5) (hl.add (t := 23) (hl.add (t := 35) (hl.nil) rfl) rfl) rfl) rfl) rfl) rfl; clear hl; have hl := hl2; clear hl2
    refine then_normal ?_
    refine c_cond hl rfl ?_ ?_
    · intro hc1
      try simp only [decide_eq_true_eq, decide_eq_false_iff_not, Bool.not_eq_true', Bool.not_eq_false', Bool.not_eq_true, Bool.not_eq_false, Bool.and_eq_true, Bool.or_eq_true, Bool.and_eq_false_iff, Bool.or_eq_false_iff, Bool.not_not, ne_eq, Int.not_lt, Int.not_le, Decidable.not_not, beq_iff_eq, bne_iff_ne] at hc1
      refine c_region ?_
      refine wl (wl_val hl rfl trivial (r_field hl rfl fld47_1) ?_)
      clear hl a; intro a hl
      refine wl (w_load hl hh rfl trivial one3 rfl (by repeat (first | exact find_head | apply find_tail)) (by first | rfl) ?_)
      clear hl a; intro a hl
      refine wl (wl_val hl rfl trivial (r_move hl rfl) ?_)
      clear hl a; intro a hl
      first | refine wl (wl_val hl rfl trivial (r_add hl rfl rfl (by simp only [Fits]; omega)) ?_) | refine wl (wl_val hl rfl trivial (r_addW hl rfl rfl) ?_)
      clear hl a; intro a hl
      refine wl (wl_val hl rfl trivial (r_field hl rfl fld47_1) ?_)
      clear hl a; intro a hl
      refine wl (w_store hl hh trivial one3 rfl rfl (by repeat (first | exact find_head | apply find_tail)) (by first | (simp; done) | (simp; omega)) (by first | rfl | assumption | (apply Row.one; assumption)) (by first | (simp only [setL, List.getElem?_cons_zero, List.getElem?_cons_succ, Value.cells, List.take_zero, List.take_succ_cons, List.take_nil, List.drop_zero, List.drop_succ_cons, List.drop_nil, List.length_cons, List.length_nil, List.cons_append, List.nil_append, List.append_nil, Nat.zero_add, Nat.add_zero, Nat.reduceAdd, Nat.reduceBEq, Nat.reduceEqDiff, Nat.ble, BEq.rfl, Bool.and_true, Bool.and_self, cond_true, beq_self_eq_true]; rfl)) ?_)
      clear hh w; intro w hh
      refine w_nil ?_
      have hl2 := hl.add (t := 0) (hl.add (t := 2) (hl.add (t := 3) (hl.add (t := 23) (hl.nil) rfl) rfl) rfl) rfl; clear hl; have hl := hl2; clear hl2
      refine blk_normal ?_
      refine then_normal ?_
      refine ⟨seen ++ [j24], (by have := hS2.len; rw [List.length_append] at this ⊢; simp only [List.length_cons, List.length_nil] at this ⊢; omega), hS2, hl.addE (t := 0) (hl.addE (t := 2) (hl.addE (t := 3) (hl.addE (t := 23) (hl.nil) rfl (by first | rfl | (congr 1; omega))) rfl (by first | rfl | (congr 1; omega))) rfl (by first | rfl | (congr 1; omega))) rfl (by first | rfl | (congr 1; omega)), hh.keep (by repeat (first | exact keeps_nil | apply keeps_cons (by repeat (first | exact find_head | apply find_tail)) (by first  | exact congrArg (fun q => C [.int .i64 2, .int .i64 (q), .int .i64 (0), .int .i64 sp, .int .i64 (4096 - fr)] 47) (by rw [hsn, hzt]; simp [*]) | exact congrArg (fun q => C [.int .i64 2, .int .i64 (q), .int .i64 (0), .int .i64 sp, .int .i64 (4096 - fr)] 47) (by rw [hsn, hzt, if_neg (by simp [*])]) | rfl) | exact keeps_self | apply keeps_mv))⟩
    · intro hc1
      try simp only [decide_eq_true_eq, decide_eq_false_iff_not, Bool.not_eq_true', Bool.not_eq_false', Bool.not_eq_true, Bool.not_eq_false, Bool.and_eq_true, Bool.or_eq_true, Bool.and_eq_false_iff, Bool.or_eq_false_iff, Bool.not_not, ne_eq, Int.not_lt, Int.not_le, Decidable.not_not, beq_iff_eq, bne_iff_ne] at hc1
      refine wp_skip ?_
      refine blk_normal ?_
      refine then_normal ?_
      refine ⟨seen ++ [j24], (by have := hS2.len; rw [List.length_append] at this ⊢; simp only [List.length_cons, List.length_nil] at this ⊢; omega), hS2, hl.addE (t := 0) (hl.addE (t := 2) (hl.addE (t := 3) (hl.addE (t := 23) (hl.nil) rfl (by first | rfl | (congr 1; omega))) rfl (by first | rfl | (congr 1; omega))) rfl (by first | rfl | (congr 1; omega))) rfl (by first | rfl | (congr 1; omega)), hh.keep (by repeat (first | exact keeps_nil | apply keeps_cons (by repeat (first | exact find_head | apply find_tail)) (by first  | exact congrArg (fun q => C [.int .i64 2, .int .i64 (q), .int .i64 (0), .int .i64 sp, .int .i64 (4096 - fr)] 47) (by rw [hsn, hzt]; simp [*]) | exact congrArg (fun q => C [.int .i64 2, .int .i64 (q), .int .i64 (0), .int .i64 sp, .int .i64 (4096 - fr)] 47) (by rw [hsn, hzt, if_neg (by simp [*])]) | rfl) | exact keeps_self | apply keeps_mv))⟩
end Go.Proofs.Qxb6500913a

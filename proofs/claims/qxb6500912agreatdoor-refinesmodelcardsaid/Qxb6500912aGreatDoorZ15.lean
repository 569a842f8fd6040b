import Derived.Test.Qxb6500912aGreatDoorZ14
namespace Go.Proofs.Qxb6500912aGreatDoor
open Go.Eng
set_option linter.unusedVariables false
set_option linter.unusedSimpArgs false
theorem cal9 : callable Tryz.prog 9 = true := by kernel_rfl
theorem cal10 : callable Tryz.prog 10 = true := by kernel_rfl
def farM (s : CS) (sk : Bool) : Bool := (sk || decide (s.phase = 2)) && decide (262144 < s.nxt - s.una)
theorem far_1 {s : CS} {sk : Bool} (h : (sk || decide (s.phase = 2)) = true) : decide (262144 < s.nxt - s.una) = farM s sk := by unfold farM; rw [h]; rfl
theorem far_0 {s : CS} {sk : Bool} (h : (sk || decide (s.phase = 2)) = false) : false = farM s sk := by unfold farM; rw [h]; rfl
theorem far_2 {s : CS} {sk : Bool} (h : sk = true ∨ s.phase = 2) : decide (262144 < s.nxt - s.una) = farM s sk := far_1 (by rcases h with h | h <;> simp [h])
theorem far_3 {s : CS} {sk : Bool} (h : sk = false ∧ ¬ s.phase = 2) : false = farM s sk := far_0 (by simp [h.1, h.2])


set_option maxHeartbeats 1000000 in
theorem far_m (mp : Nat) (s : CS) (st : Int) (sk : Bool) (bp : Nat) (hs : Mk s) (a0 : Nat) : SpK Tryz.prog 7 #[.pointer (some ⟨a0, 0, none⟩)] (fun w => w.heap[a0]? = some (C [.pointer (some ⟨mp, 0, none⟩)] 34) ∧ w.heap[mp]? = some (C (encM (s) st sk bp) 69)) [] (fun v F' => v = .bool (farM s sk) ∧ F' = []) := by
  refine f_enter (args := [.pointer (some ⟨a0, 0, none⟩)]) Tryz.func7 rfl Tryz.ntmps7 rfl ?_
  intro w0 w a hpre hl hh
  have o1 := hs.init; have o2 := hs.maxc; have o3 := hs.bn; have o4 := hs.bd; have o5 := hs.abc; have o6 := hs.dupt; have o7 := hs.mss; have o8 := hs.cwnd; have o9 := hs.ssth; have o10 := hs.credit; have o11 := hs.una; have o12 := hs.nxt; have o13 := hs.phase; have o14 := hs.recov; have o15 := hs.high; have o16 := hs.dups; have o17 := hs.fl
  obtain ⟨h1, h2⟩ := hpre
  simp only [slotsFrom, Nat.reduceAdd] at hl
  refine c_seq ?_
  refine c_region ?_
  refine wl (wl_val hl rfl trivial (r_assign hl rfl) ?_)
  clear hl a; intro a hl
  refine w_nil ?_
  have hl2 := hl.add (t := 0) (hl.nil) rfl; clear hl; have hl := hl2; clear hl2
  refine then_normal ?_
  refine c_seq ?_
  refine c_draw [(a0, C [.pointer (some ⟨mp, 0, none⟩)] 34)] [6, 7, 8, 9, 10] mixed hh ?_
  clear hh w; intro w hh
  have hM : Mem [(a0, C [.pointer (some ⟨mp, 0, none⟩)] 34)] w := (by (repeat (first | exact Mem.nil | refine Mem.consR hh (by assumption) (by simp) ?_ | refine Mem.cons hh.mem (by (repeat (first | exact find_head | apply find_tail)); done) ?_ | fail)); done)
  refine d_take (i := 0) hl rfl (by kernel_rfl) (by kernel_rfl) (by kernel_rfl) (by kernel_rfl) (by kernel_rfl) rfl trivial (fun _ _ _ h => h) hM (fun w hC => r_loadC hl rfl one34 hC (by repeat (first | exact find_head | apply find_tail)) (by first | rfl)) rfl ?_
  clear hl a; intro a hl
  refine d_one (i := 1) (by kernel_rfl) rfl ?_
  try clear hM
  refine id (w_call hl hh rfl trivial rfl cal8 rfl (walks_m mp s st sk bp hs) (by repeat (first | exact keeps_nil | apply keeps_cons (by repeat (first | exact find_head | apply find_tail)) (by first  | rfl) | exact keeps_self | apply keeps_mv)) (heap_keep hh h2) ?_)
  clear hl hh a w; intro vc Fc a w hR hl hh
  obtain ⟨rfl, rfl⟩ := hR
  try simp only [List.cons_append, List.nil_append] at hh
  have hM : Mem [(a0, C [.pointer (some ⟨mp, 0, none⟩)] 34)] w := (by (repeat (first | exact Mem.nil | refine Mem.consR hh (by assumption) (by simp) ?_ | refine Mem.cons hh.mem (by (repeat (first | exact find_head | apply find_tail)); done) ?_ | fail)); done)
  refine d_step (fun _ => hM) ?_
  refine d_take (i := 2) hl rfl (by kernel_rfl) (by kernel_rfl) (by kernel_rfl) (by kernel_rfl) (by kernel_rfl) rfl trivial (fun _ _ _ h => h) hM (fun w hC => r_move hl rfl) rfl ?_
  clear hl a; intro a hl
  refine sl_split (t := 4) hl rfl ?_ ?_
  · intro hg1; clear hl; intro hl
    try simp only [decide_eq_true_eq, decide_eq_false_iff_not, Bool.not_eq_true', Bool.not_eq_false', Bool.not_eq_true, Bool.not_eq_false, Bool.and_eq_true, Bool.or_eq_true, Bool.and_eq_false_iff, Bool.or_eq_false_iff, Bool.not_not, ne_eq, Int.not_lt, Int.not_le, Decidable.not_not, beq_iff_eq, bne_iff_ne] at hg1
    refine d_take (i := 3) hl rfl (by kernel_rfl) (by kernel_rfl) (by kernel_rfl) (by kernel_rfl) (by kernel_rfl) rfl ⟨_, _, rfl, rfl, rfl⟩ (fun _ _ _ h => h) hM (fun w hC => r_loadC hl rfl one34 hC (by repeat (first | exact find_head | apply find_tail)) (by first | rfl)) rfl ?_
    clear hl a; intro a hl
    refine d_take (i := 5) hl rfl (by kernel_rfl) (by kernel_rfl) (by kernel_rfl) (by kernel_rfl) (by kernel_rfl) rfl ⟨_, _, rfl, rfl, rfl⟩ (fun _ _ _ h => h) hM (fun w hC => r_loadC hl rfl one34 hC (by repeat (first | exact find_head | apply find_tail)) (by first | rfl)) rfl ?_
    clear hl a; intro a hl
    refine d_one (i := 4) (by kernel_rfl) rfl ?_
    try clear hM
    refine id (w_call hl hh rfl ⟨_, _, rfl, rfl, rfl⟩ rfl cal9 rfl (nxt_m mp s st sk bp hs) (by repeat (first | exact keeps_nil | apply keeps_cons (by repeat (first | exact find_head | apply find_tail)) (by first  | rfl) | exact keeps_self | apply keeps_mv)) (heap_keep hh h2) ?_)
    clear hl hh a w; intro vc Fc a w hR hl hh
    obtain ⟨rfl, rfl⟩ := hR
    try simp only [List.cons_append, List.nil_append] at hh
    have hM : Mem [(a0, C [.pointer (some ⟨mp, 0, none⟩)] 34)] w := (by (repeat (first | exact Mem.nil | refine Mem.consR hh (by assumption) (by simp) ?_ | refine Mem.cons hh.mem (by (repeat (first | exact find_head | apply find_tail)); done) ?_ | fail)); done)
    refine d_step (fun _ => hM) ?_
    refine d_one (i := 6) (by kernel_rfl) rfl ?_
    try clear hM
    refine id (w_call hl hh rfl ⟨_, _, rfl, rfl, rfl⟩ rfl cal10 rfl (una_m mp s st sk bp hs) (by repeat (first | exact keeps_nil | apply keeps_cons (by repeat (first | exact find_head | apply find_tail)) (by first  | rfl) | exact keeps_self | apply keeps_mv)) (heap_keep hh h2) ?_)
    clear hl hh a w; intro vc Fc a w hR hl hh
    obtain ⟨rfl, rfl⟩ := hR
    try simp only [List.cons_append, List.nil_append] at hh
    refine d_step (fun h => absurd h (by decide)) ?_
    first | refine d_takeL (i := 7) hl rfl (by kernel_rfl) (by kernel_rfl) (by kernel_rfl) (by kernel_rfl) (by kernel_rfl) rfl ⟨_, _, rfl, rfl, rfl⟩ (fun _ _ _ h => h) (fun w => r_sub hl rfl rfl (by simp only [Fits]; omega)) rfl ?_ | refine d_takeL (i := 7) hl rfl (by kernel_rfl) (by kernel_rfl) (by kernel_rfl) (by kernel_rfl) (by kernel_rfl) rfl ⟨_, _, rfl, rfl, rfl⟩ (fun _ _ _ h => h) (fun w => r_subW hl rfl rfl) rfl ?_
    clear hl a; intro a hl
    refine d_takeL (i := 8) hl rfl (by kernel_rfl) (by kernel_rfl) (by kernel_rfl) (by kernel_rfl) (by kernel_rfl) rfl ⟨_, _, rfl, rfl, rfl⟩ (fun _ _ _ h => h) (fun w => r_gtr hl rfl rfl) rfl ?_
    clear hl a; intro a hl
    refine d_takeL (i := 9) hl rfl (by kernel_rfl) (by kernel_rfl) (by kernel_rfl) (by kernel_rfl) (by kernel_rfl) rfl trivial (fun _ _ _ h => h) (fun w => r_pickT hl rfl rfl) rfl ?_
    clear hl a; intro a hl
    refine d_takeL (i := 10) hl rfl (by kernel_rfl) (by kernel_rfl) (by kernel_rfl) (by kernel_rfl) (by kernel_rfl) rfl trivial (fun _ _ _ h => h) (fun w => r_assign hl rfl) rfl ?_
    clear hl a; intro a hl
    refine d_done (by kernel_rfl) ?_
    try clear hM
    have hl2 := hl.add (t := 1) (hl.nil) rfl; clear hl; have hl := hl2; clear hl2
    refine then_normal ?_
    refine wp_ret ?_
    refine f_ret1 (F' := []) hl hh rfl rfl (by repeat (first | exact keeps_nil | apply keeps_cons (by repeat (first | exact find_head | apply find_tail)) (by first  | rfl) | exact keeps_self | apply keeps_mv)) ?_
    first | exact ⟨congrArg Value.bool (far_1 (by assumption)), rfl⟩ | exact ⟨congrArg Value.bool (far_0 (by assumption)), rfl⟩ | exact ⟨congrArg Value.bool (far_2 (by assumption)), rfl⟩ | exact ⟨congrArg Value.bool (far_3 (by assumption)), rfl⟩
  · intro hg1; clear hl; intro hl
    try simp only [decide_eq_true_eq, decide_eq_false_iff_not, Bool.not_eq_true', Bool.not_eq_false', Bool.not_eq_true, Bool.not_eq_false, Bool.and_eq_true, Bool.or_eq_true, Bool.and_eq_false_iff, Bool.or_eq_false_iff, Bool.not_not, ne_eq, Int.not_lt, Int.not_le, Decidable.not_not, beq_iff_eq, bne_iff_ne] at hg1
    refine d_skip (i := 3) hl rfl (by kernel_rfl) (by kernel_rfl) (by kernel_rfl) (by kernel_rfl) (by kernel_rfl) rfl ⟨_, _, rfl, rfl, rfl⟩ (fun _ _ _ h => h) hM ?_
    clear hl a; intro a hl
    refine d_skip (i := 4) hl rfl (by kernel_rfl) (by kernel_rfl) (by kernel_rfl) (by kernel_rfl) (by kernel_rfl) rfl ⟨_, _, rfl, rfl, rfl⟩ (fun _ _ _ h => h) hM ?_
    clear hl a; intro a hl
    refine d_skip (i := 5) hl rfl (by kernel_rfl) (by kernel_rfl) (by kernel_rfl) (by kernel_rfl) (by kernel_rfl) rfl ⟨_, _, rfl, rfl, rfl⟩ (fun _ _ _ h => h) hM ?_
    clear hl a; intro a hl
    refine d_skip (i := 6) hl rfl (by kernel_rfl) (by kernel_rfl) (by kernel_rfl) (by kernel_rfl) (by kernel_rfl) rfl ⟨_, _, rfl, rfl, rfl⟩ (fun _ _ _ h => h) hM ?_
    clear hl a; intro a hl
    refine d_skip (i := 7) hl rfl (by kernel_rfl) (by kernel_rfl) (by kernel_rfl) (by kernel_rfl) (by kernel_rfl) rfl ⟨_, _, rfl, rfl, rfl⟩ (fun _ _ _ h => h) hM ?_
    clear hl a; intro a hl
    refine d_skip (i := 8) hl rfl (by kernel_rfl) (by kernel_rfl) (by kernel_rfl) (by kernel_rfl) (by kernel_rfl) rfl ⟨_, _, rfl, rfl, rfl⟩ (fun _ _ _ h => h) hM ?_
    clear hl a; intro a hl
    refine d_takeL (i := 9) hl rfl (by kernel_rfl) (by kernel_rfl) (by kernel_rfl) (by kernel_rfl) (by kernel_rfl) rfl trivial (fun _ _ _ h => h) (fun w => r_pickF hl rfl rfl) rfl ?_
    clear hl a; intro a hl
    refine d_takeL (i := 10) hl rfl (by kernel_rfl) (by kernel_rfl) (by kernel_rfl) (by kernel_rfl) (by kernel_rfl) rfl trivial (fun _ _ _ h => h) (fun w => r_assign hl rfl) rfl ?_
    clear hl a; intro a hl
    refine d_done (by kernel_rfl) ?_
    try clear hM
    have hl2 := hl.add (t := 1) (hl.nil) rfl; clear hl; have hl := hl2; clear hl2
    refine then_normal ?_
    refine wp_ret ?_
    refine f_ret1 (F' := []) hl hh rfl rfl (by repeat (first | exact keeps_nil | apply keeps_cons (by repeat (first | exact find_head | apply find_tail)) (by first  | rfl) | exact keeps_self | apply keeps_mv)) ?_
    first | exact ⟨congrArg Value.bool (far_1 (by assumption)), rfl⟩ | exact ⟨congrArg Value.bool (far_0 (by assumption)), rfl⟩ | exact ⟨congrArg Value.bool (far_2 (by assumption)), rfl⟩ | exact ⟨congrArg Value.bool (far_3 (by assumption)), rfl⟩
end Go.Proofs.Qxb6500912aGreatDoor

import Derived.Test.Qxb6500914aC0
namespace Go.Proofs.Qxb6500914a
open Go.Eng
set_option linter.unusedVariables false
set_option linter.unusedSimpArgs false
theorem agg38 : aggOk Try.prog 38 18 = true := by kernel_rfl
theorem cal45 : callable Try.prog 45 = true := by kernel_rfl
theorem meth129_Clone : methOk Try.prog 129 "Clone" 89 = true := by kernel_rfl
theorem cal89 : callable Try.prog 89 = true := by kernel_rfl
attribute [local irreducible] encM encP

def KC (b2 : Nat) (lv2 : Value) (W : WS) (q2 : Nat → Nat) (i : Nat) : KS := ⟨.pointer (some ⟨b2, 0, none⟩), fun s => if s < i then rV q2 W.run s else .nilIface, W.ck, W.cv, W.cp, lv2, W.steps⟩
theorem KC_zero (b2 : Nat) (lv2 : Value) (W : WS) (q2 : Nat → Nat) : (⟨.pointer (some ⟨b2, 0, none⟩), fun _ => .nilIface, W.ck, W.cv, W.cp, lv2, W.steps⟩ : KS) = KC b2 lv2 W q2 0 := by
  unfold KC
  congr 1
theorem KC_idle {b2 : Nat} {lv2 : Value} {W : WS} {q2 : Nat → Nat} {i : Nat} (h : W.run i = none) : KC b2 lv2 W q2 i = KC b2 lv2 W q2 (i + 1) := by
  unfold KC
  congr 1
  funext s
  by_cases e : s = i
  · subst e; rw [if_neg (by omega), if_pos (by omega)]; unfold rV; rw [h]
  · by_cases e2 : s < i
    · rw [if_pos e2, if_pos (by omega)]
    · rw [if_neg e2, if_neg (by omega)]
theorem KC_busy {b2 : Nat} {lv2 : Value} {W : WS} {q2 : Nat → Nat} {i k : Nat} {x : Bool × PG} (h : W.run i = some x) : ({ KC b2 lv2 W q2 i with run := updF (KC b2 lv2 W q2 i).run i (.iface 129 (.pointer (some ⟨k, 0, none⟩))) } : KS) = KC b2 lv2 W (updF q2 i k) (i + 1) := by
  unfold KC
  dsimp only
  congr 1
  funext s
  unfold updF rV
  by_cases e : s = i
  · subst e; dsimp only; rw [if_pos rfl, if_pos (by omega), h]; dsimp only; rw [if_pos rfl]
  · dsimp only
    rw [if_neg e]
    by_cases e2 : s < i
    · rw [if_pos e2, if_pos (by omega), if_neg e]
    · rw [if_neg e2, if_neg (by omega)]
theorem KC_six (b2 : Nat) (lv2 : Value) (W : WS) (q2 : Nat → Nat) : arrL 27 (encK (KC b2 lv2 W q2 6)) = arrL 27 (encK (KOf b2 q2 lv2 W)) := by
  refine arrL_congr fun j hj => ?_
  unfold encK KC KOf
  dsimp only
  by_cases c0 : j = 0
  · simp only [if_pos c0]
  · simp only [if_neg c0]
    by_cases c1 : j < 7
    · simp only [if_pos c1]; rw [if_pos (by omega)]
    · simp only [if_neg c1]
theorem kd_allcalls (m : KS) : ((arrL 27 (encK m)).drop (0 + 7)).take 18 = [.int .u8 (m.ck 0), .int .u64 (m.cv 0), .int .u64 (m.cp 0), .int .u8 (m.ck 1), .int .u64 (m.cv 1), .int .u64 (m.cp 1), .int .u8 (m.ck 2), .int .u64 (m.cv 2), .int .u64 (m.cp 2), .int .u8 (m.ck 3), .int .u64 (m.cv 3), .int .u64 (m.cp 3), .int .u8 (m.ck 4), .int .u64 (m.cv 4), .int .u64 (m.cp 4), .int .u8 (m.ck 5), .int .u64 (m.cv 5), .int .u64 (m.cp 5)] := by
  unfold arrL encK; rfl
theorem clone_machine (b : Nat) (ck cv cp : Nat → Int) (st : Int) : C [.pointer (some ⟨b, 0, none⟩), .nilIface, .nilIface, .nilIface, .nilIface, .nilIface, .nilIface, .int .u8 (ck 0), .int .u64 (cv 0), .int .u64 (cp 0), .int .u8 (ck 1), .int .u64 (cv 1), .int .u64 (cp 1), .int .u8 (ck 2), .int .u64 (cv 2), .int .u64 (cp 2), .int .u8 (ck 3), .int .u64 (cv 3), .int .u64 (cp 3), .int .u8 (ck 4), .int .u64 (cv 4), .int .u64 (cp 4), .int .u8 (ck 5), .int .u64 (cv 5), .int .u64 (cp 5), .slice none 0 0, .int .i64 st] 41 = C (arrL 27 (encK ⟨.pointer (some ⟨b, 0, none⟩), fun _ => .nilIface, ck, cv, cp, .slice none 0 0, st⟩)) 41 := by
  unfold arrL encK; rfl
structure CS where
  i : Nat
  q : Nat → Nat
  X : List (Nat × Obj)
structure CI (W : WS) (s : CS) : Prop where
  i : s.i ≤ 6
  X : s.X.Perm ((List.range s.i).flatMap (pB s.q W.run))
theorem CI.idle {W : WS} {s : CS} (h : CI W s) (hi : s.i < 6) (hn : W.run s.i = none) : CI W ⟨s.i + 1, s.q, s.X⟩ := by
  refine ⟨hi, ?_⟩
  show s.X.Perm ((List.range (s.i + 1)).flatMap (pB s.q W.run))
  rw [List.range_succ, List.flatMap_append]
  simp only [List.flatMap_cons, List.flatMap_nil, List.append_nil]
  rw [pB_none _ _ _ hn, List.append_nil]
  exact h.X
theorem CI.busy {W : WS} {s : CS} (h : CI W s) (hi : s.i < 6) {x : Bool × PG} (hx : W.run s.i = some x) (k : Nat) : CI W ⟨s.i + 1, updF s.q s.i k, (k, C (arrL 37 (encP x.2)) 137) :: s.X⟩ := by
  refine ⟨hi, ?_⟩
  show ((k, C (arrL 37 (encP x.2)) 137) :: s.X).Perm ((List.range (s.i + 1)).flatMap (pB (updF s.q s.i k) W.run))
  rw [List.range_succ, List.flatMap_append]
  simp only [List.flatMap_cons, List.flatMap_nil, List.append_nil]
  rw [pB_some _ _ _ _ hx, updF_same]
  have e : (List.range s.i).flatMap (pB (updF s.q s.i k) W.run) = (List.range s.i).flatMap (pB s.q W.run) := by
    rw [List.flatMap_def, List.flatMap_def]
    congr 1
    refine List.map_congr_left fun z hz => ?_
    unfold pB
    rw [updF_ne _ _ (by have := List.mem_range.1 hz; omega)]
  rw [e]
  exact (h.X.cons _).trans (List.perm_append_singleton _ _).symm
/-- what the clone reads -/
structure Lies (b kb : Nat) (W : WS) (q : Nat → Nat) (lv : Value) (w : World) : Prop where
  k : w.heap[kb]? = some (C (arrL 27 (encK (KOf b q lv W))) 41)
  m : w.heap[b]? = some (C (arrL 16391 (encM W.m)) 75)
  p : ∀ t x, t < 6 → W.run t = some x → w.heap[q t]? = some (C (arrL 37 (encP x.2)) 137)
theorem CI.wd {b2 kb2 : Nat} {W : WS} {s : CS} {lv2 : Value} {E2 F : List (Nat × Obj)} (h : CI W s) (h6 : s.i = 6) (hrow : Row lv2 W.log.length (W.log.flatMap evL) 8 56 E2) (hF : F = (kb2, C (arrL 27 (encK (KC b2 lv2 W s.q s.i))) 41) :: (b2, C (arrL 16391 (encM W.m)) 75) :: (E2 ++ s.X)) :
    ∃ F2, Wd b2 kb2 W [] F2 ∧ F.Perm F2 := by
  refine ⟨_, ⟨s.q, lv2, E2, hrow, rfl⟩, ?_⟩
  rw [hF, h6, KC_six, List.append_nil]
  have := h.X
  rw [h6] at this
  exact ((List.Perm.append_left E2 this).cons _).cons _
theorem flat_len2 (l : List Ev) : (l.flatMap evL).length = l.length * 8 := by
  induction l with
  | nil => rfl
  | cons e l ih => rw [List.flatMap_cons, List.length_append, ih, List.length_cons]; show 8 + _ = _; omega
theorem evs_one (l : List Ev) : (l.flatMap evL).all (·.oneCell') = true := by
  induction l with
  | nil => rfl
  | cons e l ih => rw [List.flatMap_cons, List.all_append, ih]; rfl
theorem take_news (xs junk : List Value) : ((xs ++ junk).drop 0).take xs.length = xs := by simp


set_option maxHeartbeats 1000000 in
theorem mclone0 (b kb : Nat) (W : WS) (q : Nat → Nat) (p : Option Addr) (cap : Nat) (h0 : W.log = []) : SpK Try.prog 33 #[.pointer (some ⟨kb, 0, none⟩)] (fun w => Lies b kb W q (.slice p 0 cap) w) [] (fun v F' => ∃ b2 kb2 q2 X lv2 E2, v = .pointer (some ⟨kb2, 0, none⟩) ∧ CI W ⟨6, q2, X⟩ ∧ Row lv2 W.log.length (W.log.flatMap evL) 8 56 E2 ∧ F' = (kb2, C (arrL 27 (encK (KC b2 lv2 W q2 6))) 41) :: (b2, C (arrL 16391 (encM W.m)) 75) :: (E2 ++ X)) := by
  refine f_enter (args := [.pointer (some ⟨kb, 0, none⟩)]) Try.func33 rfl Try.ntmps33 rfl ?_
  intro w0 w a hpre hl hh
  have hkb : w0.heap[kb]? = some (C (arrL 27 (encK (KOf b q (.slice p 0 cap) W))) 41) := hpre.k
  have hmb : w0.heap[b]? = some (C (arrL 16391 (encM W.m)) 75) := hpre.m
  simp only [slotsFrom, Nat.reduceAdd] at hl
  refine c_seq ?_
  refine c_region ?_
  refine wl (wl_val hl rfl trivial (r_assign hl rfl) ?_)
  clear hl a; intro a hl
  refine w_nil ?_
  have hl2 := hl.add (t := 0) (hl.nil) rfl; clear hl; have hl := hl2; clear hl2
  refine then_normal ?_
  refine c_seq ?_
  refine c_draw [(kb, C (arrL 27 (encK (KOf b q (.slice p 0 cap) W))) 41)] [13, 14, 15] mixed hh ?_
  clear hh w; intro w hh
  have hM : Mem [(kb, C (arrL 27 (encK (KOf b q (.slice p 0 cap) W))) 41)] w := (by repeat (first | exact Mem.nil | refine Mem.consR hh (by assumption) (by simp) ?_ | refine Mem.cons hh.mem (by repeat (first | exact find_head | apply find_tail)) ?_))
  refine d_take (i := 0) hl rfl (by kernel_rfl) (by kernel_rfl) (by kernel_rfl) (by kernel_rfl) (by kernel_rfl) rfl trivial (fun _ _ _ h => h) hM (fun w hC => r_move hl rfl) rfl ?_
  clear hl a; intro a hl
  refine d_take (i := 1) hl rfl (by kernel_rfl) (by kernel_rfl) (by kernel_rfl) (by kernel_rfl) (by kernel_rfl) rfl trivial (fun _ _ _ h => h) hM (fun w hC => r_nilCheck hl rfl) rfl ?_
  clear hl a; intro a hl
  refine d_take (i := 2) hl rfl (by kernel_rfl) (by kernel_rfl) (by kernel_rfl) (by kernel_rfl) (by kernel_rfl) rfl trivial (fun _ _ _ h => h) hM (fun w hC => r_field hl rfl fld41_0) rfl ?_
  clear hl a; intro a hl
  refine d_take (i := 3) hl rfl (by kernel_rfl) (by kernel_rfl) (by kernel_rfl) (by kernel_rfl) (by kernel_rfl) rfl trivial (fun _ _ _ h => h) hM (fun w hC => r_loadC hl rfl one30 hC (by repeat (first | exact find_head | apply find_tail)) (by exact kd_mem _)) rfl ?_
  clear hl a; intro a hl
  try dsimp only [KOf] at hl
  refine d_take (i := 5) hl rfl (by kernel_rfl) (by kernel_rfl) (by kernel_rfl) (by kernel_rfl) (by kernel_rfl) rfl trivial (fun _ _ _ h => h) hM (fun w hC => r_move hl rfl) rfl ?_
  clear hl a; intro a hl
  refine d_take (i := 6) hl rfl (by kernel_rfl) (by kernel_rfl) (by kernel_rfl) (by kernel_rfl) (by kernel_rfl) rfl trivial (fun _ _ _ h => h) hM (fun w hC => r_nilCheck hl rfl) rfl ?_
  clear hl a; intro a hl
  refine d_take (i := 7) hl rfl (by kernel_rfl) (by kernel_rfl) (by kernel_rfl) (by kernel_rfl) (by kernel_rfl) rfl trivial (fun _ _ _ h => h) hM (fun w hC => r_field hl rfl fld41_2) rfl ?_
  clear hl a; intro a hl
  refine d_take (i := 8) hl rfl (by kernel_rfl) (by kernel_rfl) (by kernel_rfl) (by kernel_rfl) (by kernel_rfl) rfl trivial (fun _ _ _ h => h) hM (fun w hC => r_loadCA hl rfl agg38 hC (by repeat (first | exact find_head | apply find_tail)) (by exact kd_allcalls _) (by rfl)) rfl ?_
  clear hl a; intro a hl
  refine d_take (i := 9) hl rfl (by kernel_rfl) (by kernel_rfl) (by kernel_rfl) (by kernel_rfl) (by kernel_rfl) rfl trivial (fun _ _ _ h => h) hM (fun w hC => r_move hl rfl) rfl ?_
  clear hl a; intro a hl
  refine d_take (i := 10) hl rfl (by kernel_rfl) (by kernel_rfl) (by kernel_rfl) (by kernel_rfl) (by kernel_rfl) rfl trivial (fun _ _ _ h => h) hM (fun w hC => r_nilCheck hl rfl) rfl ?_
  clear hl a; intro a hl
  refine d_take (i := 11) hl rfl (by kernel_rfl) (by kernel_rfl) (by kernel_rfl) (by kernel_rfl) (by kernel_rfl) rfl trivial (fun _ _ _ h => h) hM (fun w hC => r_field hl rfl fld41_4) rfl ?_
  clear hl a; intro a hl
  refine d_take (i := 12) hl rfl (by kernel_rfl) (by kernel_rfl) (by kernel_rfl) (by kernel_rfl) (by kernel_rfl) rfl trivial (fun _ _ _ h => h) hM (fun w hC => r_loadC hl rfl one3 hC (by repeat (first | exact find_head | apply find_tail)) (by exact kd_steps _)) rfl ?_
  clear hl a; intro a hl
  try dsimp only [KOf] at hl
  refine d_one (i := 4) (by kernel_rfl) rfl ?_
  try clear hM
  refine id (w_call hl hh rfl trivial rfl cal45 rfl (memClone_spec b W.m) (by repeat (first | exact keeps_nil | apply keeps_cons (by repeat (first | exact find_head | apply find_tail)) (by first  | rfl) | exact keeps_self | exact keeps_left | exact keeps_right | exact keeps_swap | apply keeps_mv)) (hh.old hmb (by simp)) ?_)
  clear hl hh a w; intro vc Fc a w hR hl hh
  obtain ⟨kx, rfl, rfl⟩ := hR
  try simp only [List.cons_append, List.nil_append] at hh
  have hM : Mem [(kb, C (arrL 27 (encK (KOf b q (.slice p 0 cap) W))) 41)] w := (by repeat (first | exact Mem.nil | refine Mem.consR hh (by assumption) (by simp) ?_ | refine Mem.cons hh.mem (by repeat (first | exact find_head | apply find_tail)) ?_))
  refine d_step (fun _ => hM) ?_
  refine d_takeL (i := 13) hl rfl (by kernel_rfl) (by kernel_rfl) (by kernel_rfl) (by kernel_rfl) (by kernel_rfl) rfl trivial (fun _ _ _ h => h) (fun w => r_build hl rfl zero41 bld41 (by simp only [fillL, setL, List.getElem?_cons_zero, List.getElem?_cons_succ, Value.cells, List.take_zero, List.take_succ_cons, List.take_nil, List.drop_zero, List.drop_succ_cons, List.drop_nil, List.length_cons, List.length_nil, List.cons_append, List.nil_append, List.append_nil, Nat.zero_add, Nat.add_zero, Nat.reduceAdd, Nat.reduceBEq, Nat.reduceEqDiff, Nat.ble, BEq.rfl, Bool.and_true, Bool.and_self, cond_true, beq_self_eq_true]; rfl)) rfl ?_
  clear hl a; intro a hl
  refine d_one (i := 14) (by kernel_rfl) rfl ?_
  try clear hM
  refine id (w_box hl hh rfl trivial rfl rfl ?_)
  clear hl hh a w; intro k20 a w hl hh
  refine d_step (fun h => absurd h (by decide)) ?_
  refine d_takeL (i := 15) hl rfl (by kernel_rfl) (by kernel_rfl) (by kernel_rfl) (by kernel_rfl) (by kernel_rfl) rfl trivial (fun _ _ _ h => h) (fun w => r_assign hl rfl) rfl ?_
  clear hl a; intro a hl
  refine d_done (by kernel_rfl) ?_
  try clear hM
  have hl2 := hl.add (t := 0) (hl.add (t := 3) (hl.nil) rfl) rfl; clear hl; have hl := hl2; clear hl2
  rw [show C _ 41 = _ from clone_machine kx W.ck W.cv W.cp W.steps] at hh
  refine then_normal ?_
  refine c_seq ?_
  refine c_draw [(k20, C (arrL 27 (encK ⟨.pointer (some ⟨kx, 0, none⟩), fun _ => .nilIface, W.ck, W.cv, W.cp, .slice none 0 0, W.steps⟩)) 41), (kb, C (arrL 27 (encK (KOf b q (.slice p 0 cap) W))) 41)] [10, 11, 12] mixed hh ?_
  clear hh w; intro w hh
  have hM : Mem [(k20, C (arrL 27 (encK ⟨.pointer (some ⟨kx, 0, none⟩), fun _ => .nilIface, W.ck, W.cv, W.cp, .slice none 0 0, W.steps⟩)) 41), (kb, C (arrL 27 (encK (KOf b q (.slice p 0 cap) W))) 41)] w := (by repeat (first | exact Mem.nil | refine Mem.consR hh (by assumption) (by simp) ?_ | refine Mem.cons hh.mem (by repeat (first | exact find_head | apply find_tail)) ?_))
  refine d_take (i := 0) hl rfl (by kernel_rfl) (by kernel_rfl) (by kernel_rfl) (by kernel_rfl) (by kernel_rfl) rfl trivial (fun _ _ _ h => h) hM (fun w hC => r_move hl rfl) rfl ?_
  clear hl a; intro a hl
  refine d_take (i := 1) hl rfl (by kernel_rfl) (by kernel_rfl) (by kernel_rfl) (by kernel_rfl) (by kernel_rfl) rfl trivial (fun _ _ _ h => h) hM (fun w hC => r_move hl rfl) rfl ?_
  clear hl a; intro a hl
  refine d_take (i := 2) hl rfl (by kernel_rfl) (by kernel_rfl) (by kernel_rfl) (by kernel_rfl) (by kernel_rfl) rfl trivial (fun _ _ _ h => h) hM (fun w hC => r_nilCheck hl rfl) rfl ?_
  clear hl a; intro a hl
  refine d_take (i := 3) hl rfl (by kernel_rfl) (by kernel_rfl) (by kernel_rfl) (by kernel_rfl) (by kernel_rfl) rfl trivial (fun _ _ _ h => h) hM (fun w hC => r_field hl rfl fld41_3) rfl ?_
  clear hl a; intro a hl
  refine d_take (i := 4) hl rfl (by kernel_rfl) (by kernel_rfl) (by kernel_rfl) (by kernel_rfl) (by kernel_rfl) rfl trivial (fun _ _ _ h => h) hM (fun w hC => r_loadC hl rfl one39 hC (by repeat (first | exact find_head | apply find_tail)) (by exact kd_log _)) rfl ?_
  clear hl a; intro a hl
  try dsimp only [KOf] at hl
  refine d_take (i := 5) hl rfl (by kernel_rfl) (by kernel_rfl) (by kernel_rfl) (by kernel_rfl) (by kernel_rfl) rfl trivial (fun _ _ _ h => h) hM (fun w hC => r_move hl rfl) rfl ?_
  clear hl a; intro a hl
  refine d_take (i := 6) hl rfl (by kernel_rfl) (by kernel_rfl) (by kernel_rfl) (by kernel_rfl) (by kernel_rfl) rfl trivial (fun _ _ _ h => h) hM (fun w hC => r_nilCheck hl rfl) rfl ?_
  clear hl a; intro a hl
  refine d_take (i := 7) hl rfl (by kernel_rfl) (by kernel_rfl) (by kernel_rfl) (by kernel_rfl) (by kernel_rfl) rfl trivial (fun _ _ _ h => h) hM (fun w hC => r_field hl rfl fld41_3) rfl ?_
  clear hl a; intro a hl
  refine d_take (i := 8) hl rfl (by kernel_rfl) (by kernel_rfl) (by kernel_rfl) (by kernel_rfl) (by kernel_rfl) rfl trivial (fun _ _ _ h => h) hM (fun w hC => r_loadC hl rfl one39 hC (by repeat (first | exact find_head | apply find_tail)) (by exact kd_log _)) rfl ?_
  clear hl a; intro a hl
  try dsimp only [KOf] at hl
  refine d_one (i := 9) (by kernel_rfl) rfl ?_
  try clear hM
  refine id (w_append0 hl rfl trivial app39 rfl rfl ?_)
  clear hl a; intro a hl
  have hM : Mem [(k20, C (arrL 27 (encK ⟨.pointer (some ⟨kx, 0, none⟩), fun _ => .nilIface, W.ck, W.cv, W.cp, .slice none 0 0, W.steps⟩)) 41), (kb, C (arrL 27 (encK (KOf b q (.slice p 0 cap) W))) 41)] w := (by repeat (first | exact Mem.nil | refine Mem.consR hh (by assumption) (by simp) ?_ | refine Mem.cons hh.mem (by repeat (first | exact find_head | apply find_tail)) ?_))
  refine d_step (fun _ => hM) ?_
  refine d_takeL (i := 10) hl rfl (by kernel_rfl) (by kernel_rfl) (by kernel_rfl) (by kernel_rfl) (by kernel_rfl) rfl trivial (fun _ _ _ h => h) (fun w => r_nilCheck hl rfl) rfl ?_
  clear hl a; intro a hl
  refine d_takeL (i := 11) hl rfl (by kernel_rfl) (by kernel_rfl) (by kernel_rfl) (by kernel_rfl) (by kernel_rfl) rfl trivial (fun _ _ _ h => h) (fun w => r_field hl rfl fld41_3) rfl ?_
  clear hl a; intro a hl
  refine d_one (i := 12) (by kernel_rfl) rfl ?_
  try clear hM
  refine id (w_store hl hh trivial one39 rfl rfl (by repeat (first | exact find_head | apply find_tail)) (by rw [arrL_length]; decide) (by first | rfl | assumption | (apply Row.one; assumption)) (by exact kt_log _ _) ?_)
  clear hh w; intro w hh
  refine d_step (fun h => absurd h (by decide)) ?_
  refine d_done (by kernel_rfl) ?_
  try clear hM
  have hl2 := hl.add (t := 0) (hl.add (t := 3) (hl.nil) rfl) rfl; clear hl; have hl := hl2; clear hl2
  rw [KC_zero kx _ W (fun _ => 0)] at hh
  refine then_normal ?_
  refine c_seq ?_
  refine c_seq ?_
  refine c_region ?_
  refine wl (wl_val hl rfl trivial (r_move hl rfl) ?_)
  clear hl a; intro a hl
  refine wl (wl_val hl rfl trivial (r_nilCheck hl rfl) ?_)
  clear hl a; intro a hl
  refine wl (wl_val hl rfl trivial (r_field hl rfl fld41_1) ?_)
  clear hl a; intro a hl
  first | refine wl (w_loadA hl hh rfl trivial agg33 rfl (by repeat (first | exact find_head | apply find_tail)) (by exact kd_runs _) (by rw [arrL_length]) ?_) | refine wl (w_loadRA hl hh rfl trivial agg33 rfl hkb (by simp) (kd_runs _) (by rw [arrL_length]) ?_)
  clear hl a; intro a hl
  try dsimp only [KOf] at hl
  refine wl (wl_val hl rfl trivial (r_move hl rfl) ?_)
  clear hl a; intro a hl
  refine w_nil ?_
  have hl2 := hl.add (t := 3) (hl.add (t := 36) (hl.add (t := 37) (hl.nil) rfl) rfl) rfl; clear hl; have hl := hl2; clear hl2
  refine then_normal ?_
  refine wp_block ?_
  obtain ⟨KS0, hKS0, hk⟩ := (hl.add (t := 3) (hl.add (t := 36) (hl.nil) rfl) rfl).name
  obtain ⟨HS0, hHS0, hh2⟩ := hh.nameT (A := [(k20, C (arrL 27 (encK (KC kx (.slice none 0 0) W (fun _ => 0) 0))) 41)]) (U := []) (keeps_cons (b := k20) (o' := C (arrL 27 (encK (KC kx (.slice none 0 0) W (fun _ => 0) 0))) 41) (by repeat (first | exact find_head | apply find_tail)) (by first | rfl) ((by repeat (first | exact keeps_nil | exact keeps_self | exact keeps_swap | apply keeps_mv))))
  refine c_loop (α := CS) (fun s => 6 - s.i) (fun s a w => (CI W s) ∧ Sl 52 ([(37, .int .i64 s.i)] ++ KS0) a ∧ Has _ w0 ([(k20, C (arrL 27 (encK (KC kx (.slice none 0 0) W s.q s.i))) 41)] ++ (HS0 ++ s.X)) w) ⟨0, fun _ => 0, []⟩ ⟨⟨Nat.zero_le _, List.Perm.refl _⟩, hl.addE (t := 37) (hk) rfl (by first | rfl), hh2⟩ ?_
  clear hk hh2 hl hh a w
  intro s a w hI
  obtain ⟨hC, hl, hh⟩ := hI
  subst hKS0; subst hHS0
  simp only [List.cons_append, List.nil_append, List.append_nil] at hl hh
  refine c_seq ?_
  refine c_region ?_
  refine wl (wl_val hl rfl trivial (r_lss hl rfl rfl) ?_)
  clear hl a; intro a hl
  refine w_nil ?_
  have hl2 := hl.add (t := 3) (hl.add (t := 36) (hl.add (t := 37) (hl.add (t := 38) (hl.nil) rfl) rfl) rfl) rfl; clear hl; have hl := hl2; clear hl2
  refine then_normal ?_
  refine c_seq ?_
  refine c_cond hl rfl ?_ ?_
  · intro hc0
    try simp only [decide_eq_true_eq, decide_eq_false_iff_not, Bool.not_eq_true', Bool.not_eq_false', Bool.not_eq_true, Bool.not_eq_false, Bool.and_eq_true, Bool.or_eq_true, Bool.and_eq_false_iff, Bool.or_eq_false_iff, Bool.not_not, ne_eq, Int.not_lt, Int.not_le, Decidable.not_not, beq_iff_eq, bne_iff_ne] at hc0
    refine wp_skip ?_
    refine then_normal ?_
    refine c_seq ?_
    refine wp_block ?_
    refine c_seq ?_
    refine c_region ?_
    refine wl (wl_val hl rfl trivial (r_move hl rfl) ?_)
    clear hl a; intro a hl
    refine wl (wl_val hl rfl trivial (r_indexAgg hl rfl rfl arrT33 one32 (by omega) (by omega) (by first | (simp only [Int.reduceToNat]; rfl) | exact toNat_add1 _ | exact toNat_add2 _ _ | exact toNat_emod _ _ | exact Int.toNat_natCast _ | rfl) (by exact (arrL_get (by omega)))) ?_)
    clear hl a; intro a hl
    refine wl (wl_val hl rfl trivial (r_assign hl rfl) ?_)
    clear hl a; intro a hl
    refine wl (wl_val hl rfl trivial (r_assign hl rfl) ?_)
    clear hl a; intro a hl
    refine w_nil ?_
    have hl2 := hl.add (t := 3) (hl.add (t := 4) (hl.add (t := 5) (hl.add (t := 36) (hl.add (t := 37) (hl.nil) rfl) rfl) rfl) rfl) rfl; clear hl; have hl := hl2; clear hl2
    refine then_normal ?_
    refine c_seq ?_
    refine c_region ?_
    refine wl (wl_val hl rfl trivial (r_move hl rfl) ?_)
    clear hl a; intro a hl
    refine wl (wl_val hl rfl trivial (r_neqI hl rfl (rV_ifc q W.run _) ifc32) ?_)
    clear hl a; intro a hl
    refine w_nil ?_
    have hl2 := hl.add (t := 3) (hl.add (t := 4) (hl.add (t := 5) (hl.add (t := 36) (hl.add (t := 37) (hl.add (t := 42) (hl.nil) rfl) rfl) rfl) rfl) rfl) rfl; clear hl; have hl := hl2; clear hl2
    refine then_normal ?_
    refine c_cond hl rfl ?_ ?_
    · intro hc1
      try simp only [decide_eq_true_eq, decide_eq_false_iff_not, Bool.not_eq_true', Bool.not_eq_false', Bool.not_eq_true, Bool.not_eq_false, Bool.and_eq_true, Bool.or_eq_true, Bool.and_eq_false_iff, Bool.or_eq_false_iff, Bool.not_not, ne_eq, Int.not_lt, Int.not_le, Decidable.not_not, beq_iff_eq, bne_iff_ne] at hc1
      obtain ⟨x, hx⟩ : ∃ x, W.run s.i = some x := Option.isSome_iff_exists.1 (by rw [← rV_is q]; simpa using hc1)
      rw [show rV q W.run (s.i * 1) = .iface 129 (.pointer (some ⟨q s.i, 0, none⟩)) by (rw [Nat.mul_one]; unfold rV; rw [hx])] at hl
      refine c_draw [] [6, 7] mixed hh ?_
      clear hh w; intro w hh
      have hM : Mem [] w := Mem.nil
      refine d_take (i := 0) hl rfl (by kernel_rfl) (by kernel_rfl) (by kernel_rfl) (by kernel_rfl) (by kernel_rfl) rfl trivial (fun _ _ _ h => h) hM (fun w hC => r_move hl rfl) rfl ?_
      clear hl a; intro a hl
      refine d_take (i := 1) hl rfl (by kernel_rfl) (by kernel_rfl) (by kernel_rfl) (by kernel_rfl) (by kernel_rfl) rfl trivial (fun _ _ _ h => h) hM (fun w hC => r_move hl rfl) rfl ?_
      clear hl a; intro a hl
      refine d_take (i := 2) hl rfl (by kernel_rfl) (by kernel_rfl) (by kernel_rfl) (by kernel_rfl) (by kernel_rfl) rfl trivial (fun _ _ _ h => h) hM (fun w hC => r_move hl rfl) rfl ?_
      clear hl a; intro a hl
      refine d_take (i := 4) hl rfl (by kernel_rfl) (by kernel_rfl) (by kernel_rfl) (by kernel_rfl) (by kernel_rfl) rfl trivial (fun _ _ _ h => h) hM (fun w hC => r_nilCheck hl rfl) rfl ?_
      clear hl a; intro a hl
      refine d_take (i := 5) hl rfl (by kernel_rfl) (by kernel_rfl) (by kernel_rfl) (by kernel_rfl) (by kernel_rfl) rfl trivial (fun _ _ _ h => h) hM (fun w hC => r_field hl rfl fld41_1) rfl ?_
      clear hl a; intro a hl
      refine d_one (i := 3) (by kernel_rfl) rfl ?_
      try clear hM
      refine id (w_callI hl hh rfl trivial rfl meth129_Clone cal89 rfl (progClone_spec (q s.i) x.2) (by repeat (first | exact keeps_nil | apply keeps_cons (by repeat (first | exact find_head | apply find_tail)) (by first  | rfl) | exact keeps_self | exact keeps_left | exact keeps_right | exact keeps_swap | apply keeps_mv)) (hh.old (hpre.p s.i x (by omega) hx) (by simp)) ?_)
      clear hl hh a w; intro vc Fc a w hR hl hh
      obtain ⟨kn, rfl, rfl⟩ := hR
      try simp only [List.cons_append, List.nil_append] at hh
      obtain ⟨nq, hnq⟩ : ∃ z, z = updF s.q s.i kn := ⟨_, rfl⟩
      obtain ⟨nX, hnX⟩ : ∃ z, z = (kn, C (arrL 37 (encP x.2)) 137) :: s.X := ⟨_, rfl⟩
      have hCN : CI W ⟨s.i + 1, nq, nX⟩ := by rw [hnq, hnX]; exact hC.busy (by omega) hx kn
      have hM : Mem [] w := Mem.nil
      refine d_step (fun _ => hM) ?_
      refine d_takeL (i := 6) hl rfl (by kernel_rfl) (by kernel_rfl) (by kernel_rfl) (by kernel_rfl) (by kernel_rfl) rfl trivial (fun _ _ _ h => h) (fun w => r_indexA hl rfl rfl arr33 (by omega) (by omega) (by first | (simp only [Int.reduceToNat]; rfl) | exact toNat_add1 _ | exact toNat_add2 _ _ | exact toNat_emod _ _ | exact Int.toNat_natCast _ | rfl)) rfl ?_
      clear hl a; intro a hl
      refine d_one (i := 7) (by kernel_rfl) rfl ?_
      try clear hM
      refine id (w_store hl hh trivial one32 rfl rfl (by repeat (first | exact find_head | apply find_tail)) (by rw [arrL_length]; omega) (by first | rfl | assumption | (apply Row.one; assumption)) (by exact kt_run _ _ _ (by omega)) ?_)
      clear hh w; intro w hh
      refine d_step (fun h => absurd h (by decide)) ?_
      refine d_done (by kernel_rfl) ?_
      try clear hM
      have hl2 := hl.add (t := 3) (hl.add (t := 36) (hl.add (t := 37) (hl.nil) rfl) rfl) rfl; clear hl; have hl := hl2; clear hl2
      refine blk_normal ?_
      refine then_normal ?_
      refine c_region ?_
      first | refine wl (wl_val hl rfl trivial (r_add hl rfl rfl (by simp only [Fits]; omega)) ?_) | refine wl (wl_val hl rfl trivial (r_addW hl rfl rfl) ?_)
      clear hl a; intro a hl
      refine wl (wl_val hl rfl trivial (r_move hl rfl) ?_)
      clear hl a; intro a hl
      refine w_nil ?_
      have hl2 := hl.add (t := 3) (hl.add (t := 36) (hl.add (t := 37) (hl.nil) rfl) rfl) rfl; clear hl; have hl := hl2; clear hl2
      refine then_normal ?_
      first | rw [hKC, ← hnq] at hh | rw [KC_busy hx, ← hnq] at hh
      refine ⟨⟨s.i + 1, nq, nX⟩, (by show 6 - (s.i + 1) < 6 - s.i; omega), hCN, hl.addE (t := 37) (hl.addE (t := 3) (hl.addE (t := 36) (hl.nil) rfl (by first | rfl | rfl)) rfl (by first | rfl | rfl)) rfl (by first | rfl | rfl), (by simp only [List.cons_append, List.nil_append, List.append_nil, List.append_assoc]; rw [hnX]; first | exact hh | exact hh.perm (List.Perm.cons _ ((List.Perm.swap _ _ _).trans (List.Perm.cons _ List.perm_middle.symm))) | exact hh.perm (List.Perm.cons _ (List.Perm.swap _ _ _)))⟩
    · intro hc1
      try simp only [decide_eq_true_eq, decide_eq_false_iff_not, Bool.not_eq_true', Bool.not_eq_false', Bool.not_eq_true, Bool.not_eq_false, Bool.and_eq_true, Bool.or_eq_true, Bool.and_eq_false_iff, Bool.or_eq_false_iff, Bool.not_not, ne_eq, Int.not_lt, Int.not_le, Decidable.not_not, beq_iff_eq, bne_iff_ne] at hc1
      have hx : W.run s.i = none := by simpa using (show (W.run s.i).isSome = false by (rw [← rV_is q]; simpa using hc1))
      have hKC := KC_idle (b2 := kx) (lv2 := (.slice none 0 0)) (q2 := s.q) hx
      obtain ⟨nq, hnq⟩ : ∃ z, z = s.q := ⟨_, rfl⟩
      obtain ⟨nX, hnX⟩ : ∃ z, z = s.X := ⟨_, rfl⟩
      have hCN : CI W ⟨s.i + 1, nq, nX⟩ := by rw [hnq, hnX]; exact hC.idle (by omega) hx
      refine wp_skip ?_
      refine blk_normal ?_
      refine then_normal ?_
      refine c_region ?_
      first | refine wl (wl_val hl rfl trivial (r_add hl rfl rfl (by simp only [Fits]; omega)) ?_) | refine wl (wl_val hl rfl trivial (r_addW hl rfl rfl) ?_)
      clear hl a; intro a hl
      refine wl (wl_val hl rfl trivial (r_move hl rfl) ?_)
      clear hl a; intro a hl
      refine w_nil ?_
      have hl2 := hl.add (t := 3) (hl.add (t := 36) (hl.add (t := 37) (hl.nil) rfl) rfl) rfl; clear hl; have hl := hl2; clear hl2
      refine then_normal ?_
      first | rw [hKC, ← hnq] at hh | rw [KC_busy hx, ← hnq] at hh
      refine ⟨⟨s.i + 1, nq, nX⟩, (by show 6 - (s.i + 1) < 6 - s.i; omega), hCN, hl.addE (t := 37) (hl.addE (t := 3) (hl.addE (t := 36) (hl.nil) rfl (by first | rfl | rfl)) rfl (by first | rfl | rfl)) rfl (by first | rfl | rfl), (by simp only [List.cons_append, List.nil_append, List.append_nil, List.append_assoc]; rw [hnX]; first | exact hh | exact hh.perm (List.Perm.cons _ ((List.Perm.swap _ _ _).trans (List.Perm.cons _ List.perm_middle.symm))) | exact hh.perm (List.Perm.cons _ (List.Perm.swap _ _ _)))⟩
  · intro hc0
    try simp only [decide_eq_true_eq, decide_eq_false_iff_not, Bool.not_eq_true', Bool.not_eq_false', Bool.not_eq_true, Bool.not_eq_false, Bool.and_eq_true, Bool.or_eq_true, Bool.and_eq_false_iff, Bool.or_eq_false_iff, Bool.not_not, ne_eq, Int.not_lt, Int.not_le, Decidable.not_not, beq_iff_eq, bne_iff_ne] at hc0
    have hs6 : s.i = 6 := by have := hC.i; omega
    refine wp_exit ?_
    refine then_exit ?_
    refine then_exit ?_
    refine blk_exit ?_
    refine then_normal ?_
    refine c_seq ?_
    refine c_region ?_
    refine wl (wl_val hl rfl trivial (r_move hl rfl) ?_)
    clear hl a; intro a hl
    refine wl (wl_val hl rfl trivial (r_assign hl rfl) ?_)
    clear hl a; intro a hl
    refine w_nil ?_
    have hl2 := hl.add (t := 2) (hl.nil) rfl; clear hl; have hl := hl2; clear hl2
    refine then_normal ?_
    refine wp_ret ?_
    obtain ⟨i6, q6, X6⟩ := s
    simp only at hs6 hC hh
    subst hs6
    refine f_ret1 (F' := (k20, C (arrL 27 (encK (KC kx (.slice none 0 0) W q6 6))) 41) :: (kx, C (arrL 16391 (encM W.m)) 75) :: ([] ++ X6)) hl hh rfl rfl (by repeat (first | exact keeps_nil | apply keeps_cons (by repeat (first | exact find_head | apply find_tail)) (by first  | rfl) | exact keeps_self | exact keeps_left | exact keeps_right | exact keeps_swap | apply keeps_mv)) ?_
    exact ⟨kx, k20, q6, X6, _, [], rfl, hC, (by rw [h0]; exact Row.nil _ _), rfl⟩

set_option maxHeartbeats 1000000 in
theorem mclone1 (b kb : Nat) (W : WS) (q : Nat → Nat) (lb cap : Nat) (junk : List Value) (h0 : 0 < W.log.length) (hL : W.log.length ≤ 1000000) : SpK Try.prog 33 #[.pointer (some ⟨kb, 0, none⟩)] (fun w => Lies b kb W q (.slice (some ⟨lb, 0, none⟩) W.log.length cap) w ∧ w.heap[lb]? = some (C (W.log.flatMap evL ++ junk) 56)) [] (fun v F' => ∃ b2 kb2 q2 X lv2 E2, v = .pointer (some ⟨kb2, 0, none⟩) ∧ CI W ⟨6, q2, X⟩ ∧ Row lv2 W.log.length (W.log.flatMap evL) 8 56 E2 ∧ F' = (kb2, C (arrL 27 (encK (KC b2 lv2 W q2 6))) 41) :: (b2, C (arrL 16391 (encM W.m)) 75) :: (E2 ++ X)) := by
  refine f_enter (args := [.pointer (some ⟨kb, 0, none⟩)]) Try.func33 rfl Try.ntmps33 rfl ?_
  intro w0 w a hpre hl hh
  have hkb : w0.heap[kb]? = some (C (arrL 27 (encK (KOf b q (.slice (some ⟨lb, 0, none⟩) W.log.length cap) W))) 41) := hpre.1.k
  have hmb : w0.heap[b]? = some (C (arrL 16391 (encM W.m)) 75) := hpre.1.m
  have hlb : w0.heap[lb]? = some (C (W.log.flatMap evL ++ junk) 56) := hpre.2
  simp only [slotsFrom, Nat.reduceAdd] at hl
  refine c_seq ?_
  refine c_region ?_
  refine wl (wl_val hl rfl trivial (r_assign hl rfl) ?_)
  clear hl a; intro a hl
  refine w_nil ?_
  have hl2 := hl.add (t := 0) (hl.nil) rfl; clear hl; have hl := hl2; clear hl2
  refine then_normal ?_
  refine c_seq ?_
  refine c_draw [(kb, C (arrL 27 (encK (KOf b q (.slice (some ⟨lb, 0, none⟩) W.log.length cap) W))) 41)] [13, 14, 15] mixed hh ?_
  clear hh w; intro w hh
  have hM : Mem [(kb, C (arrL 27 (encK (KOf b q (.slice (some ⟨lb, 0, none⟩) W.log.length cap) W))) 41)] w := (by repeat (first | exact Mem.nil | refine Mem.consR hh (by assumption) (by simp) ?_ | refine Mem.cons hh.mem (by repeat (first | exact find_head | apply find_tail)) ?_))
  refine d_take (i := 0) hl rfl (by kernel_rfl) (by kernel_rfl) (by kernel_rfl) (by kernel_rfl) (by kernel_rfl) rfl trivial (fun _ _ _ h => h) hM (fun w hC => r_move hl rfl) rfl ?_
  clear hl a; intro a hl
  refine d_take (i := 1) hl rfl (by kernel_rfl) (by kernel_rfl) (by kernel_rfl) (by kernel_rfl) (by kernel_rfl) rfl trivial (fun _ _ _ h => h) hM (fun w hC => r_nilCheck hl rfl) rfl ?_
  clear hl a; intro a hl
  refine d_take (i := 2) hl rfl (by kernel_rfl) (by kernel_rfl) (by kernel_rfl) (by kernel_rfl) (by kernel_rfl) rfl trivial (fun _ _ _ h => h) hM (fun w hC => r_field hl rfl fld41_0) rfl ?_
  clear hl a; intro a hl
  refine d_take (i := 3) hl rfl (by kernel_rfl) (by kernel_rfl) (by kernel_rfl) (by kernel_rfl) (by kernel_rfl) rfl trivial (fun _ _ _ h => h) hM (fun w hC => r_loadC hl rfl one30 hC (by repeat (first | exact find_head | apply find_tail)) (by exact kd_mem _)) rfl ?_
  clear hl a; intro a hl
  try dsimp only [KOf] at hl
  refine d_take (i := 5) hl rfl (by kernel_rfl) (by kernel_rfl) (by kernel_rfl) (by kernel_rfl) (by kernel_rfl) rfl trivial (fun _ _ _ h => h) hM (fun w hC => r_move hl rfl) rfl ?_
  clear hl a; intro a hl
  refine d_take (i := 6) hl rfl (by kernel_rfl) (by kernel_rfl) (by kernel_rfl) (by kernel_rfl) (by kernel_rfl) rfl trivial (fun _ _ _ h => h) hM (fun w hC => r_nilCheck hl rfl) rfl ?_
  clear hl a; intro a hl
  refine d_take (i := 7) hl rfl (by kernel_rfl) (by kernel_rfl) (by kernel_rfl) (by kernel_rfl) (by kernel_rfl) rfl trivial (fun _ _ _ h => h) hM (fun w hC => r_field hl rfl fld41_2) rfl ?_
  clear hl a; intro a hl
  refine d_take (i := 8) hl rfl (by kernel_rfl) (by kernel_rfl) (by kernel_rfl) (by kernel_rfl) (by kernel_rfl) rfl trivial (fun _ _ _ h => h) hM (fun w hC => r_loadCA hl rfl agg38 hC (by repeat (first | exact find_head | apply find_tail)) (by exact kd_allcalls _) (by rfl)) rfl ?_
  clear hl a; intro a hl
  refine d_take (i := 9) hl rfl (by kernel_rfl) (by kernel_rfl) (by kernel_rfl) (by kernel_rfl) (by kernel_rfl) rfl trivial (fun _ _ _ h => h) hM (fun w hC => r_move hl rfl) rfl ?_
  clear hl a; intro a hl
  refine d_take (i := 10) hl rfl (by kernel_rfl) (by kernel_rfl) (by kernel_rfl) (by kernel_rfl) (by kernel_rfl) rfl trivial (fun _ _ _ h => h) hM (fun w hC => r_nilCheck hl rfl) rfl ?_
  clear hl a; intro a hl
  refine d_take (i := 11) hl rfl (by kernel_rfl) (by kernel_rfl) (by kernel_rfl) (by kernel_rfl) (by kernel_rfl) rfl trivial (fun _ _ _ h => h) hM (fun w hC => r_field hl rfl fld41_4) rfl ?_
  clear hl a; intro a hl
  refine d_take (i := 12) hl rfl (by kernel_rfl) (by kernel_rfl) (by kernel_rfl) (by kernel_rfl) (by kernel_rfl) rfl trivial (fun _ _ _ h => h) hM (fun w hC => r_loadC hl rfl one3 hC (by repeat (first | exact find_head | apply find_tail)) (by exact kd_steps _)) rfl ?_
  clear hl a; intro a hl
  try dsimp only [KOf] at hl
  refine d_one (i := 4) (by kernel_rfl) rfl ?_
  try clear hM
  refine id (w_call hl hh rfl trivial rfl cal45 rfl (memClone_spec b W.m) (by repeat (first | exact keeps_nil | apply keeps_cons (by repeat (first | exact find_head | apply find_tail)) (by first  | rfl) | exact keeps_self | exact keeps_left | exact keeps_right | exact keeps_swap | apply keeps_mv)) (hh.old hmb (by simp)) ?_)
  clear hl hh a w; intro vc Fc a w hR hl hh
  obtain ⟨kx, rfl, rfl⟩ := hR
  try simp only [List.cons_append, List.nil_append] at hh
  have hM : Mem [(kb, C (arrL 27 (encK (KOf b q (.slice (some ⟨lb, 0, none⟩) W.log.length cap) W))) 41)] w := (by repeat (first | exact Mem.nil | refine Mem.consR hh (by assumption) (by simp) ?_ | refine Mem.cons hh.mem (by repeat (first | exact find_head | apply find_tail)) ?_))
  refine d_step (fun _ => hM) ?_
  refine d_takeL (i := 13) hl rfl (by kernel_rfl) (by kernel_rfl) (by kernel_rfl) (by kernel_rfl) (by kernel_rfl) rfl trivial (fun _ _ _ h => h) (fun w => r_build hl rfl zero41 bld41 (by simp only [fillL, setL, List.getElem?_cons_zero, List.getElem?_cons_succ, Value.cells, List.take_zero, List.take_succ_cons, List.take_nil, List.drop_zero, List.drop_succ_cons, List.drop_nil, List.length_cons, List.length_nil, List.cons_append, List.nil_append, List.append_nil, Nat.zero_add, Nat.add_zero, Nat.reduceAdd, Nat.reduceBEq, Nat.reduceEqDiff, Nat.ble, BEq.rfl, Bool.and_true, Bool.and_self, cond_true, beq_self_eq_true]; rfl)) rfl ?_
  clear hl a; intro a hl
  refine d_one (i := 14) (by kernel_rfl) rfl ?_
  try clear hM
  refine id (w_box hl hh rfl trivial rfl rfl ?_)
  clear hl hh a w; intro k20 a w hl hh
  refine d_step (fun h => absurd h (by decide)) ?_
  refine d_takeL (i := 15) hl rfl (by kernel_rfl) (by kernel_rfl) (by kernel_rfl) (by kernel_rfl) (by kernel_rfl) rfl trivial (fun _ _ _ h => h) (fun w => r_assign hl rfl) rfl ?_
  clear hl a; intro a hl
  refine d_done (by kernel_rfl) ?_
  try clear hM
  have hl2 := hl.add (t := 0) (hl.add (t := 3) (hl.nil) rfl) rfl; clear hl; have hl := hl2; clear hl2
  rw [show C _ 41 = _ from clone_machine kx W.ck W.cv W.cp W.steps] at hh
  refine then_normal ?_
  refine c_seq ?_
  refine c_draw [(k20, C (arrL 27 (encK ⟨.pointer (some ⟨kx, 0, none⟩), fun _ => .nilIface, W.ck, W.cv, W.cp, .slice none 0 0, W.steps⟩)) 41), (kb, C (arrL 27 (encK (KOf b q (.slice (some ⟨lb, 0, none⟩) W.log.length cap) W))) 41)] [10, 11, 12] mixed hh ?_
  clear hh w; intro w hh
  have hM : Mem [(k20, C (arrL 27 (encK ⟨.pointer (some ⟨kx, 0, none⟩), fun _ => .nilIface, W.ck, W.cv, W.cp, .slice none 0 0, W.steps⟩)) 41), (kb, C (arrL 27 (encK (KOf b q (.slice (some ⟨lb, 0, none⟩) W.log.length cap) W))) 41)] w := (by repeat (first | exact Mem.nil | refine Mem.consR hh (by assumption) (by simp) ?_ | refine Mem.cons hh.mem (by repeat (first | exact find_head | apply find_tail)) ?_))
  refine d_take (i := 0) hl rfl (by kernel_rfl) (by kernel_rfl) (by kernel_rfl) (by kernel_rfl) (by kernel_rfl) rfl trivial (fun _ _ _ h => h) hM (fun w hC => r_move hl rfl) rfl ?_
  clear hl a; intro a hl
  refine d_take (i := 1) hl rfl (by kernel_rfl) (by kernel_rfl) (by kernel_rfl) (by kernel_rfl) (by kernel_rfl) rfl trivial (fun _ _ _ h => h) hM (fun w hC => r_move hl rfl) rfl ?_
  clear hl a; intro a hl
  refine d_take (i := 2) hl rfl (by kernel_rfl) (by kernel_rfl) (by kernel_rfl) (by kernel_rfl) (by kernel_rfl) rfl trivial (fun _ _ _ h => h) hM (fun w hC => r_nilCheck hl rfl) rfl ?_
  clear hl a; intro a hl
  refine d_take (i := 3) hl rfl (by kernel_rfl) (by kernel_rfl) (by kernel_rfl) (by kernel_rfl) (by kernel_rfl) rfl trivial (fun _ _ _ h => h) hM (fun w hC => r_field hl rfl fld41_3) rfl ?_
  clear hl a; intro a hl
  refine d_take (i := 4) hl rfl (by kernel_rfl) (by kernel_rfl) (by kernel_rfl) (by kernel_rfl) (by kernel_rfl) rfl trivial (fun _ _ _ h => h) hM (fun w hC => r_loadC hl rfl one39 hC (by repeat (first | exact find_head | apply find_tail)) (by exact kd_log _)) rfl ?_
  clear hl a; intro a hl
  try dsimp only [KOf] at hl
  refine d_take (i := 5) hl rfl (by kernel_rfl) (by kernel_rfl) (by kernel_rfl) (by kernel_rfl) (by kernel_rfl) rfl trivial (fun _ _ _ h => h) hM (fun w hC => r_move hl rfl) rfl ?_
  clear hl a; intro a hl
  refine d_take (i := 6) hl rfl (by kernel_rfl) (by kernel_rfl) (by kernel_rfl) (by kernel_rfl) (by kernel_rfl) rfl trivial (fun _ _ _ h => h) hM (fun w hC => r_nilCheck hl rfl) rfl ?_
  clear hl a; intro a hl
  refine d_take (i := 7) hl rfl (by kernel_rfl) (by kernel_rfl) (by kernel_rfl) (by kernel_rfl) (by kernel_rfl) rfl trivial (fun _ _ _ h => h) hM (fun w hC => r_field hl rfl fld41_3) rfl ?_
  clear hl a; intro a hl
  refine d_take (i := 8) hl rfl (by kernel_rfl) (by kernel_rfl) (by kernel_rfl) (by kernel_rfl) (by kernel_rfl) rfl trivial (fun _ _ _ h => h) hM (fun w hC => r_loadC hl rfl one39 hC (by repeat (first | exact find_head | apply find_tail)) (by exact kd_log _)) rfl ?_
  clear hl a; intro a hl
  try dsimp only [KOf] at hl
  refine d_one (i := 9) (by kernel_rfl) rfl ?_
  try clear hM
  refine id (w_append (news := W.log.flatMap evL) hl hh rfl trivial app39 rfl rfl rfl (Row.nil 8 56) (by repeat (first | exact keeps_nil | apply keeps_cons (by repeat (first | exact find_head | apply find_tail)) (by first  | rfl) | exact keeps_self | exact keeps_left | exact keeps_right | exact keeps_swap | apply keeps_mv)) (hh.old hlb (by simp)) (take_news _ _) (flat_len2 _) (evs_one _) h0 (by omega) (by omega) (by decide) ?_)
  clear hl hh a w; intro rv2 E2 a w hR2 hl hh
  have hh3 := hh.comm; clear hh; have hh := hh3; clear hh3
  simp only [List.cons_append, List.nil_append] at hh
  have hM : Mem [(k20, C (arrL 27 (encK ⟨.pointer (some ⟨kx, 0, none⟩), fun _ => .nilIface, W.ck, W.cv, W.cp, .slice none 0 0, W.steps⟩)) 41), (kb, C (arrL 27 (encK (KOf b q (.slice (some ⟨lb, 0, none⟩) W.log.length cap) W))) 41)] w := (by repeat (first | exact Mem.nil | refine Mem.consR hh (by assumption) (by simp) ?_ | refine Mem.cons hh.mem (by repeat (first | exact find_head | apply find_tail)) ?_))
  refine d_step (fun _ => hM) ?_
  refine d_takeL (i := 10) hl rfl (by kernel_rfl) (by kernel_rfl) (by kernel_rfl) (by kernel_rfl) (by kernel_rfl) rfl trivial (fun _ _ _ h => h) (fun w => r_nilCheck hl rfl) rfl ?_
  clear hl a; intro a hl
  refine d_takeL (i := 11) hl rfl (by kernel_rfl) (by kernel_rfl) (by kernel_rfl) (by kernel_rfl) (by kernel_rfl) rfl trivial (fun _ _ _ h => h) (fun w => r_field hl rfl fld41_3) rfl ?_
  clear hl a; intro a hl
  refine d_one (i := 12) (by kernel_rfl) rfl ?_
  try clear hM
  refine id (w_store hl hh trivial one39 rfl rfl (by repeat (first | exact find_head | apply find_tail)) (by rw [arrL_length]; decide) (by first | rfl | assumption | (apply Row.one; assumption)) (by exact kt_log _ _) ?_)
  clear hh w; intro w hh
  refine d_step (fun h => absurd h (by decide)) ?_
  refine d_done (by kernel_rfl) ?_
  try clear hM
  have hl2 := hl.add (t := 0) (hl.add (t := 3) (hl.nil) rfl) rfl; clear hl; have hl := hl2; clear hl2
  rw [KC_zero kx _ W (fun _ => 0)] at hh
  refine then_normal ?_
  refine c_seq ?_
  refine c_seq ?_
  refine c_region ?_
  refine wl (wl_val hl rfl trivial (r_move hl rfl) ?_)
  clear hl a; intro a hl
  refine wl (wl_val hl rfl trivial (r_nilCheck hl rfl) ?_)
  clear hl a; intro a hl
  refine wl (wl_val hl rfl trivial (r_field hl rfl fld41_1) ?_)
  clear hl a; intro a hl
  first | refine wl (w_loadA hl hh rfl trivial agg33 rfl (by repeat (first | exact find_head | apply find_tail)) (by exact kd_runs _) (by rw [arrL_length]) ?_) | refine wl (w_loadRA hl hh rfl trivial agg33 rfl hkb (by simp) (kd_runs _) (by rw [arrL_length]) ?_)
  clear hl a; intro a hl
  try dsimp only [KOf] at hl
  refine wl (wl_val hl rfl trivial (r_move hl rfl) ?_)
  clear hl a; intro a hl
  refine w_nil ?_
  have hl2 := hl.add (t := 3) (hl.add (t := 36) (hl.add (t := 37) (hl.nil) rfl) rfl) rfl; clear hl; have hl := hl2; clear hl2
  refine then_normal ?_
  refine wp_block ?_
  obtain ⟨KS0, hKS0, hk⟩ := (hl.add (t := 3) (hl.add (t := 36) (hl.nil) rfl) rfl).name
  obtain ⟨HS0, hHS0, hh2⟩ := hh.nameT (A := [(k20, C (arrL 27 (encK (KC kx rv2 W (fun _ => 0) 0))) 41)]) (U := []) (keeps_cons (b := k20) (o' := C (arrL 27 (encK (KC kx rv2 W (fun _ => 0) 0))) 41) (by repeat (first | exact find_head | apply find_tail)) (by first | rfl) ((by repeat (first | exact keeps_nil | exact keeps_self | exact keeps_swap | apply keeps_mv))))
  refine c_loop (α := CS) (fun s => 6 - s.i) (fun s a w => (CI W s) ∧ Sl 52 ([(37, .int .i64 s.i)] ++ KS0) a ∧ Has _ w0 ([(k20, C (arrL 27 (encK (KC kx rv2 W s.q s.i))) 41)] ++ (HS0 ++ s.X)) w) ⟨0, fun _ => 0, []⟩ ⟨⟨Nat.zero_le _, List.Perm.refl _⟩, hl.addE (t := 37) (hk) rfl (by first | rfl), hh2⟩ ?_
  clear hk hh2 hl hh a w
  intro s a w hI
  obtain ⟨hC, hl, hh⟩ := hI
  subst hKS0; subst hHS0
  simp only [List.cons_append, List.nil_append, List.append_nil] at hl hh
  refine c_seq ?_
  refine c_region ?_
  refine wl (wl_val hl rfl trivial (r_lss hl rfl rfl) ?_)
  clear hl a; intro a hl
  refine w_nil ?_
  have hl2 := hl.add (t := 3) (hl.add (t := 36) (hl.add (t := 37) (hl.add (t := 38) (hl.nil) rfl) rfl) rfl) rfl; clear hl; have hl := hl2; clear hl2
  refine then_normal ?_
  refine c_seq ?_
  refine c_cond hl rfl ?_ ?_
  · intro hc0
    try simp only [decide_eq_true_eq, decide_eq_false_iff_not, Bool.not_eq_true', Bool.not_eq_false', Bool.not_eq_true, Bool.not_eq_false, Bool.and_eq_true, Bool.or_eq_true, Bool.and_eq_false_iff, Bool.or_eq_false_iff, Bool.not_not, ne_eq, Int.not_lt, Int.not_le, Decidable.not_not, beq_iff_eq, bne_iff_ne] at hc0
    refine wp_skip ?_
    refine then_normal ?_
    refine c_seq ?_
    refine wp_block ?_
    refine c_seq ?_
    refine c_region ?_
    refine wl (wl_val hl rfl trivial (r_move hl rfl) ?_)
    clear hl a; intro a hl
    refine wl (wl_val hl rfl trivial (r_indexAgg hl rfl rfl arrT33 one32 (by omega) (by omega) (by first | (simp only [Int.reduceToNat]; rfl) | exact toNat_add1 _ | exact toNat_add2 _ _ | exact toNat_emod _ _ | exact Int.toNat_natCast _ | rfl) (by exact (arrL_get (by omega)))) ?_)
    clear hl a; intro a hl
    refine wl (wl_val hl rfl trivial (r_assign hl rfl) ?_)
    clear hl a; intro a hl
    refine wl (wl_val hl rfl trivial (r_assign hl rfl) ?_)
    clear hl a; intro a hl
    refine w_nil ?_
    have hl2 := hl.add (t := 3) (hl.add (t := 4) (hl.add (t := 5) (hl.add (t := 36) (hl.add (t := 37) (hl.nil) rfl) rfl) rfl) rfl) rfl; clear hl; have hl := hl2; clear hl2
    refine then_normal ?_
    refine c_seq ?_
    refine c_region ?_
    refine wl (wl_val hl rfl trivial (r_move hl rfl) ?_)
    clear hl a; intro a hl
    refine wl (wl_val hl rfl trivial (r_neqI hl rfl (rV_ifc q W.run _) ifc32) ?_)
    clear hl a; intro a hl
    refine w_nil ?_
    have hl2 := hl.add (t := 3) (hl.add (t := 4) (hl.add (t := 5) (hl.add (t := 36) (hl.add (t := 37) (hl.add (t := 42) (hl.nil) rfl) rfl) rfl) rfl) rfl) rfl; clear hl; have hl := hl2; clear hl2
    refine then_normal ?_
    refine c_cond hl rfl ?_ ?_
    · intro hc1
      try simp only [decide_eq_true_eq, decide_eq_false_iff_not, Bool.not_eq_true', Bool.not_eq_false', Bool.not_eq_true, Bool.not_eq_false, Bool.and_eq_true, Bool.or_eq_true, Bool.and_eq_false_iff, Bool.or_eq_false_iff, Bool.not_not, ne_eq, Int.not_lt, Int.not_le, Decidable.not_not, beq_iff_eq, bne_iff_ne] at hc1
      obtain ⟨x, hx⟩ : ∃ x, W.run s.i = some x := Option.isSome_iff_exists.1 (by rw [← rV_is q]; simpa using hc1)
      rw [show rV q W.run (s.i * 1) = .iface 129 (.pointer (some ⟨q s.i, 0, none⟩)) by (rw [Nat.mul_one]; unfold rV; rw [hx])] at hl
      refine c_draw [] [6, 7] mixed hh ?_
      clear hh w; intro w hh
      have hM : Mem [] w := Mem.nil
      refine d_take (i := 0) hl rfl (by kernel_rfl) (by kernel_rfl) (by kernel_rfl) (by kernel_rfl) (by kernel_rfl) rfl trivial (fun _ _ _ h => h) hM (fun w hC => r_move hl rfl) rfl ?_
      clear hl a; intro a hl
      refine d_take (i := 1) hl rfl (by kernel_rfl) (by kernel_rfl) (by kernel_rfl) (by kernel_rfl) (by kernel_rfl) rfl trivial (fun _ _ _ h => h) hM (fun w hC => r_move hl rfl) rfl ?_
      clear hl a; intro a hl
      refine d_take (i := 2) hl rfl (by kernel_rfl) (by kernel_rfl) (by kernel_rfl) (by kernel_rfl) (by kernel_rfl) rfl trivial (fun _ _ _ h => h) hM (fun w hC => r_move hl rfl) rfl ?_
      clear hl a; intro a hl
      refine d_take (i := 4) hl rfl (by kernel_rfl) (by kernel_rfl) (by kernel_rfl) (by kernel_rfl) (by kernel_rfl) rfl trivial (fun _ _ _ h => h) hM (fun w hC => r_nilCheck hl rfl) rfl ?_
      clear hl a; intro a hl
      refine d_take (i := 5) hl rfl (by kernel_rfl) (by kernel_rfl) (by kernel_rfl) (by kernel_rfl) (by kernel_rfl) rfl trivial (fun _ _ _ h => h) hM (fun w hC => r_field hl rfl fld41_1) rfl ?_
      clear hl a; intro a hl
      refine d_one (i := 3) (by kernel_rfl) rfl ?_
      try clear hM
      refine id (w_callI hl hh rfl trivial rfl meth129_Clone cal89 rfl (progClone_spec (q s.i) x.2) (by repeat (first | exact keeps_nil | apply keeps_cons (by repeat (first | exact find_head | apply find_tail)) (by first  | rfl) | exact keeps_self | exact keeps_left | exact keeps_right | exact keeps_swap | apply keeps_mv)) (hh.old (hpre.1.p s.i x (by omega) hx) (by simp)) ?_)
      clear hl hh a w; intro vc Fc a w hR hl hh
      obtain ⟨kn, rfl, rfl⟩ := hR
      try simp only [List.cons_append, List.nil_append] at hh
      obtain ⟨nq, hnq⟩ : ∃ z, z = updF s.q s.i kn := ⟨_, rfl⟩
      obtain ⟨nX, hnX⟩ : ∃ z, z = (kn, C (arrL 37 (encP x.2)) 137) :: s.X := ⟨_, rfl⟩
      have hCN : CI W ⟨s.i + 1, nq, nX⟩ := by rw [hnq, hnX]; exact hC.busy (by omega) hx kn
      have hM : Mem [] w := Mem.nil
      refine d_step (fun _ => hM) ?_
      refine d_takeL (i := 6) hl rfl (by kernel_rfl) (by kernel_rfl) (by kernel_rfl) (by kernel_rfl) (by kernel_rfl) rfl trivial (fun _ _ _ h => h) (fun w => r_indexA hl rfl rfl arr33 (by omega) (by omega) (by first | (simp only [Int.reduceToNat]; rfl) | exact toNat_add1 _ | exact toNat_add2 _ _ | exact toNat_emod _ _ | exact Int.toNat_natCast _ | rfl)) rfl ?_
      clear hl a; intro a hl
      refine d_one (i := 7) (by kernel_rfl) rfl ?_
      try clear hM
      refine id (w_store hl hh trivial one32 rfl rfl (by repeat (first | exact find_head | apply find_tail)) (by rw [arrL_length]; omega) (by first | rfl | assumption | (apply Row.one; assumption)) (by exact kt_run _ _ _ (by omega)) ?_)
      clear hh w; intro w hh
      refine d_step (fun h => absurd h (by decide)) ?_
      refine d_done (by kernel_rfl) ?_
      try clear hM
      have hl2 := hl.add (t := 3) (hl.add (t := 36) (hl.add (t := 37) (hl.nil) rfl) rfl) rfl; clear hl; have hl := hl2; clear hl2
      refine blk_normal ?_
      refine then_normal ?_
      refine c_region ?_
      first | refine wl (wl_val hl rfl trivial (r_add hl rfl rfl (by simp only [Fits]; omega)) ?_) | refine wl (wl_val hl rfl trivial (r_addW hl rfl rfl) ?_)
      clear hl a; intro a hl
      refine wl (wl_val hl rfl trivial (r_move hl rfl) ?_)
      clear hl a; intro a hl
      refine w_nil ?_
      have hl2 := hl.add (t := 3) (hl.add (t := 36) (hl.add (t := 37) (hl.nil) rfl) rfl) rfl; clear hl; have hl := hl2; clear hl2
      refine then_normal ?_
      first | rw [hKC, ← hnq] at hh | rw [KC_busy hx, ← hnq] at hh
      refine ⟨⟨s.i + 1, nq, nX⟩, (by show 6 - (s.i + 1) < 6 - s.i; omega), hCN, hl.addE (t := 37) (hl.addE (t := 3) (hl.addE (t := 36) (hl.nil) rfl (by first | rfl | rfl)) rfl (by first | rfl | rfl)) rfl (by first | rfl | rfl), (by simp only [List.cons_append, List.nil_append, List.append_nil, List.append_assoc]; rw [hnX]; first | exact hh | exact hh.perm (List.Perm.cons _ ((List.Perm.swap _ _ _).trans (List.Perm.cons _ List.perm_middle.symm))) | exact hh.perm (List.Perm.cons _ (List.Perm.swap _ _ _)))⟩
    · intro hc1
      try simp only [decide_eq_true_eq, decide_eq_false_iff_not, Bool.not_eq_true', Bool.not_eq_false', Bool.not_eq_true, Bool.not_eq_false, Bool.and_eq_true, Bool.or_eq_true, Bool.and_eq_false_iff, Bool.or_eq_false_iff, Bool.not_not, ne_eq, Int.not_lt, Int.not_le, Decidable.not_not, beq_iff_eq, bne_iff_ne] at hc1
      have hx : W.run s.i = none := by simpa using (show (W.run s.i).isSome = false by (rw [← rV_is q]; simpa using hc1))
      have hKC := KC_idle (b2 := kx) (lv2 := rv2) (q2 := s.q) hx
      obtain ⟨nq, hnq⟩ : ∃ z, z = s.q := ⟨_, rfl⟩
      obtain ⟨nX, hnX⟩ : ∃ z, z = s.X := ⟨_, rfl⟩
      have hCN : CI W ⟨s.i + 1, nq, nX⟩ := by rw [hnq, hnX]; exact hC.idle (by omega) hx
      refine wp_skip ?_
      refine blk_normal ?_
      refine then_normal ?_
      refine c_region ?_
      first | refine wl (wl_val hl rfl trivial (r_add hl rfl rfl (by simp only [Fits]; omega)) ?_) | refine wl (wl_val hl rfl trivial (r_addW hl rfl rfl) ?_)
      clear hl a; intro a hl
      refine wl (wl_val hl rfl trivial (r_move hl rfl) ?_)
      clear hl a; intro a hl
      refine w_nil ?_
      have hl2 := hl.add (t := 3) (hl.add (t := 36) (hl.add (t := 37) (hl.nil) rfl) rfl) rfl; clear hl; have hl := hl2; clear hl2
      refine then_normal ?_
      first | rw [hKC, ← hnq] at hh | rw [KC_busy hx, ← hnq] at hh
      refine ⟨⟨s.i + 1, nq, nX⟩, (by show 6 - (s.i + 1) < 6 - s.i; omega), hCN, hl.addE (t := 37) (hl.addE (t := 3) (hl.addE (t := 36) (hl.nil) rfl (by first | rfl | rfl)) rfl (by first | rfl | rfl)) rfl (by first | rfl | rfl), (by simp only [List.cons_append, List.nil_append, List.append_nil, List.append_assoc]; rw [hnX]; first | exact hh | exact hh.perm (List.Perm.cons _ ((List.Perm.swap _ _ _).trans (List.Perm.cons _ List.perm_middle.symm))) | exact hh.perm (List.Perm.cons _ (List.Perm.swap _ _ _)))⟩
  · intro hc0
    try simp only [decide_eq_true_eq, decide_eq_false_iff_not, Bool.not_eq_true', Bool.not_eq_false', Bool.not_eq_true, Bool.not_eq_false, Bool.and_eq_true, Bool.or_eq_true, Bool.and_eq_false_iff, Bool.or_eq_false_iff, Bool.not_not, ne_eq, Int.not_lt, Int.not_le, Decidable.not_not, beq_iff_eq, bne_iff_ne] at hc0
    have hs6 : s.i = 6 := by have := hC.i; omega
    refine wp_exit ?_
    refine then_exit ?_
    refine then_exit ?_
    refine blk_exit ?_
    refine then_normal ?_
    refine c_seq ?_
    refine c_region ?_
    refine wl (wl_val hl rfl trivial (r_move hl rfl) ?_)
    clear hl a; intro a hl
    refine wl (wl_val hl rfl trivial (r_assign hl rfl) ?_)
    clear hl a; intro a hl
    refine w_nil ?_
    have hl2 := hl.add (t := 2) (hl.nil) rfl; clear hl; have hl := hl2; clear hl2
    refine then_normal ?_
    refine wp_ret ?_
    obtain ⟨i6, q6, X6⟩ := s
    simp only at hs6 hC hh
    subst hs6
    refine f_ret1 (F' := (k20, C (arrL 27 (encK (KC kx rv2 W q6 6))) 41) :: (kx, C (arrL 16391 (encM W.m)) 75) :: (E2 ++ X6)) hl hh rfl rfl (by repeat (first | exact keeps_nil | apply keeps_cons (by repeat (first | exact find_head | apply find_tail)) (by first  | rfl) | exact keeps_self | exact keeps_left | exact keeps_right | exact keeps_swap | apply keeps_mv)) ?_
    exact ⟨kx, k20, q6, X6, _, E2, rfl, hC, (by simpa using hR2), rfl⟩

theorem lies_of {b kb : Nat} {W : WS} {q : Nat → Nat} {lv : Value} {E ey : List (Nat × Obj)} {w : World} (hm : Mem ((kb, C (arrL 27 (encK (KOf b q lv W))) 41) :: (b, C (arrL 16391 (encM W.m)) 75) :: (E ++ (progs q W.run ++ ey))) w) : Lies b kb W q lv w :=
  ⟨hm _ _ (by simp), hm _ _ (by simp), fun t x ht hx => hm _ _ (by
    have h1 : (q t, C (arrL 37 (encP x.2)) 137) ∈ progs q W.run := by
      unfold progs
      rw [List.mem_flatMap]
      exact ⟨t, List.mem_range.2 ht, by rw [pB_some _ _ _ _ hx]; exact List.mem_cons_self ..⟩
    exact List.mem_cons_of_mem _ (List.mem_cons_of_mem _ (List.mem_append_right _ (List.mem_append_left _ h1))))⟩
/-- a clone of the machine, and the original is only read -/
theorem mclone_spec (b kb : Nat) (W : WS) (ey F : List (Nat × Obj)) (h : Wd b kb W ey F) (hL : W.log.length ≤ 1000000) : SpK Try.prog 33 #[.pointer (some ⟨kb, 0, none⟩)] (Mem F) [] (fun v F' => ∃ b2 kb2, v = .pointer (some ⟨kb2, 0, none⟩) ∧ Wd b2 kb2 W [] F') := by
  obtain ⟨q, lv, E, hrow, rfl⟩ := h
  have fin : ∀ {p : SpK Try.prog 33 #[.pointer (some ⟨kb, 0, none⟩)] (Mem ((kb, C (arrL 27 (encK (KOf b q lv W))) 41) :: (b, C (arrL 16391 (encM W.m)) 75) :: (E ++ (progs q W.run ++ ey)))) [] (fun v F' => ∃ b2 kb2 q2 X lv2 E2, v = .pointer (some ⟨kb2, 0, none⟩) ∧ CI W ⟨6, q2, X⟩ ∧ Row lv2 W.log.length (W.log.flatMap evL) 8 56 E2 ∧ F' = (kb2, C (arrL 27 (encK (KC b2 lv2 W q2 6))) 41) :: (b2, C (arrL 16391 (encM W.m)) 75) :: (E2 ++ X))},
      SpK Try.prog 33 #[.pointer (some ⟨kb, 0, none⟩)] (Mem ((kb, C (arrL 27 (encK (KOf b q lv W))) 41) :: (b, C (arrL 16391 (encM W.m)) 75) :: (E ++ (progs q W.run ++ ey)))) [] (fun v F' => ∃ b2 kb2, v = .pointer (some ⟨kb2, 0, none⟩) ∧ Wd b2 kb2 W [] F') := fun {p} => by
    intro w hp hm hn
    refine (p w hp hm hn).mono fun e w' he => ?_
    cases e with
    | returned v =>
      obtain ⟨F', ⟨b2, kb2, q2, X, lv2, E2, rfl, hC, hr, hF⟩, hh⟩ := he
      obtain ⟨F2, hw, hpm⟩ := hC.wd (b2 := b2) (kb2 := kb2) rfl hr hF
      exact ⟨F2, ⟨b2, kb2, rfl, hw⟩, hh.perm hpm⟩
    | panicked c => exact he.elim
    | outgrown => exact he.elim
  rcases Nat.eq_zero_or_pos W.log.length with h0 | h0
  · have hnil : W.log = [] := List.length_eq_zero_iff.1 h0
    have hlv : ∃ p cap, lv = .slice p 0 cap := by
      rcases hrow with ⟨r1, r2, r3, r4⟩ | ⟨lb, cap, junk, r1, _⟩
      · exact ⟨none, 0, r1⟩
      · exact ⟨_, cap, by rw [r1, h0]⟩
    obtain ⟨p, cap, rfl⟩ := hlv
    exact fin (p := spk_weak (mclone0 b kb W q p cap hnil) (fun w hm => lies_of hm) (fun _ _ r => r))
  · rcases hrow with ⟨r1, r2, r3, r4⟩ | ⟨lb, cap, junk, r1, r2, r3, r4, r5⟩
    · omega
    · subst r1; subst r5
      exact fin (p := spk_weak (mclone1 b kb W q lb cap junk h0 hL) (fun w hm => ⟨lies_of hm, hm _ _ (by simp)⟩) (fun _ _ r => r))
end Go.Proofs.Qxb6500914a

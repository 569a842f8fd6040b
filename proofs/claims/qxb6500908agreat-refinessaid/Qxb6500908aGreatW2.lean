import Derived.Test.Qxb6500908aGreatW1
namespace Go.Proofs.Qxb6500908aGreat
open Go.Eng
set_option linter.unusedVariables false
set_option linter.unusedSimpArgs false
theorem fld91_0 : fieldOk Tryz.prog 91 0 0 = true := by kernel_rfl
theorem cal27 : callable Tryz.prog 27 = true := by kernel_rfl
theorem fld91_1 : fieldOk Tryz.prog 91 1 70 = true := by kernel_rfl
theorem fld91_2 : fieldOk Tryz.prog 91 2 71 = true := by kernel_rfl
theorem fld91_3 : fieldOk Tryz.prog 91 3 72 = true := by kernel_rfl
theorem fld91_4 : fieldOk Tryz.prog 91 4 73 = true := by kernel_rfl
/-! ## the ledger -/
structure LdP where
  d : StP
  dn : Bool
  fl : Bool
  fu : Int
  kp : Bool
structure LdV where
  d : StV
  dn : Bool
  fl : Bool
  fu : Int
  kp : Bool
def LdV.pl (l : LdV) : LdP := ⟨l.d.pl, l.dn, l.fl, l.fu, l.kp⟩
def LdV.c (l : LdV) : List Value := l.d.c ++ [.bool l.dn, .bool l.fl, .int .i64 l.fu, .bool l.kp]
def LdV.F (b : Nat) (l : LdV) : List (Nat × Obj) := (b, C l.c 91) :: l.d.E
structure LdV.ok (Z : List (Nat × Obj)) (l : LdV) : Prop where
  d : l.d.ok Z
  fu : 0 ≤ l.fu ∧ l.fu ≤ 9223372036854775807
theorem ldc_len (l : LdV) : l.c.length = 74 := by unfold LdV.c; rw [List.length_append, stc_len]; rfl
theorem ldc_st (l : LdV) : (l.c.drop 0).take 70 = l.d.c := by
  unfold LdV.c; rw [List.drop_zero, List.take_append_of_le_length (by rw [stc_len]; omega), ← stc_len l.d, List.take_length]
theorem ldc_at (l : LdV) (j : Nat) : l.c[70 + j]? = [Value.bool l.dn, .bool l.fl, .int .i64 l.fu, .bool l.kp][j]? := get_app9 (stc_len _)
theorem ldc_dn (l : LdV) : l.c[0 + 70]? = some (.bool l.dn) := ldc_at l 0
theorem ldc_fl (l : LdV) : l.c[0 + 71]? = some (.bool l.fl) := ldc_at l 1
theorem ldc_fu (l : LdV) : l.c[0 + 72]? = some (.int .i64 l.fu) := ldc_at l 2
theorem ldc_kp (l : LdV) : l.c[0 + 73]? = some (.bool l.kp) := ldc_at l 3
theorem ldc_sst (l : LdV) (s : StV) : setL l.c 0 s.c = LdV.c { l with d := s } := set_front (by rw [stc_len, stc_len])
theorem ldc_sdn (l : LdV) (b : Bool) : setL l.c (0 + 70) [.bool b] = LdV.c { l with dn := b } := set_app9 (n := 70) (j := 0) (stc_len _)
theorem ldc_sfl (l : LdV) (b : Bool) : setL l.c (0 + 71) [.bool b] = LdV.c { l with fl := b } := set_app9 (n := 70) (j := 1) (stc_len _)
theorem ldc_sfu (l : LdV) (x : Int) : setL l.c (0 + 72) [.int .i64 x] = LdV.c { l with fu := x } := set_app9 (n := 70) (j := 2) (stc_len _)
theorem ldc_skp (l : LdV) (b : Bool) : setL l.c (0 + 73) [.bool b] = LdV.c { l with kp := b } := set_app9 (n := 70) (j := 3) (stc_len _)
def errV (e : Nat) : Value := if e = 0 then .nilIface else .iface 105 (.int .u8 (e : Int))
/-- a transaction -/
def storeP (l : LdP) (s : StP) : LdP × Nat :=
  if l.dn then (l, 2)
  else if 0 < l.fu then (if l.fu - 1 = 0 then ({ l with fu := 0, d := if l.kp then s else l.d, dn := true }, 2) else ({ l with fu := l.fu - 1, d := s }, 0))
  else ({ l with d := s }, 0)
def admitP (l : LdP) (s : StP) : LdP × Nat := if l.dn then (l, 2) else if l.fl then (l, 1) else storeP l s
theorem storeP_b (l : LdP) (s : StP) : (storeP l s).2 = 0 ∨ (storeP l s).2 = 2 := by
  unfold storeP; split
  · exact .inr rfl
  · split
    · split
      · exact .inr rfl
      · exact .inl rfl
    · exact .inl rfl
theorem LdV.ok.app {Z G : List (Nat × Obj)} {l : LdV} (h : l.ok Z) : l.ok (Z ++ G) := ⟨h.d.app, h.fu⟩
theorem sp_dn {l : LdP} {s : StP} (h : l.dn = true) : storeP l s = (l, 2) := by unfold storeP; rw [if_pos h]
theorem sp_k {l : LdP} {s : StP} (h : l.dn = false) (h1 : 0 < l.fu) (h2 : l.fu - 1 = 0) (h3 : l.kp = true) : storeP l s = (⟨s, true, l.fl, 0, l.kp⟩, 2) := by
  unfold storeP; rw [if_neg (by rw [h]; simp), if_pos h1, if_pos h2, h3]; rfl
theorem sp_n {l : LdP} {s : StP} (h : l.dn = false) (h1 : 0 < l.fu) (h2 : l.fu - 1 = 0) (h3 : l.kp = false) : storeP l s = (⟨l.d, true, l.fl, 0, l.kp⟩, 2) := by
  unfold storeP; rw [if_neg (by rw [h]; simp), if_pos h1, if_pos h2, h3]; rfl
theorem sp_f {l : LdP} {s : StP} (h : l.dn = false) (h1 : 0 < l.fu) (h2 : ¬ l.fu - 1 = 0) : storeP l s = (⟨s, l.dn, l.fl, l.fu - 1, l.kp⟩, 0) := by
  unfold storeP; rw [if_neg (by rw [h]; simp), if_pos h1, if_neg h2]
theorem sp_0 {l : LdP} {s : StP} (h : l.dn = false) (h1 : ¬ 0 < l.fu) : storeP l s = (⟨s, l.dn, l.fl, l.fu, l.kp⟩, 0) := by
  unfold storeP; rw [if_neg (by rw [h]; simp), if_neg h1]
/-- what a transaction leaves -/
structure StO (Z : List (Nat × Obj)) (lb : Nat) (s : StV) (r : LdP × Nat) (v : Value) (F' : List (Nat × Obj)) : Prop where
  ex : ∃ l' : LdV, l'.ok Z ∧ l'.pl = r.1 ∧ v = errV r.2 ∧ F' = LdV.F lb l' ++ s.E


attribute [local irreducible] NtV.k StV.c LdV.c StV.E

set_option maxHeartbeats 4000000 in
theorem durable_spec (Z : List (Nat × Obj)) (lb : Nat) (l : LdV) (hl9 : l.ok Z) : Sp Tryz.prog 13 #[.pointer (some ⟨lb, 0, none⟩)] (LdV.F lb l) (fun v F' => ∃ s' : StV, s'.ok Z ∧ s'.pl = l.d.pl ∧ v = .agg ⟨s'.c⟩ ∧ F' = s'.E ++ LdV.F lb l) := by
  refine f_enter (args := [.pointer (some ⟨lb, 0, none⟩)]) Tryz.func13 rfl Tryz.ntmps13 rfl ?_
  intro w0 w a hpre hl hh
  have hfu := hl9.fu
  generalize hDD : List.map Prod.fst (LdV.F lb l) = D at hh ⊢
  simp only [LdV.F] at hh
  simp only [slotsFrom, Nat.reduceAdd] at hl
  refine c_seq ?_
  refine c_region ?_
  refine wl (w_alloc hl hh rfl trivial zero89 rfl ?_)
  clear hl hh a w; intro k2 a w hl hh
  refine w_nil ?_
  have hl2 := hl.add (t := 0) (hl.add (t := 2) (hl.nil) rfl) rfl; clear hl; have hl := hl2; clear hl2
  refine then_normal ?_
  refine c_seq ?_
  refine c_region ?_
  refine wl (wl_val hl rfl trivial (r_move hl rfl) ?_)
  clear hl a; intro a hl
  refine wl (wl_val hl rfl trivial (r_nilCheck hl rfl) ?_)
  clear hl a; intro a hl
  refine wl (wl_val hl rfl trivial (r_field hl rfl fld91_0) ?_)
  clear hl a; intro a hl
  refine wl (w_loadA hl hh rfl trivial agg89 rfl (by repeat (first | exact find_head | apply find_tail | apply find_skip)) (by first | exact ldc_st _ | exact stc_all _) (by first | exact stc_len _) ?_)
  clear hl a; intro a hl
  refine wl (w_call hl hh rfl trivial rfl cal27 rfl (cln_spec Z l.d hl9.d) (by repeat (first | exact keeps_nil | apply keeps_cons (by repeat (first | exact find_head | apply find_tail | apply find_skip)) (by first  | rfl) | exact keeps_self | exact keeps_left | apply keeps_app | apply keeps_mv | apply keeps_skip)) trivial ?_)
  clear hl hh a w; intro vc Fc a w hR hl hh
  obtain ⟨s', hs', hp', rfl, rfl⟩ := hR
  try simp only [List.cons_append, List.nil_append, List.append_assoc, List.append_nil] at hh
  try simp only [List.append_assoc] at hh
  refine wl (w_storeA hl hh trivial agg89 rfl rfl (by repeat (first | exact find_head | apply find_tail | apply find_skip)) (by first | exact stc_len _) (by first | exact Nat.le_refl 70 | (rw [ldc_len]; omega)) (by exact stc_one _) (by first | exact ldc_sst _ _ | exact setL_all (show 70 = _ from (stc_len _).symm)) ?_)
  clear hh w; intro w hh
  refine w_nil ?_
  have hl2 := hl.add (t := 2) (hl.nil) rfl; clear hl; have hl := hl2; clear hl2
  refine then_normal ?_
  refine wp_ret ?_
  refine f_retC (F' := s'.E ++ ((lb, C l.c 91) :: l.d.E)) hl hh rfl rfl agg89 (by repeat (first | exact find_head | apply find_tail | apply find_skip)) (by first | rfl | exact arrL_length _ _ | exact stc_len _ | (simp; done)) (by repeat (first | exact keeps_nil | apply keeps_cons (by repeat (first | exact find_head | apply find_tail | apply find_skip)) (by first  | rfl) | exact keeps_self | exact keeps_left | apply keeps_app | apply keeps_mv | apply keeps_skip)) ?_
  exact ⟨s', hs', hp', rfl, rfl⟩

set_option maxHeartbeats 4000000 in
theorem reboot_spec (Z : List (Nat × Obj)) (lb : Nat) (l : LdV) (hl9 : l.ok Z) : Sp Tryz.prog 14 #[.pointer (some ⟨lb, 0, none⟩)] (LdV.F lb l) (fun v F' => v = .tuple #[] ∧ F' = LdV.F lb { l with dn := false }) := by
  refine f_enter (args := [.pointer (some ⟨lb, 0, none⟩)]) Tryz.func14 rfl Tryz.ntmps14 rfl ?_
  intro w0 w a hpre hl hh
  have hfu := hl9.fu
  generalize hDD : List.map Prod.fst (LdV.F lb l) = D at hh ⊢
  simp only [LdV.F] at hh
  simp only [slotsFrom, Nat.reduceAdd] at hl
  refine c_region ?_
  refine wl (wl_val hl rfl trivial (r_move hl rfl) ?_)
  clear hl a; intro a hl
  refine wl (wl_val hl rfl trivial (r_nilCheck hl rfl) ?_)
  clear hl a; intro a hl
  refine wl (wl_val hl rfl trivial (r_field hl rfl fld91_1) ?_)
  clear hl a; intro a hl
  refine wl (w_store hl hh trivial one4 rfl rfl (by repeat (first | exact find_head | apply find_tail | apply find_skip)) (by first | (simp; done) | (simp; omega) | (rw [ldc_len]; omega) | (rw [ldc_len]; simp; done)) (by first | rfl | assumption | (apply Row.one; assumption)) (by first | exact ldc_sdn _ _ | exact ldc_sfl _ _ | exact ldc_sfu _ _ | exact ldc_skp _ _ | (simp only [setL, List.getElem?_cons_zero, List.getElem?_cons_succ, Value.cells, List.take_zero, List.take_succ_cons, List.take_nil, List.drop_zero, List.drop_succ_cons, List.drop_nil, List.length_cons, List.length_nil, List.cons_append, List.nil_append, List.append_nil, Nat.zero_add, Nat.add_zero, Nat.reduceAdd, Nat.reduceBEq, Nat.reduceEqDiff, Nat.ble, BEq.rfl, Bool.and_true, Bool.and_self, cond_true, beq_self_eq_true]; rfl)) ?_)
  clear hh w; intro w hh
  refine w_nil ?_
  have hl2 := hl.nil; clear hl; have hl := hl2; clear hl2
  refine f_end0 (F' := (lb, C (LdV.c { l with dn := false }) 91) :: l.d.E) hl hh rfl (by repeat (first | exact keeps_nil | apply keeps_cons (by repeat (first | exact find_head | apply find_tail | apply find_skip)) (by first  | rfl) | exact keeps_self | exact keeps_left | apply keeps_app | apply keeps_mv | apply keeps_skip)) ?_
  exact ⟨rfl, rfl⟩

set_option maxHeartbeats 4000000 in
theorem full_spec (Z : List (Nat × Obj)) (lb : Nat) (l : LdV) (hl9 : l.ok Z) (b : Bool) : Sp Tryz.prog 25 #[.pointer (some ⟨lb, 0, none⟩), .bool b] (LdV.F lb l) (fun v F' => v = .tuple #[] ∧ F' = LdV.F lb { l with fl := b }) := by
  refine f_enter (args := [.pointer (some ⟨lb, 0, none⟩), .bool b]) Tryz.func25 rfl Tryz.ntmps25 rfl ?_
  intro w0 w a hpre hl hh
  have hfu := hl9.fu
  generalize hDD : List.map Prod.fst (LdV.F lb l) = D at hh ⊢
  simp only [LdV.F] at hh
  simp only [slotsFrom, Nat.reduceAdd] at hl
  refine c_region ?_
  refine wl (wl_val hl rfl trivial (r_move hl rfl) ?_)
  clear hl a; intro a hl
  refine wl (wl_val hl rfl trivial (r_move hl rfl) ?_)
  clear hl a; intro a hl
  refine wl (wl_val hl rfl trivial (r_nilCheck hl rfl) ?_)
  clear hl a; intro a hl
  refine wl (wl_val hl rfl trivial (r_field hl rfl fld91_2) ?_)
  clear hl a; intro a hl
  refine wl (w_store hl hh trivial one4 rfl rfl (by repeat (first | exact find_head | apply find_tail | apply find_skip)) (by first | (simp; done) | (simp; omega) | (rw [ldc_len]; omega) | (rw [ldc_len]; simp; done)) (by first | rfl | assumption | (apply Row.one; assumption)) (by first | exact ldc_sdn _ _ | exact ldc_sfl _ _ | exact ldc_sfu _ _ | exact ldc_skp _ _ | (simp only [setL, List.getElem?_cons_zero, List.getElem?_cons_succ, Value.cells, List.take_zero, List.take_succ_cons, List.take_nil, List.drop_zero, List.drop_succ_cons, List.drop_nil, List.length_cons, List.length_nil, List.cons_append, List.nil_append, List.append_nil, Nat.zero_add, Nat.add_zero, Nat.reduceAdd, Nat.reduceBEq, Nat.reduceEqDiff, Nat.ble, BEq.rfl, Bool.and_true, Bool.and_self, cond_true, beq_self_eq_true]; rfl)) ?_)
  clear hh w; intro w hh
  refine w_nil ?_
  have hl2 := hl.nil; clear hl; have hl := hl2; clear hl2
  refine f_end0 (F' := (lb, C (LdV.c { l with fl := b }) 91) :: l.d.E) hl hh rfl (by repeat (first | exact keeps_nil | apply keeps_cons (by repeat (first | exact find_head | apply find_tail | apply find_skip)) (by first  | rfl) | exact keeps_self | exact keeps_left | apply keeps_app | apply keeps_mv | apply keeps_skip)) ?_
  exact ⟨rfl, rfl⟩

set_option maxHeartbeats 4000000 in
theorem crash_spec (Z : List (Nat × Obj)) (lb : Nat) (l : LdV) (hl9 : l.ok Z) : Sp Tryz.prog 26 #[.pointer (some ⟨lb, 0, none⟩)] (LdV.F lb l) (fun v F' => v = .tuple #[] ∧ F' = LdV.F lb { l with dn := true, fu := 0 }) := by
  refine f_enter (args := [.pointer (some ⟨lb, 0, none⟩)]) Tryz.func26 rfl Tryz.ntmps26 rfl ?_
  intro w0 w a hpre hl hh
  have hfu := hl9.fu
  generalize hDD : List.map Prod.fst (LdV.F lb l) = D at hh ⊢
  simp only [LdV.F] at hh
  simp only [slotsFrom, Nat.reduceAdd] at hl
  refine c_seq ?_
  refine c_region ?_
  refine wl (wl_val hl rfl trivial (r_move hl rfl) ?_)
  clear hl a; intro a hl
  refine wl (wl_val hl rfl trivial (r_nilCheck hl rfl) ?_)
  clear hl a; intro a hl
  refine wl (wl_val hl rfl trivial (r_field hl rfl fld91_1) ?_)
  clear hl a; intro a hl
  refine wl (w_store hl hh trivial one4 rfl rfl (by repeat (first | exact find_head | apply find_tail | apply find_skip)) (by first | (simp; done) | (simp; omega) | (rw [ldc_len]; omega) | (rw [ldc_len]; simp; done)) (by first | rfl | assumption | (apply Row.one; assumption)) (by first | exact ldc_sdn _ _ | exact ldc_sfl _ _ | exact ldc_sfu _ _ | exact ldc_skp _ _ | (simp only [setL, List.getElem?_cons_zero, List.getElem?_cons_succ, Value.cells, List.take_zero, List.take_succ_cons, List.take_nil, List.drop_zero, List.drop_succ_cons, List.drop_nil, List.length_cons, List.length_nil, List.cons_append, List.nil_append, List.append_nil, Nat.zero_add, Nat.add_zero, Nat.reduceAdd, Nat.reduceBEq, Nat.reduceEqDiff, Nat.ble, BEq.rfl, Bool.and_true, Bool.and_self, cond_true, beq_self_eq_true]; rfl)) ?_)
  clear hh w; intro w hh
  refine w_nil ?_
  have hl2 := hl.add (t := 0) (hl.nil) rfl; clear hl; have hl := hl2; clear hl2
  refine then_normal ?_
  refine c_region ?_
  refine wl (wl_val hl rfl trivial (r_move hl rfl) ?_)
  clear hl a; intro a hl
  refine wl (wl_val hl rfl trivial (r_nilCheck hl rfl) ?_)
  clear hl a; intro a hl
  refine wl (wl_val hl rfl trivial (r_field hl rfl fld91_3) ?_)
  clear hl a; intro a hl
  refine wl (w_store hl hh trivial one3 rfl rfl (by repeat (first | exact find_head | apply find_tail | apply find_skip)) (by first | (simp; done) | (simp; omega) | (rw [ldc_len]; omega) | (rw [ldc_len]; simp; done)) (by first | rfl | assumption | (apply Row.one; assumption)) (by first | exact ldc_sdn _ _ | exact ldc_sfl _ _ | exact ldc_sfu _ _ | exact ldc_skp _ _ | (simp only [setL, List.getElem?_cons_zero, List.getElem?_cons_succ, Value.cells, List.take_zero, List.take_succ_cons, List.take_nil, List.drop_zero, List.drop_succ_cons, List.drop_nil, List.length_cons, List.length_nil, List.cons_append, List.nil_append, List.append_nil, Nat.zero_add, Nat.add_zero, Nat.reduceAdd, Nat.reduceBEq, Nat.reduceEqDiff, Nat.ble, BEq.rfl, Bool.and_true, Bool.and_self, cond_true, beq_self_eq_true]; rfl)) ?_)
  clear hh w; intro w hh
  refine w_nil ?_
  have hl2 := hl.nil; clear hl; have hl := hl2; clear hl2
  refine f_end0 (F' := (lb, C (LdV.c { l with dn := true, fu := 0 }) 91) :: l.d.E) hl hh rfl (by repeat (first | exact keeps_nil | apply keeps_cons (by repeat (first | exact find_head | apply find_tail | apply find_skip)) (by first  | rfl) | exact keeps_self | exact keeps_left | apply keeps_app | apply keeps_mv | apply keeps_skip)) ?_
  exact ⟨rfl, rfl⟩

set_option maxHeartbeats 4000000 in
theorem arm_spec (Z : List (Nat × Obj)) (lb : Nat) (l : LdV) (hl9 : l.ok Z) (x : Int) (hx : x ≤ 9223372036854775807) (b : Bool) : Sp Tryz.prog 24 #[.pointer (some ⟨lb, 0, none⟩), .int .i64 x, .bool b] (LdV.F lb l) (fun v F' => v = .tuple #[] ∧ F' = LdV.F lb { l with fu := if 0 < x then x else 0, kp := b }) := by
  refine f_enter (args := [.pointer (some ⟨lb, 0, none⟩), .int .i64 x, .bool b]) Tryz.func24 rfl Tryz.ntmps24 rfl ?_
  intro w0 w a hpre hl hh
  have hfu := hl9.fu
  generalize hDD : List.map Prod.fst (LdV.F lb l) = D at hh ⊢
  simp only [LdV.F] at hh
  simp only [slotsFrom, Nat.reduceAdd] at hl
  refine c_seq ?_
  refine c_region ?_
  refine wl (wl_val hl rfl trivial (r_move hl rfl) ?_)
  clear hl a; intro a hl
  refine wl (wl_val hl rfl trivial (r_nilCheck hl rfl) ?_)
  clear hl a; intro a hl
  refine wl (wl_val hl rfl trivial (r_field hl rfl fld91_3) ?_)
  clear hl a; intro a hl
  refine wl (w_store hl hh trivial one3 rfl rfl (by repeat (first | exact find_head | apply find_tail | apply find_skip)) (by first | (simp; done) | (simp; omega) | (rw [ldc_len]; omega) | (rw [ldc_len]; simp; done)) (by first | rfl | assumption | (apply Row.one; assumption)) (by first | exact ldc_sdn _ _ | exact ldc_sfl _ _ | exact ldc_sfu _ _ | exact ldc_skp _ _ | (simp only [setL, List.getElem?_cons_zero, List.getElem?_cons_succ, Value.cells, List.take_zero, List.take_succ_cons, List.take_nil, List.drop_zero, List.drop_succ_cons, List.drop_nil, List.length_cons, List.length_nil, List.cons_append, List.nil_append, List.append_nil, Nat.zero_add, Nat.add_zero, Nat.reduceAdd, Nat.reduceBEq, Nat.reduceEqDiff, Nat.ble, BEq.rfl, Bool.and_true, Bool.and_self, cond_true, beq_self_eq_true]; rfl)) ?_)
  clear hh w; intro w hh
  refine w_nil ?_
  have hl2 := hl.add (t := 0) (hl.add (t := 1) (hl.add (t := 2) (hl.nil) rfl) rfl) rfl; clear hl; have hl := hl2; clear hl2
  refine then_normal ?_
  refine c_seq ?_
  refine c_seq ?_
  refine c_region ?_
  refine wl (wl_val hl rfl trivial (r_move hl rfl) ?_)
  clear hl a; intro a hl
  refine wl (wl_val hl rfl trivial (r_gtr hl rfl rfl) ?_)
  clear hl a; intro a hl
  refine w_nil ?_
  have hl2 := hl.add (t := 0) (hl.add (t := 1) (hl.add (t := 2) (hl.add (t := 10) (hl.nil) rfl) rfl) rfl) rfl; clear hl; have hl := hl2; clear hl2
  refine then_normal ?_
  refine c_cond hl rfl ?_ ?_
  · intro hc0
    try simp only [decide_eq_true_eq, decide_eq_false_iff_not, Bool.not_eq_true', Bool.not_eq_false', Bool.not_eq_true, Bool.not_eq_false, Bool.and_eq_true, Bool.or_eq_true, Bool.and_eq_false_iff, Bool.or_eq_false_iff, Bool.not_not, ne_eq, Int.not_lt, Int.not_le, Decidable.not_not, beq_iff_eq, bne_iff_ne] at hc0
    have hif : (if 0 < x then x else 0) = x := if_pos (by omega)
    refine c_region ?_
    refine wl (wl_val hl rfl trivial (r_move hl rfl) ?_)
    clear hl a; intro a hl
    refine wl (wl_val hl rfl trivial (r_move hl rfl) ?_)
    clear hl a; intro a hl
    refine wl (wl_val hl rfl trivial (r_nilCheck hl rfl) ?_)
    clear hl a; intro a hl
    refine wl (wl_val hl rfl trivial (r_field hl rfl fld91_3) ?_)
    clear hl a; intro a hl
    refine wl (w_store hl hh trivial one3 rfl rfl (by repeat (first | exact find_head | apply find_tail | apply find_skip)) (by first | (simp; done) | (simp; omega) | (rw [ldc_len]; omega) | (rw [ldc_len]; simp; done)) (by first | rfl | assumption | (apply Row.one; assumption)) (by first | exact ldc_sdn _ _ | exact ldc_sfl _ _ | exact ldc_sfu _ _ | exact ldc_skp _ _ | (simp only [setL, List.getElem?_cons_zero, List.getElem?_cons_succ, Value.cells, List.take_zero, List.take_succ_cons, List.take_nil, List.drop_zero, List.drop_succ_cons, List.drop_nil, List.length_cons, List.length_nil, List.cons_append, List.nil_append, List.append_nil, Nat.zero_add, Nat.add_zero, Nat.reduceAdd, Nat.reduceBEq, Nat.reduceEqDiff, Nat.ble, BEq.rfl, Bool.and_true, Bool.and_self, cond_true, beq_self_eq_true]; rfl)) ?_)
    clear hh w; intro w hh
    refine w_nil ?_
    have hl2 := hl.add (t := 0) (hl.add (t := 2) (hl.nil) rfl) rfl; clear hl; have hl := hl2; clear hl2
    refine then_normal ?_
    refine c_region ?_
    refine wl (wl_val hl rfl trivial (r_move hl rfl) ?_)
    clear hl a; intro a hl
    refine wl (wl_val hl rfl trivial (r_move hl rfl) ?_)
    clear hl a; intro a hl
    refine wl (wl_val hl rfl trivial (r_nilCheck hl rfl) ?_)
    clear hl a; intro a hl
    refine wl (wl_val hl rfl trivial (r_field hl rfl fld91_4) ?_)
    clear hl a; intro a hl
    refine wl (w_store hl hh trivial one4 rfl rfl (by repeat (first | exact find_head | apply find_tail | apply find_skip)) (by first | (simp; done) | (simp; omega) | (rw [ldc_len]; omega) | (rw [ldc_len]; simp; done)) (by first | rfl | assumption | (apply Row.one; assumption)) (by first | exact ldc_sdn _ _ | exact ldc_sfl _ _ | exact ldc_sfu _ _ | exact ldc_skp _ _ | (simp only [setL, List.getElem?_cons_zero, List.getElem?_cons_succ, Value.cells, List.take_zero, List.take_succ_cons, List.take_nil, List.drop_zero, List.drop_succ_cons, List.drop_nil, List.length_cons, List.length_nil, List.cons_append, List.nil_append, List.append_nil, Nat.zero_add, Nat.add_zero, Nat.reduceAdd, Nat.reduceBEq, Nat.reduceEqDiff, Nat.ble, BEq.rfl, Bool.and_true, Bool.and_self, cond_true, beq_self_eq_true]; rfl)) ?_)
    clear hh w; intro w hh
    refine w_nil ?_
    have hl2 := hl.nil; clear hl; have hl := hl2; clear hl2
    refine f_end0 (F' := (lb, C (LdV.c { l with fu := if 0 < x then x else 0, kp := b }) 91) :: l.d.E) hl hh rfl (by repeat (first | exact keeps_nil | apply keeps_cons (by repeat (first | exact find_head | apply find_tail | apply find_skip)) (by first  | (rw [hif]; done) | rfl) | exact keeps_self | exact keeps_left | apply keeps_app | apply keeps_mv | apply keeps_skip)) ?_
    exact ⟨rfl, rfl⟩
  · intro hc0
    try simp only [decide_eq_true_eq, decide_eq_false_iff_not, Bool.not_eq_true', Bool.not_eq_false', Bool.not_eq_true, Bool.not_eq_false, Bool.and_eq_true, Bool.or_eq_true, Bool.and_eq_false_iff, Bool.or_eq_false_iff, Bool.not_not, ne_eq, Int.not_lt, Int.not_le, Decidable.not_not, beq_iff_eq, bne_iff_ne] at hc0
    have hif : (if 0 < x then x else 0) = 0 := if_neg (by omega)
    refine wp_skip ?_
    refine then_normal ?_
    refine c_region ?_
    refine wl (wl_val hl rfl trivial (r_move hl rfl) ?_)
    clear hl a; intro a hl
    refine wl (wl_val hl rfl trivial (r_move hl rfl) ?_)
    clear hl a; intro a hl
    refine wl (wl_val hl rfl trivial (r_nilCheck hl rfl) ?_)
    clear hl a; intro a hl
    refine wl (wl_val hl rfl trivial (r_field hl rfl fld91_4) ?_)
    clear hl a; intro a hl
    refine wl (w_store hl hh trivial one4 rfl rfl (by repeat (first | exact find_head | apply find_tail | apply find_skip)) (by first | (simp; done) | (simp; omega) | (rw [ldc_len]; omega) | (rw [ldc_len]; simp; done)) (by first | rfl | assumption | (apply Row.one; assumption)) (by first | exact ldc_sdn _ _ | exact ldc_sfl _ _ | exact ldc_sfu _ _ | exact ldc_skp _ _ | (simp only [setL, List.getElem?_cons_zero, List.getElem?_cons_succ, Value.cells, List.take_zero, List.take_succ_cons, List.take_nil, List.drop_zero, List.drop_succ_cons, List.drop_nil, List.length_cons, List.length_nil, List.cons_append, List.nil_append, List.append_nil, Nat.zero_add, Nat.add_zero, Nat.reduceAdd, Nat.reduceBEq, Nat.reduceEqDiff, Nat.ble, BEq.rfl, Bool.and_true, Bool.and_self, cond_true, beq_self_eq_true]; rfl)) ?_)
    clear hh w; intro w hh
    refine w_nil ?_
    have hl2 := hl.nil; clear hl; have hl := hl2; clear hl2
    refine f_end0 (F' := (lb, C (LdV.c { l with fu := if 0 < x then x else 0, kp := b }) 91) :: l.d.E) hl hh rfl (by repeat (first | exact keeps_nil | apply keeps_cons (by repeat (first | exact find_head | apply find_tail | apply find_skip)) (by first  | (rw [hif]; done) | rfl) | exact keeps_self | exact keeps_left | apply keeps_app | apply keeps_mv | apply keeps_skip)) ?_
    exact ⟨rfl, rfl⟩

set_option maxHeartbeats 4000000 in
theorem load_spec (Z : List (Nat × Obj)) (lb : Nat) (l : LdV) (hl9 : l.ok Z) (hd : l.dn = false) : Sp Tryz.prog 28 #[.pointer (some ⟨lb, 0, none⟩)] (LdV.F lb l) (fun v F' => ∃ s' : StV, s'.ok Z ∧ s'.pl = l.d.pl ∧ v = .tuple #[.agg ⟨s'.c⟩, .nilIface] ∧ F' = s'.E ++ LdV.F lb l) := by
  refine f_enter (args := [.pointer (some ⟨lb, 0, none⟩)]) Tryz.func28 rfl Tryz.ntmps28 rfl ?_
  intro w0 w a hpre hl hh
  have hfu := hl9.fu
  generalize hDD : List.map Prod.fst (LdV.F lb l) = D at hh ⊢
  simp only [LdV.F] at hh
  rw [show l = ⟨l.d, false, l.fl, l.fu, l.kp⟩ by rw [← hd]] at hh
  simp only [slotsFrom, Nat.reduceAdd] at hl
  refine c_seq ?_
  refine c_region ?_
  refine wl (w_alloc hl hh rfl trivial zero89 rfl ?_)
  clear hl hh a w; intro k2 a w hl hh
  refine wl (wl_val hl rfl trivial (r_assign hl rfl) ?_)
  clear hl a; intro a hl
  refine w_nil ?_
  have hl2 := hl.add (t := 0) (hl.add (t := 2) (hl.nil) rfl) rfl; clear hl; have hl := hl2; clear hl2
  refine then_normal ?_
  refine c_seq ?_
  refine c_seq ?_
  refine c_region ?_
  refine wl (wl_val hl rfl trivial (r_move hl rfl) ?_)
  clear hl a; intro a hl
  refine wl (wl_val hl rfl trivial (r_nilCheck hl rfl) ?_)
  clear hl a; intro a hl
  refine wl (wl_val hl rfl trivial (r_field hl rfl fld91_1) ?_)
  clear hl a; intro a hl
  refine wl (w_load hl hh rfl trivial one4 rfl (by repeat (first | exact find_head | apply find_tail | apply find_skip)) (by first | exact ldc_dn _ | exact ldc_fl _ | exact ldc_fu _ | exact ldc_kp _ | rfl) ?_)
  clear hl a; intro a hl
  refine w_nil ?_
  have hl2 := hl.add (t := 0) (hl.add (t := 2) (hl.add (t := 7) (hl.nil) rfl) rfl) rfl; clear hl; have hl := hl2; clear hl2
  refine then_normal ?_
  refine c_cond hl rfl ?_ ?_
  · intro hc0
    try simp only [decide_eq_true_eq, decide_eq_false_iff_not, Bool.not_eq_true', Bool.not_eq_false', Bool.not_eq_true, Bool.not_eq_false, Bool.and_eq_true, Bool.or_eq_true, Bool.and_eq_false_iff, Bool.or_eq_false_iff, Bool.not_not, ne_eq, Int.not_lt, Int.not_le, Decidable.not_not, beq_iff_eq, bne_iff_ne] at hc0
    exfalso; simp at hc0
  · intro hc0
    try simp only [decide_eq_true_eq, decide_eq_false_iff_not, Bool.not_eq_true', Bool.not_eq_false', Bool.not_eq_true, Bool.not_eq_false, Bool.and_eq_true, Bool.or_eq_true, Bool.and_eq_false_iff, Bool.or_eq_false_iff, Bool.not_not, ne_eq, Int.not_lt, Int.not_le, Decidable.not_not, beq_iff_eq, bne_iff_ne] at hc0
    refine wp_skip ?_
    refine then_normal ?_
    refine c_seq ?_
    refine c_region ?_
    refine wl (wl_val hl rfl trivial (r_move hl rfl) ?_)
    clear hl a; intro a hl
    refine wl (wl_val hl rfl trivial (r_nilCheck hl rfl) ?_)
    clear hl a; intro a hl
    refine wl (wl_val hl rfl trivial (r_field hl rfl fld91_0) ?_)
    clear hl a; intro a hl
    refine wl (w_loadA hl hh rfl trivial agg89 rfl (by repeat (first | exact find_head | apply find_tail | apply find_skip)) (by first | exact ldc_st _ | exact stc_all _) (by first | exact stc_len _) ?_)
    clear hl a; intro a hl
    refine wl (w_call hl hh rfl trivial rfl cal27 rfl (cln_spec Z l.d hl9.d) (by repeat (first | exact keeps_nil | apply keeps_cons (by repeat (first | exact find_head | apply find_tail | apply find_skip)) (by first  | rfl) | exact keeps_self | exact keeps_left | apply keeps_app | apply keeps_mv | apply keeps_skip)) trivial ?_)
    clear hl hh a w; intro vc Fc a w hR hl hh
    obtain ⟨s', hs', hp', rfl, rfl⟩ := hR
    try simp only [List.cons_append, List.nil_append, List.append_assoc, List.append_nil] at hh
    try simp only [List.append_assoc] at hh
    refine wl (w_storeA hl hh trivial agg89 rfl rfl (by repeat (first | exact find_head | apply find_tail | apply find_skip)) (by first | exact stc_len _) (by first | exact Nat.le_refl 70 | (rw [ldc_len]; omega)) (by exact stc_one _) (by first | exact ldc_sst _ _ | exact setL_all (show 70 = _ from (stc_len _).symm)) ?_)
    clear hh w; intro w hh
    refine wl (wl_val hl rfl trivial (r_assign hl rfl) ?_)
    clear hl a; intro a hl
    refine w_nil ?_
    have hl2 := hl.add (t := 2) (hl.add (t := 3) (hl.nil) rfl) rfl; clear hl; have hl := hl2; clear hl2
    refine then_normal ?_
    refine wp_ret ?_
    refine f_retCT (F' := s'.E ++ ((lb, C (LdV.c ⟨l.d, false, l.fl, l.fu, l.kp⟩) 91) :: l.d.E)) hl hh rfl rfl agg89 (by repeat (first | exact find_head | apply find_tail | apply find_skip)) (by first | rfl | exact arrL_length _ _ | exact stc_len _ | (simp; done)) rfl (by repeat (first | exact keeps_nil | apply keeps_cons (by repeat (first | exact find_head | apply find_tail | apply find_skip)) (by first  | rfl) | exact keeps_self | exact keeps_left | apply keeps_app | apply keeps_mv | apply keeps_skip)) ?_
    exact ⟨s', hs', hp', rfl, by unfold LdV.F; rw [← hd]⟩
end Go.Proofs.Qxb6500908aGreat

import Derived.Test.Qxb6500908aGreatW23
namespace Go.Proofs.Qxb6500908aGreat
open Go.Eng
set_option linter.unusedVariables false
set_option linter.unusedSimpArgs false
theorem bld89 : buildOk Tryz.prog 89 [(0, 1), (1, 1), (2, 1), (3, 66), (69, 1)] = true := by kernel_rfl
theorem zero91 : zeroOk Tryz.prog 91 (.agg #[(.int .u32 0), (.slice none 0 0), (.slice none 0 0), (.int .u32 0), (.int .u8 0), (.slice none 0 0), (.slice none 0 0), (.int .u16 0), (.slice none 0 0), (.slice none 0 0), (.int .u16 0), (.slice none 0 0), (.slice none 0 0), (.int .u16 0), (.slice none 0 0), (.slice none 0 0), (.int .u16 0), (.slice none 0 0), (.slice none 0 0), (.int .u16 0), (.slice none 0 0), (.slice none 0 0), (.int .u16 0), (.slice none 0 0), (.slice none 0 0), (.int .u16 0), (.slice none 0 0), (.slice none 0 0), (.int .u16 0), (.slice none 0 0), (.slice none 0 0), (.int .u16 0), (.slice none 0 0), (.slice none 0 0), (.int .u16 0), (.slice none 0 0), (.slice none 0 0), (.int .u16 0), (.slice none 0 0), (.slice none 0 0), (.int .u16 0), (.slice none 0 0), (.slice none 0 0), (.int .u16 0), (.slice none 0 0), (.slice none 0 0), (.int .u16 0), (.slice none 0 0), (.slice none 0 0), (.int .u16 0), (.slice none 0 0), (.slice none 0 0), (.int .u16 0), (.int .u16 0), (.int .u16 0), (.int .u16 0), (.int .u16 0), (.int .u16 0), (.int .u16 0), (.int .u16 0), (.int .u16 0), (.int .u16 0), (.int .u16 0), (.int .u16 0), (.int .u16 0), (.int .u16 0), (.int .u16 0), (.int .u16 0), (.int .u16 0), (.map none), (.bool false), (.bool false), (.int .i64 0), (.bool false)]) := by unfold zeroOk; kernel_rfl
theorem bld91 : buildOk Tryz.prog 91 [(0, 70), (70, 1), (71, 1), (72, 1), (73, 1)] = true := by kernel_rfl
theorem zero94 : zeroOk Tryz.prog 94 (.agg #[(.int .u8 0), (.int .u32 0), (.int .u32 0), (.string ⟨#[]⟩), (.int .u32 0), (.string ⟨#[]⟩), (.map none), (.bool false)]) := by unfold zeroOk; kernel_rfl
theorem bld94 : buildOk Tryz.prog 94 [(0, 1), (1, 1), (2, 1), (3, 1), (4, 1), (5, 1), (6, 1), (7, 1)] = true := by kernel_rfl
theorem fill48z {p : Option Addr} {c : Nat} {vb : Nat} : fillL [(0, 1), (1, 1), (2, 1), (3, 66), (69, 1)] [(.int .u32 0), (.slice none 0 0), (.slice none 0 0), (.int .u32 0), (.int .u8 0), (.slice none 0 0), (.slice none 0 0), (.int .u16 0), (.slice none 0 0), (.slice none 0 0), (.int .u16 0), (.slice none 0 0), (.slice none 0 0), (.int .u16 0), (.slice none 0 0), (.slice none 0 0), (.int .u16 0), (.slice none 0 0), (.slice none 0 0), (.int .u16 0), (.slice none 0 0), (.slice none 0 0), (.int .u16 0), (.slice none 0 0), (.slice none 0 0), (.int .u16 0), (.slice none 0 0), (.slice none 0 0), (.int .u16 0), (.slice none 0 0), (.slice none 0 0), (.int .u16 0), (.slice none 0 0), (.slice none 0 0), (.int .u16 0), (.slice none 0 0), (.slice none 0 0), (.int .u16 0), (.slice none 0 0), (.slice none 0 0), (.int .u16 0), (.slice none 0 0), (.slice none 0 0), (.int .u16 0), (.slice none 0 0), (.slice none 0 0), (.int .u16 0), (.slice none 0 0), (.slice none 0 0), (.int .u16 0), (.slice none 0 0), (.slice none 0 0), (.int .u16 0), (.int .u16 0), (.int .u16 0), (.int .u16 0), (.int .u16 0), (.int .u16 0), (.int .u16 0), (.int .u16 0), (.int .u16 0), (.int .u16 0), (.int .u16 0), (.int .u16 0), (.int .u16 0), (.int .u16 0), (.int .u16 0), (.int .u16 0), (.int .u16 0), (.map none)] [(1, .slice p 1 c), (4, .map (some vb))] = some (StV.c (st0 vb p c [])) := rfl
theorem fill95z {s : StV} : fillL [(0, 70), (70, 1), (71, 1), (72, 1), (73, 1)] [(.int .u32 0), (.slice none 0 0), (.slice none 0 0), (.int .u32 0), (.int .u8 0), (.slice none 0 0), (.slice none 0 0), (.int .u16 0), (.slice none 0 0), (.slice none 0 0), (.int .u16 0), (.slice none 0 0), (.slice none 0 0), (.int .u16 0), (.slice none 0 0), (.slice none 0 0), (.int .u16 0), (.slice none 0 0), (.slice none 0 0), (.int .u16 0), (.slice none 0 0), (.slice none 0 0), (.int .u16 0), (.slice none 0 0), (.slice none 0 0), (.int .u16 0), (.slice none 0 0), (.slice none 0 0), (.int .u16 0), (.slice none 0 0), (.slice none 0 0), (.int .u16 0), (.slice none 0 0), (.slice none 0 0), (.int .u16 0), (.slice none 0 0), (.slice none 0 0), (.int .u16 0), (.slice none 0 0), (.slice none 0 0), (.int .u16 0), (.slice none 0 0), (.slice none 0 0), (.int .u16 0), (.slice none 0 0), (.slice none 0 0), (.int .u16 0), (.slice none 0 0), (.slice none 0 0), (.int .u16 0), (.slice none 0 0), (.slice none 0 0), (.int .u16 0), (.int .u16 0), (.int .u16 0), (.int .u16 0), (.int .u16 0), (.int .u16 0), (.int .u16 0), (.int .u16 0), (.int .u16 0), (.int .u16 0), (.int .u16 0), (.int .u16 0), (.int .u16 0), (.int .u16 0), (.int .u16 0), (.int .u16 0), (.int .u16 0), (.map none), (.bool false), (.bool false), (.int .i64 0), (.bool false)] [(0, .agg ⟨s.c⟩)] = some (LdV.c ⟨s, false, false, 0, false⟩) := by
  rw [show ([(.int .u32 0), (.slice none 0 0), (.slice none 0 0), (.int .u32 0), (.int .u8 0), (.slice none 0 0), (.slice none 0 0), (.int .u16 0), (.slice none 0 0), (.slice none 0 0), (.int .u16 0), (.slice none 0 0), (.slice none 0 0), (.int .u16 0), (.slice none 0 0), (.slice none 0 0), (.int .u16 0), (.slice none 0 0), (.slice none 0 0), (.int .u16 0), (.slice none 0 0), (.slice none 0 0), (.int .u16 0), (.slice none 0 0), (.slice none 0 0), (.int .u16 0), (.slice none 0 0), (.slice none 0 0), (.int .u16 0), (.slice none 0 0), (.slice none 0 0), (.int .u16 0), (.slice none 0 0), (.slice none 0 0), (.int .u16 0), (.slice none 0 0), (.slice none 0 0), (.int .u16 0), (.slice none 0 0), (.slice none 0 0), (.int .u16 0), (.slice none 0 0), (.slice none 0 0), (.int .u16 0), (.slice none 0 0), (.slice none 0 0), (.int .u16 0), (.slice none 0 0), (.slice none 0 0), (.int .u16 0), (.slice none 0 0), (.slice none 0 0), (.int .u16 0), (.int .u16 0), (.int .u16 0), (.int .u16 0), (.int .u16 0), (.int .u16 0), (.int .u16 0), (.int .u16 0), (.int .u16 0), (.int .u16 0), (.int .u16 0), (.int .u16 0), (.int .u16 0), (.int .u16 0), (.int .u16 0), (.int .u16 0), (.int .u16 0), (.map none), (.bool false), (.bool false), (.int .i64 0), (.bool false)] : List Value) = z48 ++ [.bool false, .bool false, .int .i64 0, .bool false] from rfl, fillS _ _ 0 0 70 (.agg ⟨s.c⟩) _ rfl (stc_len s) (by rw [List.length_append]; show 0 + 70 ≤ 70 + 4; omega)]
  rw [show (Value.agg ⟨s.c⟩).cells.toList = s.c from rfl, set_front (by rw [stc_len]; rfl)]
  rfl
theorem ldc_one (l : LdV) : l.c.all (·.oneCell') = true := by
  unfold LdV.c
  rw [List.all_append, stc_one]
  rfl
theorem ldc_all (l : LdV) : (l.c.drop 0).take 74 = l.c := by rw [List.drop_zero, ← ldc_len l, List.take_length]
theorem fl93 : ([(.int .u32 0), (.slice none 0 0), (.slice none 0 0), (.int .u16 0), (.slice none 0 0), (.slice none 0 0), (.int .u16 0), (.slice none 0 0), (.slice none 0 0), (.int .u16 0), (.slice none 0 0), (.slice none 0 0), (.int .u16 0), (.slice none 0 0), (.slice none 0 0), (.int .u16 0), (.slice none 0 0), (.slice none 0 0), (.int .u16 0), (.slice none 0 0), (.slice none 0 0), (.int .u16 0), (.slice none 0 0), (.slice none 0 0), (.int .u16 0), (.slice none 0 0), (.slice none 0 0), (.int .u16 0), (.slice none 0 0), (.slice none 0 0), (.int .u16 0), (.slice none 0 0), (.slice none 0 0), (.int .u16 0), (.slice none 0 0), (.slice none 0 0), (.int .u16 0), (.slice none 0 0), (.slice none 0 0), (.int .u16 0), (.slice none 0 0), (.slice none 0 0), (.int .u16 0), (.slice none 0 0), (.slice none 0 0), (.int .u16 0), (.slice none 0 0), (.slice none 0 0), (.int .u16 0), (.int .u16 0), (.int .u16 0), (.int .u16 0), (.int .u16 0), (.int .u16 0), (.int .u16 0), (.int .u16 0), (.int .u16 0), (.int .u16 0), (.int .u16 0), (.int .u16 0), (.int .u16 0), (.int .u16 0), (.int .u16 0), (.int .u16 0), (.int .u16 0)] : List Value) = vrc ⟨0, nt0⟩ := rfl
theorem st0_ok (Z : List (Nat × Obj)) {p : Option Addr} {c vb : Nat} {E : List (Nat × Obj)} (hR : Row (.slice p 1 c) 1 (vrc ⟨0, nt0⟩) 65 84 E) : (st0 vb p c E).ok Z := ⟨by simp [st0], by show Row (.slice p 1 c) 1 (fl vrc [⟨0, nt0⟩]) 65 84 E; rw [fl_sing]; exact hR, fun x hx => by rw [List.mem_singleton.1 hx]; exact ⟨nt0_ok Z, by simp⟩, by simp [st0], by simp [st0], Row.nil _ _, fun x hx => (by cases hx), Nat.zero_le _, by simp [st0], by simp [st0], nt0_ok Z, fun i v h => (by cases h), List.nodup_nil⟩
theorem ldc_vE (vb : Nat) (p : Option Addr) (c : Nat) (E : List (Nat × Obj)) : LdV.c ⟨st0 vb p c [], false, false, 0, false⟩ = LdV.c ⟨st0 vb p c E, false, false, 0, false⟩ := rfl

attribute [local irreducible] NtV.k StV.c LdV.c StV.E GtV.c GtV.t

set_option maxHeartbeats 4000000 in
theorem lnew_spec (Z : List (Nat × Obj)) : Sp Tryz.prog 7 #[] [] (fun v F' => ∃ (lb : Nat) (l : LdV), l.ok Z ∧ l.pl = lp0 ∧ v = .pointer (some ⟨lb, 0, none⟩) ∧ F' = LdV.F lb l) := by
  refine f_enter (args := []) Tryz.func7 rfl Tryz.ntmps7 rfl ?_
  intro w0 w a hpre hl hh
  simp only [slotsFrom, Nat.reduceAdd] at hl
  refine c_seq ?_
  refine c_region ?_
  refine wl (wl_val hl rfl trivial (r_assign hl rfl) ?_)
  clear hl a; intro a hl
  refine w_nil ?_
  have hl2 := hl.nil; clear hl; have hl := hl2; clear hl2
  refine then_normal ?_
  refine c_seq ?_
  refine c_region ?_
  refine wl (wl_val hl rfl trivial (r_build (cs := vrc ⟨0, nt0⟩) hl rfl zero84 bld84 (by rw [← fl93]; rfl)) ?_)
  clear hl a; intro a hl
  refine wl (w_buildSlice hl hh rfl trivial app85 zero84 rfl rfl rfl rfl rfl (fill1 rfl (vrc_len _)) ?_)
  clear hl hh a w; intro k2 a w hl hh
  refine wl (w_makeMap (kInt .u32) hl hh rfl trivial ?_)
  clear hl hh a w; intro k3 a w hl hh
  refine wl (wl_val hl rfl trivial (r_build hl rfl zero89 bld89 fill48z) ?_)
  clear hl a; intro a hl
  refine wl (wl_val hl rfl trivial (r_build hl rfl zero91 bld91 fill95z) ?_)
  clear hl a; intro a hl
  refine wl (w_box hl hh rfl trivial rfl rfl ?_)
  clear hl hh a w; intro k6 a w hl hh
  refine wl (wl_val hl rfl trivial (r_assign hl rfl) ?_)
  clear hl a; intro a hl
  refine w_nil ?_
  have hl2 := hl.add (t := 0) (hl.nil) rfl; clear hl; have hl := hl2; clear hl2
  refine then_normal ?_
  refine wp_ret ?_
  refine f_ret1 (F' := (k6, C (LdV.c ⟨st0 k3 (some ⟨k2, 0, none⟩) 1 [], false, false, 0, false⟩) 91) :: ((k2, C (vrc ⟨0, nt0⟩) 84) :: [(k3, MO (kInt .u32) [])])) hl hh rfl rfl (by repeat (first | exact keeps_nil | apply keeps_cons (by repeat (first | exact find_head | apply find_tail | apply find_skip)) (by first  | rfl) | exact keeps_self | exact keeps_left | apply keeps_app | apply keeps_mv | apply keeps_skip)) ?_
  exact ⟨k6, ⟨st0 k3 (some ⟨k2, 0, none⟩) 1 [(k2, C (vrc ⟨0, nt0⟩) 84)], false, false, 0, false⟩, ⟨st0_ok Z (.inr ⟨k2, 1, [], rfl, vrc_len _, by rw [List.append_nil]; exact vrc_len _, Nat.le_refl _, by rw [List.append_nil]⟩), by simp⟩, rfl, rfl, by unfold LdV.F; rw [StV.E_eq, ldc_vE k3 _ 1 [(k2, C (vrc ⟨0, nt0⟩) 84)]]; rfl⟩

set_option maxHeartbeats 1000000 in
theorem dnew_spec (i : Int) (t : ByteArray) (hi : 0 ≤ i ∧ i ≤ 255) : Sp Tryz.prog 8 #[.int .u8 i, .string t] [] (fun v F' => ∃ (db : Nat) (d : DeV), d.ok ∧ d.pl = ⟨i, 0, 0, t, 0, ⟨#[]⟩, fun _ => false, false⟩ ∧ v = .pointer (some ⟨db, 0, none⟩) ∧ F' = DeV.F db d) := by
  refine f_enter (args := [.int .u8 i, .string t]) Tryz.func8 rfl Tryz.ntmps8 rfl ?_
  intro w0 w a hpre hl hh
  simp only [slotsFrom, Nat.reduceAdd] at hl
  refine c_seq ?_
  refine c_region ?_
  refine wl (wl_val hl rfl trivial (r_assign hl rfl) ?_)
  clear hl a; intro a hl
  refine w_nil ?_
  have hl2 := hl.add (t := 0) (hl.add (t := 1) (hl.nil) rfl) rfl; clear hl; have hl := hl2; clear hl2
  refine then_normal ?_
  refine c_seq ?_
  refine c_region ?_
  refine wl (wl_val hl rfl trivial (r_move hl rfl) ?_)
  clear hl a; intro a hl
  refine wl (wl_val hl rfl trivial (r_move hl rfl) ?_)
  clear hl a; intro a hl
  refine wl (w_makeMap (kInt .u32) hl hh rfl trivial ?_)
  clear hl hh a w; intro k7 a w hl hh
  refine wl (wl_val hl rfl trivial (r_build hl rfl zero94 bld94 (by simp only [fillL, setL, List.getElem?_cons_zero, List.getElem?_cons_succ, Value.cells, List.take_zero, List.take_succ_cons, List.take_nil, List.drop_zero, List.drop_succ_cons, List.drop_nil, List.length_cons, List.length_nil, List.cons_append, List.nil_append, List.append_nil, Nat.zero_add, Nat.add_zero, Nat.reduceAdd, Nat.reduceBEq, Nat.reduceEqDiff, Nat.ble, BEq.rfl, Bool.and_true, Bool.and_self, cond_true, beq_self_eq_true]; rfl)) ?_)
  clear hl a; intro a hl
  refine wl (w_box hl hh rfl trivial rfl rfl ?_)
  clear hl hh a w; intro k9 a w hl hh
  refine wl (wl_val hl rfl trivial (r_assign hl rfl) ?_)
  clear hl a; intro a hl
  refine w_nil ?_
  have hl2 := hl.add (t := 4) (hl.nil) rfl; clear hl; have hl := hl2; clear hl2
  refine then_normal ?_
  refine wp_ret ?_
  refine f_ret1 (F' := [(k9, C [.int .u8 i, .int .u32 0, .int .u32 0, .string t, .int .u32 0, .string ⟨#[]⟩, .map (some k7), .bool false] 94), (k7, MO (kInt .u32) [])]) hl hh rfl rfl (by repeat (first | exact keeps_nil | apply keeps_cons (by repeat (first | exact find_head | apply find_tail | apply find_skip)) (by first  | rfl) | exact keeps_self | exact keeps_left | apply keeps_app | apply keeps_mv | apply keeps_skip)) ?_
  exact ⟨k9, ⟨i, 0, 0, t, 0, ⟨#[]⟩, k7, [], false⟩, ⟨hi, by simp, by simp, by simp, fun i v h => (by cases h)⟩, rfl, rfl, rfl⟩
end Go.Proofs.Qxb6500908aGreat

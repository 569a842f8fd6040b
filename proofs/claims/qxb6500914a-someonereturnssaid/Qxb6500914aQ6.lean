import Derived.Test.Qxb6500914aQ5
namespace Go.Proofs.Qxb6500914a
open Go.Eng
set_option linter.unusedVariables false
set_option linter.unusedSimpArgs false

attribute [local irreducible] encM encP

def ix (k : Bool) : Nat := if k then 1 else 0
theorem ix_eo (k : Bool) : 0 + 3 + ix k * 17 = eo k := by cases k <;> rfl
theorem ix_ex (n : Nat) (h : n < 2) : ∃ k : Bool, n = ix k := by
  match n, h with
  | 0, _ => exact ⟨false, rfl⟩
  | 1, _ => exact ⟨true, rfl⟩
def OS0 (wb : Nat) (c : Int) : OS := { wp := .pointer (some ⟨wb, 0, none⟩), fnd := 0, cnt := c, h0 := 0, n0 := fun _ => 0, c0 := 0, ow0 := fun _ => 0, rt0 := 0, h1 := 0, n1 := fun _ => 0, c1 := 0, ow1 := fun _ => 0, rt1 := 0, idle := 0, full := fun _ => false, empty := fun _ => false }
theorem S0_enc (wb : Nat) (m : MS) (j : Nat) (h : j < 3 ∨ 37 ≤ j) : encO0 (OS0 wb m.cnt) j = encO wb (startX m) j := by
  rcases h with h | h
  · match j, h with
    | 0, _ => unfold encO; rfl
    | 1, _ => unfold encO; rfl
    | 2, _ => unfold encO; rfl
  · unfold encO encO0 OX.os OS0 startX
    dsimp only
    simp only [if_neg (show ¬ j = 0 by omega), if_neg (show ¬ j = 1 by omega), if_neg (show ¬ j = 2 by omega), if_neg (show ¬ j = 3 by omega), if_neg (show ¬ j < 11 by omega), if_neg (show ¬ j = 11 by omega), if_neg (show ¬ j < 19 by omega), if_neg (show ¬ j = 19 by omega), if_neg (show ¬ j = 20 by omega), if_neg (show ¬ j < 28 by omega), if_neg (show ¬ j = 28 by omega), if_neg (show ¬ j < 36 by omega), if_neg (show ¬ j = 36 by omega)]
theorem en_hd (wb : Nat) (x : OX) (k : Bool) : encO wb x (eo k) = .int .u32 (hd k : Int) := Option.some.inj ((arrL_get (n := 50) (by have := eo_le k; omega)).symm.trans (lo_hd wb x k))
theorem en_nd (wb : Nat) (x : OX) (k : Bool) (i : Nat) (h : i < 7) : encO wb x (eo k + (1 + i)) = .int .u32 (nd k i : Int) := by
  have e := lo_nd wb x k i h
  rw [show eo k + 0 + 1 + i * 1 = eo k + (1 + i) by omega, arrL_get (by have := eo_le k; omega)] at e
  exact Option.some.inj e
theorem en_nc (wb : Nat) (x : OX) (k : Bool) : encO wb x (eo k + 8) = .int .i64 ((1 + 8 * wd k : Nat) : Int) := Option.some.inj ((arrL_get (n := 50) (by have := eo_le k; omega)).symm.trans (lo_nc wb x k))
theorem en_ow (wb : Nat) (x : OX) (k : Bool) (i : Nat) (h : i < 7) : encO wb x (eo k + 9 + i * 1) = .int .i64 (x.ow k i) := Option.some.inj ((arrL_get (n := 50) (by have := eo_le k; omega)).symm.trans (lo_ow wb x k i h))
theorem en_rt (wb : Nat) (x : OX) (k : Bool) : encO wb x (eo k + 16) = .int .u64 (x.rt k) := Option.some.inj ((arrL_get (n := 50) (by have := eo_le k; omega)).symm.trans (lo_rt wb x k))
theorem arrL_setN {N o : Nat} {f g : Nat → Value} {vs : List Value} (h : o + vs.length ≤ N) (hv : ∀ i, i < vs.length → vs[i]? = some (g (o + i))) : setL (arrL N f) o vs = arrL N (fun j => if o ≤ j ∧ j < o + vs.length then g j else f j) := by
  have hl := arrL_length N f
  apply List.ext_getElem?
  intro j
  unfold setL
  by_cases h1 : j < o
  · rw [List.append_assoc, List.getElem?_append_left (by simp [hl]; omega), List.getElem?_take, if_pos h1, arrL_get (by omega), arrL_get (by omega), if_neg (by omega)]
  · rw [List.append_assoc, List.getElem?_append_right (by simp [hl]; omega)]
    simp only [List.length_take, hl, Nat.min_eq_left (show o ≤ N by omega)]
    by_cases h2 : j < o + vs.length
    · rw [List.getElem?_append_left (by omega), hv (j - o) (by omega), arrL_get (by omega), if_pos (by omega), show o + (j - o) = j by omega]
    · rw [List.getElem?_append_right (by omega), List.getElem?_drop, show o + vs.length + (j - o - vs.length) = j by omega]
      by_cases h3 : j < N
      · rw [arrL_get h3, arrL_get h3, if_neg (by omega)]
      · rw [List.getElem?_eq_none (by rw [hl]; omega), List.getElem?_eq_none (by rw [arrL_length]; omega)]
/-- the observer's block while it is set up: n estates done -/
def stF (wb : Nat) (m : MS) (n : Nat) (j : Nat) : Value := if 3 ≤ j ∧ j < 3 + 17 * n then encO wb (startX m) j else encO0 (OS0 wb m.cnt) j
def stG1 (wb : Nat) (m : MS) (k : Bool) (j : Nat) : Value := if eo k ≤ j ∧ j < eo k + 9 then encO wb (startX m) j else stF wb m (ix k) j
def stG2 (wb : Nat) (m : MS) (k : Bool) (j : Nat) : Value := if j = eo k + 16 then encO wb (startX m) j else stG1 wb m k j
def stG (wb : Nat) (m : MS) (k : Bool) (t : Nat) (j : Nat) : Value := if eo k ≤ j ∧ j < eo k + 10 + t then encO wb (startX m) j else stG2 wb m k j
theorem stF_two (wb : Nat) (m : MS) : arrL 50 (stF wb m 2) = arrL 50 (encO wb (startX m)) := by
  refine arrL_congr fun j hj => ?_
  unfold stF
  by_cases h : 3 ≤ j ∧ j < 3 + 17 * 2
  · rw [if_pos h]
  · rw [if_neg h]; exact S0_enc wb m j (by omega)
theorem stF_zero (wb : Nat) (m : MS) : arrL 50 (encO0 (OS0 wb m.cnt)) = arrL 50 (stF wb m 0) := by
  refine arrL_congr fun j hj => ?_
  unfold stF
  rw [if_neg (by omega)]
theorem stG1_st (wb : Nat) (m : MS) (k : Bool) : setL (arrL 50 (stF wb m (ix k))) (eo k + 0) [.int .u32 (hd k : Int), .int .u32 (nd k 0 : Int), .int .u32 (nd k 1 : Int), .int .u32 (nd k 2 : Int), .int .u32 (nd k 3 : Int), .int .u32 (nd k 4 : Int), .int .u32 (nd k 5 : Int), .int .u32 (nd k 6 : Int), .int .i64 ((1 + 8 * wd k : Nat) : Int)] = arrL 50 (stG1 wb m k) := by
  have he := eo_le k
  rw [arrL_setN (g := encO wb (startX m)) (by show eo k + 0 + 9 ≤ 50; omega) (fun i hi => ?_)]
  · rfl
  · have hi' : i < 9 := hi
    match i, hi' with
    | 0, _ => exact congrArg some (en_hd wb _ k).symm
    | 1, _ => exact congrArg some (en_nd wb _ k 0 (by omega)).symm
    | 2, _ => exact congrArg some (en_nd wb _ k 1 (by omega)).symm
    | 3, _ => exact congrArg some (en_nd wb _ k 2 (by omega)).symm
    | 4, _ => exact congrArg some (en_nd wb _ k 3 (by omega)).symm
    | 5, _ => exact congrArg some (en_nd wb _ k 4 (by omega)).symm
    | 6, _ => exact congrArg some (en_nd wb _ k 5 (by omega)).symm
    | 7, _ => exact congrArg some (en_nd wb _ k 6 (by omega)).symm
    | 8, _ => exact congrArg some (en_nc wb _ k).symm
theorem stG2_st (wb : Nat) (m : MS) (k : Bool) : setL (arrL 50 (stG1 wb m k)) (eo k + 16) [.int .u64 (m.word (hd k))] = arrL 50 (stG2 wb m k) := by
  have he := eo_le k
  rw [arrL_set (by omega)]
  refine arrL_congr fun j hj => ?_
  unfold updV stG2
  by_cases e : j = eo k + 16
  · rw [if_pos e, if_pos e, e, en_rt]; rfl
  · rw [if_neg e, if_neg e]
theorem stG_st0 (wb : Nat) (m : MS) (k : Bool) : setL (arrL 50 (stG2 wb m k)) (eo k + 9 + 0 * 1) [.int .i64 (-1)] = arrL 50 (stG wb m k 0) := by
  have he := eo_le k
  rw [arrL_set (by omega)]
  refine arrL_congr fun j hj => ?_
  unfold updV stG
  by_cases e : j = eo k + 9 + 0 * 1
  · rw [if_pos e, if_pos (by omega), e, en_ow wb _ k 0 (by omega)]; rfl
  · rw [if_neg e]
    by_cases h : eo k ≤ j ∧ j < eo k + 10 + 0
    · rw [if_pos h]; unfold stG2 stG1; rw [if_neg (by omega), if_pos (by omega)]
    · rw [if_neg h]
theorem stG_st (wb : Nat) (m : MS) (k : Bool) (u : Nat) (hu : u < 6) : setL (arrL 50 (stG wb m k u)) (eo k + 9 + (u + 1) * 1) [.int .i64 (u : Int)] = arrL 50 (stG wb m k (u + 1)) := by
  have he := eo_le k
  rw [arrL_set (by omega)]
  refine arrL_congr fun j hj => ?_
  unfold updV stG
  by_cases e : j = eo k + 9 + (u + 1) * 1
  · rw [if_pos e, if_pos (by omega), e, en_ow wb _ k (u + 1) (by omega)]
    refine congrArg (Value.int .i64) ?_
    show (u : Int) = ((u + 1 : Nat) : Int) - 1
    omega
  · rw [if_neg e]
    by_cases h : eo k ≤ j ∧ j < eo k + 10 + u
    · rw [if_pos h, if_pos (by omega)]
    · rw [if_neg h, if_neg (by omega)]
theorem stG_end (wb : Nat) (m : MS) (k : Bool) : arrL 50 (stG wb m k 6) = arrL 50 (stF wb m (ix k + 1)) := by
  have hx := ix_eo k
  refine arrL_congr fun j hj => ?_
  unfold stG stG2 stG1 stF
  by_cases h1 : eo k ≤ j ∧ j < eo k + 10 + 6
  · rw [if_pos h1, if_pos (by omega)]
  · rw [if_neg h1]
    by_cases h2 : j = eo k + 16
    · rw [if_pos h2, if_pos (by omega)]
    · rw [if_neg h2, if_neg (by omega)]
      by_cases h3 : 3 ≤ j ∧ j < 3 + 17 * ix k
      · rw [if_pos h3, if_pos (by omega)]
      · rw [if_neg h3, if_neg (by omega)]
theorem lo_fnd (wb : Nat) (x : OX) : (arrL 50 (encO wb x))[0 + 1]? = some (.int .u64 0) := by
  unfold encO; exact ld_ofnd (x.os wb)
theorem lay_at (k : Bool) : (([.int .u32 (hd false : Int), .int .u32 (nd false 0 : Int), .int .u32 (nd false 1 : Int), .int .u32 (nd false 2 : Int), .int .u32 (nd false 3 : Int), .int .u32 (nd false 4 : Int), .int .u32 (nd false 5 : Int), .int .u32 (nd false 6 : Int), .int .i64 ((1 + 8 * wd false : Nat) : Int), .int .u32 (hd true : Int), .int .u32 (nd true 0 : Int), .int .u32 (nd true 1 : Int), .int .u32 (nd true 2 : Int), .int .u32 (nd true 3 : Int), .int .u32 (nd true 4 : Int), .int .u32 (nd true 5 : Int), .int .u32 (nd true 6 : Int), .int .i64 ((1 + 8 * wd true : Nat) : Int)] : List Value).drop (0 + ix k * 9)).take 9 = [.int .u32 (hd k : Int), .int .u32 (nd k 0 : Int), .int .u32 (nd k 1 : Int), .int .u32 (nd k 2 : Int), .int .u32 (nd k 3 : Int), .int .u32 (nd k 4 : Int), .int .u32 (nd k 5 : Int), .int .u32 (nd k 6 : Int), .int .i64 ((1 + 8 * wd k : Nat) : Int)] := by cases k <;> rfl
theorem runOut_obs (wb b kb ob : Nat) (W : WS) (x : OX) (F : List (Nat × Obj)) (hF : Wd b kb W [(ob, C (arrL 50 (encO wb x)) 86)] F) (hG : Good W x) (hL : LW W ≤ 1000000) : Sp Try.prog 14 #[.pointer (some ⟨wb, 0, none⟩), .iface 76 (.pointer (some ⟨ob, 0, none⟩))] ((wb, C [.pointer (some ⟨b, 0, none⟩), .pointer (some ⟨kb, 0, none⟩), .int .u64 ((65536 + hd false : Nat) : Int), .int .u64 ((65536 + nd false 0 : Nat) : Int), .int .u64 ((65536 + nd false 1 : Nat) : Int), .int .u64 ((65536 + nd false 2 : Nat) : Int), .int .u64 ((65536 + nd false 3 : Nat) : Int), .int .u64 ((65536 + nd false 4 : Nat) : Int), .int .u64 ((65536 + nd false 5 : Nat) : Int), .int .u64 ((65536 + nd false 6 : Nat) : Int), .int .i64 (wd false : Int), .int .u64 ((65536 + hd true : Nat) : Int), .int .u64 ((65536 + nd true 0 : Nat) : Int), .int .u64 ((65536 + nd true 1 : Nat) : Int), .int .u64 ((65536 + nd true 2 : Nat) : Int), .int .u64 ((65536 + nd true 3 : Nat) : Int), .int .u64 ((65536 + nd true 4 : Nat) : Int), .int .u64 ((65536 + nd true 5 : Nat) : Int), .int .u64 ((65536 + nd true 6 : Nat) : Int), .int .i64 (wd true : Int)] 51) :: F) (fun v F' => ∃ x3, F' = [(ob, C (arrL 50 (encO wb x3)) 86)]) := by
  refine sp_post (runOut_spec wb b kb (obsEye wb b kb ob) W x F hF hG hL) ?_
  rintro v F' ⟨_, F2, hW, rfl⟩
  obtain ⟨q, lv, E, hrow, rfl⟩ := hW
  exact ⟨_, _, ⟨((obsEye wb b kb ob).runOut 4096 W x).2, rfl⟩, perm_ob _ _ _ _ _ _⟩
structure PlO (wb b kb ob : Nat) (m : MS) (steps : List SOp) (s : SS OX) : Prop where
  n : s.n ≤ steps.length
  good : Good s.W s.x
  wd : Wd b kb s.W [(ob, C (arrL 50 (encO wb s.x)) 86)] s.F
  lw : LW s.W ≤ 2 * s.n
theorem PlO.next {wb b kb ob : Nat} {m : MS} {steps : List SOp} {s : SS OX} (h : PlO wb b kb ob m steps s) {kd th u v : Nat} (hn : s.n < steps.length) (hu : u < 18446744073709551616) (hv : v < 18446744073709551616) {F2 : List (Nat × Obj)} (hW : Wd b kb ((obsEye wb b kb ob).play s.W s.x kd th u v).1 ((obsEye wb b kb ob).ey ((obsEye wb b kb ob).play s.W s.x kd th u v).2) F2) :
    PlO wb b kb ob m steps ⟨s.n + 1, ((obsEye wb b kb ob).play s.W s.x kd th u v).1, ((obsEye wb b kb ob).play s.W s.x kd th u v).2, F2⟩ := by
  have hp := (obsEye wb b kb ob).play_good s.W s.x kd th u v (by omega) ⟨by omega, by omega⟩ ⟨by omega, by omega⟩ h.good
  exact ⟨hn, hp.1, hW, Nat.le_trans hp.2 (by have := h.lw; show LW s.W + 2 ≤ 2 * (s.n + 1); omega)⟩
theorem start_good {m : MS} (h : StartM m) : Good (W0 m) (startX m) := ⟨start_WI h, fun _ => start_OI h⟩


theorem setup0 (wb : Nat) (m : MS) : C [.pointer (some ⟨wb, 0, none⟩), .int .u64 0, .int .i64 m.cnt, .int .u32 0, .int .u32 0, .int .u32 0, .int .u32 0, .int .u32 0, .int .u32 0, .int .u32 0, .int .u32 0, .int .i64 0, .int .i64 0, .int .i64 0, .int .i64 0, .int .i64 0, .int .i64 0, .int .i64 0, .int .i64 0, .int .u64 0, .int .u32 0, .int .u32 0, .int .u32 0, .int .u32 0, .int .u32 0, .int .u32 0, .int .u32 0, .int .u32 0, .int .i64 0, .int .i64 0, .int .i64 0, .int .i64 0, .int .i64 0, .int .i64 0, .int .i64 0, .int .i64 0, .int .u64 0, .int .i64 0, .bool false, .bool false, .bool false, .bool false, .bool false, .bool false, .bool false, .bool false, .bool false, .bool false, .bool false, .bool false] 86 = C (arrL 50 (stF wb m 0)) 86 := by
  rw [← stF_zero]
  unfold arrL; rfl
end Go.Proofs.Qxb6500914a

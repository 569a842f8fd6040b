import Derived.Test.Qxb6500914aI5
namespace Go.Proofs.Qxb6500914a
open Go.Eng
set_option linter.unusedVariables false
set_option linter.unusedSimpArgs false
theorem fld86_0 : fieldOk Try.prog 86 0 0 = true := by kernel_rfl
theorem one27 : oneOk Try.prog 27 = true := by kernel_rfl
theorem fld86_3 : fieldOk Try.prog 86 3 3 = true := by kernel_rfl
theorem arr83 : arrOk Try.prog 83 2 17 = true := by kernel_rfl
theorem fld82_2 : fieldOk Try.prog 82 2 16 = true := by kernel_rfl
theorem fld82_0 : fieldOk Try.prog 82 0 0 = true := by kernel_rfl
theorem fld79_1 : fieldOk Try.prog 79 1 1 = true := by kernel_rfl
theorem arr77 : arrOk Try.prog 77 7 1 = true := by kernel_rfl
theorem fld86_5 : fieldOk Try.prog 86 5 38 = true := by kernel_rfl
theorem arr84 : arrOk Try.prog 84 6 1 = true := by kernel_rfl
theorem fld86_6 : fieldOk Try.prog 86 6 44 = true := by kernel_rfl
theorem cal85 : callable Try.prog 85 = true := by kernel_rfl
attribute [local irreducible] encM encP

structure OS where
  wp : Value
  fnd : Int
  cnt : Int
  h0 : Int
  n0 : Nat → Int
  c0 : Int
  ow0 : Nat → Int
  rt0 : Int
  h1 : Int
  n1 : Nat → Int
  c1 : Int
  ow1 : Nat → Int
  rt1 : Int
  idle : Int
  full : Nat → Bool
  empty : Nat → Bool
def encO0 (m : OS) (i : Nat) : Value := if i = 0 then m.wp else if i = 1 then .int .u64 (m.fnd) else if i = 2 then .int .i64 (m.cnt) else if i = 3 then .int .u32 (m.h0) else if i < 11 then .int .u32 (m.n0 (i - 4)) else if i = 11 then .int .i64 (m.c0) else if i < 19 then .int .i64 (m.ow0 (i - 12)) else if i = 19 then .int .u64 (m.rt0) else if i = 20 then .int .u32 (m.h1) else if i < 28 then .int .u32 (m.n1 (i - 21)) else if i = 28 then .int .i64 (m.c1) else if i < 36 then .int .i64 (m.ow1 (i - 29)) else if i = 36 then .int .u64 (m.rt1) else if i = 37 then .int .i64 (m.idle) else if i < 44 then .bool (m.full (i - 38)) else .bool (m.empty (i - 44))
def OS.s_wp (m : OS) (x : Value) : OS := { m with wp := x }
def OS.s_fnd (m : OS) (x : Int) : OS := { m with fnd := x }
def OS.s_cnt (m : OS) (x : Int) : OS := { m with cnt := x }
def OS.s_h0 (m : OS) (x : Int) : OS := { m with h0 := x }
def OS.s_n0 (m : OS) (i : Nat) (x : Int) : OS := { m with n0 := updF m.n0 i x }
def OS.s_c0 (m : OS) (x : Int) : OS := { m with c0 := x }
def OS.s_ow0 (m : OS) (i : Nat) (x : Int) : OS := { m with ow0 := updF m.ow0 i x }
def OS.s_rt0 (m : OS) (x : Int) : OS := { m with rt0 := x }
def OS.s_h1 (m : OS) (x : Int) : OS := { m with h1 := x }
def OS.s_n1 (m : OS) (i : Nat) (x : Int) : OS := { m with n1 := updF m.n1 i x }
def OS.s_c1 (m : OS) (x : Int) : OS := { m with c1 := x }
def OS.s_ow1 (m : OS) (i : Nat) (x : Int) : OS := { m with ow1 := updF m.ow1 i x }
def OS.s_rt1 (m : OS) (x : Int) : OS := { m with rt1 := x }
def OS.s_idle (m : OS) (x : Int) : OS := { m with idle := x }
def OS.s_full (m : OS) (i : Nat) (x : Bool) : OS := { m with full := updF m.full i x }
def OS.s_empty (m : OS) (i : Nat) (x : Bool) : OS := { m with empty := updF m.empty i x }

theorem ld_owp (m : OS)   : (arrL 50 (encO0 m))[0 + 0]? = some (m.wp) := by
  rw [show 0 + 0 = 0 by omega, arrL_get (by omega)]
  unfold encO0
  (repeat (first | rw [if_pos (by omega)] | rw [if_neg (by omega)]))
theorem st_owp (m : OS)  (x : Value)  : setL (arrL 50 (encO0 m)) (0 + 0) [x] = arrL 50 (encO0 (m.s_wp x)) := by
  rw [show 0 + 0 = 0 by omega, arrL_set (by omega)]
  refine arrL_congr fun j hj => ?_
  unfold updV encO0 OS.s_wp
  by_cases c0 : j = 0
  · simp only [if_pos c0]
  · simp only [if_neg c0]

theorem ld_ofnd (m : OS)   : (arrL 50 (encO0 m))[0 + 1]? = some (.int .u64 (m.fnd)) := by
  rw [show 0 + 1 = 1 by omega, arrL_get (by omega)]
  unfold encO0
  (repeat (first | rw [if_pos (by omega)] | rw [if_neg (by omega)]))
theorem st_ofnd (m : OS)  (x : Int)  : setL (arrL 50 (encO0 m)) (0 + 1) [.int .u64 (x)] = arrL 50 (encO0 (m.s_fnd x)) := by
  rw [show 0 + 1 = 1 by omega, arrL_set (by omega)]
  refine arrL_congr fun j hj => ?_
  unfold updV encO0 OS.s_fnd
  by_cases c0 : j = 0
  · simp only [if_pos c0]
    rw [if_neg (by omega)]
  simp only [if_neg c0]
  by_cases c1 : j = 1
  · simp only [if_pos c1]
  · simp only [if_neg c1]

theorem ld_ocnt (m : OS)   : (arrL 50 (encO0 m))[0 + 2]? = some (.int .i64 (m.cnt)) := by
  rw [show 0 + 2 = 2 by omega, arrL_get (by omega)]
  unfold encO0
  (repeat (first | rw [if_pos (by omega)] | rw [if_neg (by omega)]))
theorem st_ocnt (m : OS)  (x : Int)  : setL (arrL 50 (encO0 m)) (0 + 2) [.int .i64 (x)] = arrL 50 (encO0 (m.s_cnt x)) := by
  rw [show 0 + 2 = 2 by omega, arrL_set (by omega)]
  refine arrL_congr fun j hj => ?_
  unfold updV encO0 OS.s_cnt
  by_cases c0 : j = 0
  · simp only [if_pos c0]
    rw [if_neg (by omega)]
  simp only [if_neg c0]
  by_cases c1 : j = 1
  · simp only [if_pos c1]
    rw [if_neg (by omega)]
  simp only [if_neg c1]
  by_cases c2 : j = 2
  · simp only [if_pos c2]
  · simp only [if_neg c2]

theorem ld_oh0 (m : OS)   : (arrL 50 (encO0 m))[3 + 0 + 0]? = some (.int .u32 (m.h0)) := by
  rw [show 3 + 0 + 0 = 3 by omega, arrL_get (by omega)]
  unfold encO0
  (repeat (first | rw [if_pos (by omega)] | rw [if_neg (by omega)]))
theorem st_oh0 (m : OS)  (x : Int)  : setL (arrL 50 (encO0 m)) (3 + 0 + 0) [.int .u32 (x)] = arrL 50 (encO0 (m.s_h0 x)) := by
  rw [show 3 + 0 + 0 = 3 by omega, arrL_set (by omega)]
  refine arrL_congr fun j hj => ?_
  unfold updV encO0 OS.s_h0
  by_cases c0 : j = 0
  · simp only [if_pos c0]
    rw [if_neg (by omega)]
  simp only [if_neg c0]
  by_cases c1 : j = 1
  · simp only [if_pos c1]
    rw [if_neg (by omega)]
  simp only [if_neg c1]
  by_cases c2 : j = 2
  · simp only [if_pos c2]
    rw [if_neg (by omega)]
  simp only [if_neg c2]
  by_cases c3 : j = 3
  · simp only [if_pos c3]
  · simp only [if_neg c3]

theorem ld_on0 (m : OS) (i : Nat) (h : i < 7) : (arrL 50 (encO0 m))[3 + 0 + 1 + i * 1]? = some (.int .u32 (m.n0 i)) := by
  rw [show 3 + 0 + 1 + i * 1 = 4 + i by omega, arrL_get (by omega)]
  unfold encO0
  (repeat (first | rw [if_pos (by omega)] | rw [if_neg (by omega)]))
  rw [show 4 + i - 4 = i by omega]
theorem st_on0 (m : OS) (i : Nat) (x : Int) (h : i < 7) : setL (arrL 50 (encO0 m)) (3 + 0 + 1 + i * 1) [.int .u32 (x)] = arrL 50 (encO0 (m.s_n0 i x)) := by
  rw [show 3 + 0 + 1 + i * 1 = 4 + i by omega, arrL_set (by omega)]
  refine arrL_congr fun j hj => ?_
  unfold updV encO0 OS.s_n0 updF
  by_cases c0 : j = 0
  · simp only [if_pos c0]
    rw [if_neg (by omega)]
  simp only [if_neg c0]
  by_cases c1 : j = 1
  · simp only [if_pos c1]
    rw [if_neg (by omega)]
  simp only [if_neg c1]
  by_cases c2 : j = 2
  · simp only [if_pos c2]
    rw [if_neg (by omega)]
  simp only [if_neg c2]
  by_cases c3 : j = 3
  · simp only [if_pos c3]
    rw [if_neg (by omega)]
  simp only [if_neg c3]
  by_cases c4 : j < 11
  · simp only [if_pos c4]
    by_cases e : j = 4 + i
    · rw [if_pos e, if_pos (by omega)]
    · rw [if_neg e, if_neg (by omega)]
  simp only [if_neg c4]
  by_cases c5 : j = 11
  · simp only [if_pos c5]
    rw [if_neg (by omega)]
  simp only [if_neg c5]
  by_cases c6 : j < 19
  · simp only [if_pos c6]
    rw [if_neg (by omega)]
  simp only [if_neg c6]
  by_cases c7 : j = 19
  · simp only [if_pos c7]
    rw [if_neg (by omega)]
  simp only [if_neg c7]
  by_cases c8 : j = 20
  · simp only [if_pos c8]
    rw [if_neg (by omega)]
  simp only [if_neg c8]
  by_cases c9 : j < 28
  · simp only [if_pos c9]
    rw [if_neg (by omega)]
  simp only [if_neg c9]
  by_cases c10 : j = 28
  · simp only [if_pos c10]
    rw [if_neg (by omega)]
  simp only [if_neg c10]
  by_cases c11 : j < 36
  · simp only [if_pos c11]
    rw [if_neg (by omega)]
  simp only [if_neg c11]
  by_cases c12 : j = 36
  · simp only [if_pos c12]
    rw [if_neg (by omega)]
  simp only [if_neg c12]
  by_cases c13 : j = 37
  · simp only [if_pos c13]
    rw [if_neg (by omega)]
  simp only [if_neg c13]
  by_cases c14 : j < 44
  · simp only [if_pos c14]
    rw [if_neg (by omega)]
  simp only [if_neg c14]
  rw [if_neg (by omega)]

theorem ld_oc0 (m : OS)   : (arrL 50 (encO0 m))[3 + 0 + 8]? = some (.int .i64 (m.c0)) := by
  rw [show 3 + 0 + 8 = 11 by omega, arrL_get (by omega)]
  unfold encO0
  (repeat (first | rw [if_pos (by omega)] | rw [if_neg (by omega)]))
theorem st_oc0 (m : OS)  (x : Int)  : setL (arrL 50 (encO0 m)) (3 + 0 + 8) [.int .i64 (x)] = arrL 50 (encO0 (m.s_c0 x)) := by
  rw [show 3 + 0 + 8 = 11 by omega, arrL_set (by omega)]
  refine arrL_congr fun j hj => ?_
  unfold updV encO0 OS.s_c0
  by_cases c0 : j = 0
  · simp only [if_pos c0]
    rw [if_neg (by omega)]
  simp only [if_neg c0]
  by_cases c1 : j = 1
  · simp only [if_pos c1]
    rw [if_neg (by omega)]
  simp only [if_neg c1]
  by_cases c2 : j = 2
  · simp only [if_pos c2]
    rw [if_neg (by omega)]
  simp only [if_neg c2]
  by_cases c3 : j = 3
  · simp only [if_pos c3]
    rw [if_neg (by omega)]
  simp only [if_neg c3]
  by_cases c4 : j < 11
  · simp only [if_pos c4]
    rw [if_neg (by omega)]
  simp only [if_neg c4]
  by_cases c5 : j = 11
  · simp only [if_pos c5]
  · simp only [if_neg c5]

theorem ld_oow0 (m : OS) (i : Nat) (h : i < 7) : (arrL 50 (encO0 m))[3 + 9 + i * 1]? = some (.int .i64 (m.ow0 i)) := by
  rw [show 3 + 9 + i * 1 = 12 + i by omega, arrL_get (by omega)]
  unfold encO0
  (repeat (first | rw [if_pos (by omega)] | rw [if_neg (by omega)]))
  rw [show 12 + i - 12 = i by omega]
theorem st_oow0 (m : OS) (i : Nat) (x : Int) (h : i < 7) : setL (arrL 50 (encO0 m)) (3 + 9 + i * 1) [.int .i64 (x)] = arrL 50 (encO0 (m.s_ow0 i x)) := by
  rw [show 3 + 9 + i * 1 = 12 + i by omega, arrL_set (by omega)]
  refine arrL_congr fun j hj => ?_
  unfold updV encO0 OS.s_ow0 updF
  by_cases c0 : j = 0
  · simp only [if_pos c0]
    rw [if_neg (by omega)]
  simp only [if_neg c0]
  by_cases c1 : j = 1
  · simp only [if_pos c1]
    rw [if_neg (by omega)]
  simp only [if_neg c1]
  by_cases c2 : j = 2
  · simp only [if_pos c2]
    rw [if_neg (by omega)]
  simp only [if_neg c2]
  by_cases c3 : j = 3
  · simp only [if_pos c3]
    rw [if_neg (by omega)]
  simp only [if_neg c3]
  by_cases c4 : j < 11
  · simp only [if_pos c4]
    rw [if_neg (by omega)]
  simp only [if_neg c4]
  by_cases c5 : j = 11
  · simp only [if_pos c5]
    rw [if_neg (by omega)]
  simp only [if_neg c5]
  by_cases c6 : j < 19
  · simp only [if_pos c6]
    by_cases e : j = 12 + i
    · rw [if_pos e, if_pos (by omega)]
    · rw [if_neg e, if_neg (by omega)]
  simp only [if_neg c6]
  by_cases c7 : j = 19
  · simp only [if_pos c7]
    rw [if_neg (by omega)]
  simp only [if_neg c7]
  by_cases c8 : j = 20
  · simp only [if_pos c8]
    rw [if_neg (by omega)]
  simp only [if_neg c8]
  by_cases c9 : j < 28
  · simp only [if_pos c9]
    rw [if_neg (by omega)]
  simp only [if_neg c9]
  by_cases c10 : j = 28
  · simp only [if_pos c10]
    rw [if_neg (by omega)]
  simp only [if_neg c10]
  by_cases c11 : j < 36
  · simp only [if_pos c11]
    rw [if_neg (by omega)]
  simp only [if_neg c11]
  by_cases c12 : j = 36
  · simp only [if_pos c12]
    rw [if_neg (by omega)]
  simp only [if_neg c12]
  by_cases c13 : j = 37
  · simp only [if_pos c13]
    rw [if_neg (by omega)]
  simp only [if_neg c13]
  by_cases c14 : j < 44
  · simp only [if_pos c14]
    rw [if_neg (by omega)]
  simp only [if_neg c14]
  rw [if_neg (by omega)]

theorem ld_ort0 (m : OS)   : (arrL 50 (encO0 m))[3 + 16]? = some (.int .u64 (m.rt0)) := by
  rw [show 3 + 16 = 19 by omega, arrL_get (by omega)]
  unfold encO0
  (repeat (first | rw [if_pos (by omega)] | rw [if_neg (by omega)]))
theorem st_ort0 (m : OS)  (x : Int)  : setL (arrL 50 (encO0 m)) (3 + 16) [.int .u64 (x)] = arrL 50 (encO0 (m.s_rt0 x)) := by
  rw [show 3 + 16 = 19 by omega, arrL_set (by omega)]
  refine arrL_congr fun j hj => ?_
  unfold updV encO0 OS.s_rt0
  by_cases c0 : j = 0
  · simp only [if_pos c0]
    rw [if_neg (by omega)]
  simp only [if_neg c0]
  by_cases c1 : j = 1
  · simp only [if_pos c1]
    rw [if_neg (by omega)]
  simp only [if_neg c1]
  by_cases c2 : j = 2
  · simp only [if_pos c2]
    rw [if_neg (by omega)]
  simp only [if_neg c2]
  by_cases c3 : j = 3
  · simp only [if_pos c3]
    rw [if_neg (by omega)]
  simp only [if_neg c3]
  by_cases c4 : j < 11
  · simp only [if_pos c4]
    rw [if_neg (by omega)]
  simp only [if_neg c4]
  by_cases c5 : j = 11
  · simp only [if_pos c5]
    rw [if_neg (by omega)]
  simp only [if_neg c5]
  by_cases c6 : j < 19
  · simp only [if_pos c6]
    rw [if_neg (by omega)]
  simp only [if_neg c6]
  by_cases c7 : j = 19
  · simp only [if_pos c7]
  · simp only [if_neg c7]

theorem ld_oh1 (m : OS)   : (arrL 50 (encO0 m))[20 + 0 + 0]? = some (.int .u32 (m.h1)) := by
  rw [show 20 + 0 + 0 = 20 by omega, arrL_get (by omega)]
  unfold encO0
  (repeat (first | rw [if_pos (by omega)] | rw [if_neg (by omega)]))
theorem st_oh1 (m : OS)  (x : Int)  : setL (arrL 50 (encO0 m)) (20 + 0 + 0) [.int .u32 (x)] = arrL 50 (encO0 (m.s_h1 x)) := by
  rw [show 20 + 0 + 0 = 20 by omega, arrL_set (by omega)]
  refine arrL_congr fun j hj => ?_
  unfold updV encO0 OS.s_h1
  by_cases c0 : j = 0
  · simp only [if_pos c0]
    rw [if_neg (by omega)]
  simp only [if_neg c0]
  by_cases c1 : j = 1
  · simp only [if_pos c1]
    rw [if_neg (by omega)]
  simp only [if_neg c1]
  by_cases c2 : j = 2
  · simp only [if_pos c2]
    rw [if_neg (by omega)]
  simp only [if_neg c2]
  by_cases c3 : j = 3
  · simp only [if_pos c3]
    rw [if_neg (by omega)]
  simp only [if_neg c3]
  by_cases c4 : j < 11
  · simp only [if_pos c4]
    rw [if_neg (by omega)]
  simp only [if_neg c4]
  by_cases c5 : j = 11
  · simp only [if_pos c5]
    rw [if_neg (by omega)]
  simp only [if_neg c5]
  by_cases c6 : j < 19
  · simp only [if_pos c6]
    rw [if_neg (by omega)]
  simp only [if_neg c6]
  by_cases c7 : j = 19
  · simp only [if_pos c7]
    rw [if_neg (by omega)]
  simp only [if_neg c7]
  by_cases c8 : j = 20
  · simp only [if_pos c8]
  · simp only [if_neg c8]

theorem ld_on1 (m : OS) (i : Nat) (h : i < 7) : (arrL 50 (encO0 m))[20 + 0 + 1 + i * 1]? = some (.int .u32 (m.n1 i)) := by
  rw [show 20 + 0 + 1 + i * 1 = 21 + i by omega, arrL_get (by omega)]
  unfold encO0
  (repeat (first | rw [if_pos (by omega)] | rw [if_neg (by omega)]))
  rw [show 21 + i - 21 = i by omega]
theorem st_on1 (m : OS) (i : Nat) (x : Int) (h : i < 7) : setL (arrL 50 (encO0 m)) (20 + 0 + 1 + i * 1) [.int .u32 (x)] = arrL 50 (encO0 (m.s_n1 i x)) := by
  rw [show 20 + 0 + 1 + i * 1 = 21 + i by omega, arrL_set (by omega)]
  refine arrL_congr fun j hj => ?_
  unfold updV encO0 OS.s_n1 updF
  by_cases c0 : j = 0
  · simp only [if_pos c0]
    rw [if_neg (by omega)]
  simp only [if_neg c0]
  by_cases c1 : j = 1
  · simp only [if_pos c1]
    rw [if_neg (by omega)]
  simp only [if_neg c1]
  by_cases c2 : j = 2
  · simp only [if_pos c2]
    rw [if_neg (by omega)]
  simp only [if_neg c2]
  by_cases c3 : j = 3
  · simp only [if_pos c3]
    rw [if_neg (by omega)]
  simp only [if_neg c3]
  by_cases c4 : j < 11
  · simp only [if_pos c4]
    rw [if_neg (by omega)]
  simp only [if_neg c4]
  by_cases c5 : j = 11
  · simp only [if_pos c5]
    rw [if_neg (by omega)]
  simp only [if_neg c5]
  by_cases c6 : j < 19
  · simp only [if_pos c6]
    rw [if_neg (by omega)]
  simp only [if_neg c6]
  by_cases c7 : j = 19
  · simp only [if_pos c7]
    rw [if_neg (by omega)]
  simp only [if_neg c7]
  by_cases c8 : j = 20
  · simp only [if_pos c8]
    rw [if_neg (by omega)]
  simp only [if_neg c8]
  by_cases c9 : j < 28
  · simp only [if_pos c9]
    by_cases e : j = 21 + i
    · rw [if_pos e, if_pos (by omega)]
    · rw [if_neg e, if_neg (by omega)]
  simp only [if_neg c9]
  by_cases c10 : j = 28
  · simp only [if_pos c10]
    rw [if_neg (by omega)]
  simp only [if_neg c10]
  by_cases c11 : j < 36
  · simp only [if_pos c11]
    rw [if_neg (by omega)]
  simp only [if_neg c11]
  by_cases c12 : j = 36
  · simp only [if_pos c12]
    rw [if_neg (by omega)]
  simp only [if_neg c12]
  by_cases c13 : j = 37
  · simp only [if_pos c13]
    rw [if_neg (by omega)]
  simp only [if_neg c13]
  by_cases c14 : j < 44
  · simp only [if_pos c14]
    rw [if_neg (by omega)]
  simp only [if_neg c14]
  rw [if_neg (by omega)]

theorem ld_oc1 (m : OS)   : (arrL 50 (encO0 m))[20 + 0 + 8]? = some (.int .i64 (m.c1)) := by
  rw [show 20 + 0 + 8 = 28 by omega, arrL_get (by omega)]
  unfold encO0
  (repeat (first | rw [if_pos (by omega)] | rw [if_neg (by omega)]))
theorem st_oc1 (m : OS)  (x : Int)  : setL (arrL 50 (encO0 m)) (20 + 0 + 8) [.int .i64 (x)] = arrL 50 (encO0 (m.s_c1 x)) := by
  rw [show 20 + 0 + 8 = 28 by omega, arrL_set (by omega)]
  refine arrL_congr fun j hj => ?_
  unfold updV encO0 OS.s_c1
  by_cases c0 : j = 0
  · simp only [if_pos c0]
    rw [if_neg (by omega)]
  simp only [if_neg c0]
  by_cases c1 : j = 1
  · simp only [if_pos c1]
    rw [if_neg (by omega)]
  simp only [if_neg c1]
  by_cases c2 : j = 2
  · simp only [if_pos c2]
    rw [if_neg (by omega)]
  simp only [if_neg c2]
  by_cases c3 : j = 3
  · simp only [if_pos c3]
    rw [if_neg (by omega)]
  simp only [if_neg c3]
  by_cases c4 : j < 11
  · simp only [if_pos c4]
    rw [if_neg (by omega)]
  simp only [if_neg c4]
  by_cases c5 : j = 11
  · simp only [if_pos c5]
    rw [if_neg (by omega)]
  simp only [if_neg c5]
  by_cases c6 : j < 19
  · simp only [if_pos c6]
    rw [if_neg (by omega)]
  simp only [if_neg c6]
  by_cases c7 : j = 19
  · simp only [if_pos c7]
    rw [if_neg (by omega)]
  simp only [if_neg c7]
  by_cases c8 : j = 20
  · simp only [if_pos c8]
    rw [if_neg (by omega)]
  simp only [if_neg c8]
  by_cases c9 : j < 28
  · simp only [if_pos c9]
    rw [if_neg (by omega)]
  simp only [if_neg c9]
  by_cases c10 : j = 28
  · simp only [if_pos c10]
  · simp only [if_neg c10]

theorem ld_oow1 (m : OS) (i : Nat) (h : i < 7) : (arrL 50 (encO0 m))[20 + 9 + i * 1]? = some (.int .i64 (m.ow1 i)) := by
  rw [show 20 + 9 + i * 1 = 29 + i by omega, arrL_get (by omega)]
  unfold encO0
  (repeat (first | rw [if_pos (by omega)] | rw [if_neg (by omega)]))
  rw [show 29 + i - 29 = i by omega]
theorem st_oow1 (m : OS) (i : Nat) (x : Int) (h : i < 7) : setL (arrL 50 (encO0 m)) (20 + 9 + i * 1) [.int .i64 (x)] = arrL 50 (encO0 (m.s_ow1 i x)) := by
  rw [show 20 + 9 + i * 1 = 29 + i by omega, arrL_set (by omega)]
  refine arrL_congr fun j hj => ?_
  unfold updV encO0 OS.s_ow1 updF
  by_cases c0 : j = 0
  · simp only [if_pos c0]
    rw [if_neg (by omega)]
  simp only [if_neg c0]
  by_cases c1 : j = 1
  · simp only [if_pos c1]
    rw [if_neg (by omega)]
  simp only [if_neg c1]
  by_cases c2 : j = 2
  · simp only [if_pos c2]
    rw [if_neg (by omega)]
  simp only [if_neg c2]
  by_cases c3 : j = 3
  · simp only [if_pos c3]
    rw [if_neg (by omega)]
  simp only [if_neg c3]
  by_cases c4 : j < 11
  · simp only [if_pos c4]
    rw [if_neg (by omega)]
  simp only [if_neg c4]
  by_cases c5 : j = 11
  · simp only [if_pos c5]
    rw [if_neg (by omega)]
  simp only [if_neg c5]
  by_cases c6 : j < 19
  · simp only [if_pos c6]
    rw [if_neg (by omega)]
  simp only [if_neg c6]
  by_cases c7 : j = 19
  · simp only [if_pos c7]
    rw [if_neg (by omega)]
  simp only [if_neg c7]
  by_cases c8 : j = 20
  · simp only [if_pos c8]
    rw [if_neg (by omega)]
  simp only [if_neg c8]
  by_cases c9 : j < 28
  · simp only [if_pos c9]
    rw [if_neg (by omega)]
  simp only [if_neg c9]
  by_cases c10 : j = 28
  · simp only [if_pos c10]
    rw [if_neg (by omega)]
  simp only [if_neg c10]
  by_cases c11 : j < 36
  · simp only [if_pos c11]
    by_cases e : j = 29 + i
    · rw [if_pos e, if_pos (by omega)]
    · rw [if_neg e, if_neg (by omega)]
  simp only [if_neg c11]
  by_cases c12 : j = 36
  · simp only [if_pos c12]
    rw [if_neg (by omega)]
  simp only [if_neg c12]
  by_cases c13 : j = 37
  · simp only [if_pos c13]
    rw [if_neg (by omega)]
  simp only [if_neg c13]
  by_cases c14 : j < 44
  · simp only [if_pos c14]
    rw [if_neg (by omega)]
  simp only [if_neg c14]
  rw [if_neg (by omega)]

theorem ld_ort1 (m : OS)   : (arrL 50 (encO0 m))[20 + 16]? = some (.int .u64 (m.rt1)) := by
  rw [show 20 + 16 = 36 by omega, arrL_get (by omega)]
  unfold encO0
  (repeat (first | rw [if_pos (by omega)] | rw [if_neg (by omega)]))
theorem st_ort1 (m : OS)  (x : Int)  : setL (arrL 50 (encO0 m)) (20 + 16) [.int .u64 (x)] = arrL 50 (encO0 (m.s_rt1 x)) := by
  rw [show 20 + 16 = 36 by omega, arrL_set (by omega)]
  refine arrL_congr fun j hj => ?_
  unfold updV encO0 OS.s_rt1
  by_cases c0 : j = 0
  · simp only [if_pos c0]
    rw [if_neg (by omega)]
  simp only [if_neg c0]
  by_cases c1 : j = 1
  · simp only [if_pos c1]
    rw [if_neg (by omega)]
  simp only [if_neg c1]
  by_cases c2 : j = 2
  · simp only [if_pos c2]
    rw [if_neg (by omega)]
  simp only [if_neg c2]
  by_cases c3 : j = 3
  · simp only [if_pos c3]
    rw [if_neg (by omega)]
  simp only [if_neg c3]
  by_cases c4 : j < 11
  · simp only [if_pos c4]
    rw [if_neg (by omega)]
  simp only [if_neg c4]
  by_cases c5 : j = 11
  · simp only [if_pos c5]
    rw [if_neg (by omega)]
  simp only [if_neg c5]
  by_cases c6 : j < 19
  · simp only [if_pos c6]
    rw [if_neg (by omega)]
  simp only [if_neg c6]
  by_cases c7 : j = 19
  · simp only [if_pos c7]
    rw [if_neg (by omega)]
  simp only [if_neg c7]
  by_cases c8 : j = 20
  · simp only [if_pos c8]
    rw [if_neg (by omega)]
  simp only [if_neg c8]
  by_cases c9 : j < 28
  · simp only [if_pos c9]
    rw [if_neg (by omega)]
  simp only [if_neg c9]
  by_cases c10 : j = 28
  · simp only [if_pos c10]
    rw [if_neg (by omega)]
  simp only [if_neg c10]
  by_cases c11 : j < 36
  · simp only [if_pos c11]
    rw [if_neg (by omega)]
  simp only [if_neg c11]
  by_cases c12 : j = 36
  · simp only [if_pos c12]
  · simp only [if_neg c12]

theorem ld_oidle (m : OS)   : (arrL 50 (encO0 m))[0 + 37]? = some (.int .i64 (m.idle)) := by
  rw [show 0 + 37 = 37 by omega, arrL_get (by omega)]
  unfold encO0
  (repeat (first | rw [if_pos (by omega)] | rw [if_neg (by omega)]))
theorem st_oidle (m : OS)  (x : Int)  : setL (arrL 50 (encO0 m)) (0 + 37) [.int .i64 (x)] = arrL 50 (encO0 (m.s_idle x)) := by
  rw [show 0 + 37 = 37 by omega, arrL_set (by omega)]
  refine arrL_congr fun j hj => ?_
  unfold updV encO0 OS.s_idle
  by_cases c0 : j = 0
  · simp only [if_pos c0]
    rw [if_neg (by omega)]
  simp only [if_neg c0]
  by_cases c1 : j = 1
  · simp only [if_pos c1]
    rw [if_neg (by omega)]
  simp only [if_neg c1]
  by_cases c2 : j = 2
  · simp only [if_pos c2]
    rw [if_neg (by omega)]
  simp only [if_neg c2]
  by_cases c3 : j = 3
  · simp only [if_pos c3]
    rw [if_neg (by omega)]
  simp only [if_neg c3]
  by_cases c4 : j < 11
  · simp only [if_pos c4]
    rw [if_neg (by omega)]
  simp only [if_neg c4]
  by_cases c5 : j = 11
  · simp only [if_pos c5]
    rw [if_neg (by omega)]
  simp only [if_neg c5]
  by_cases c6 : j < 19
  · simp only [if_pos c6]
    rw [if_neg (by omega)]
  simp only [if_neg c6]
  by_cases c7 : j = 19
  · simp only [if_pos c7]
    rw [if_neg (by omega)]
  simp only [if_neg c7]
  by_cases c8 : j = 20
  · simp only [if_pos c8]
    rw [if_neg (by omega)]
  simp only [if_neg c8]
  by_cases c9 : j < 28
  · simp only [if_pos c9]
    rw [if_neg (by omega)]
  simp only [if_neg c9]
  by_cases c10 : j = 28
  · simp only [if_pos c10]
    rw [if_neg (by omega)]
  simp only [if_neg c10]
  by_cases c11 : j < 36
  · simp only [if_pos c11]
    rw [if_neg (by omega)]
  simp only [if_neg c11]
  by_cases c12 : j = 36
  · simp only [if_pos c12]
    rw [if_neg (by omega)]
  simp only [if_neg c12]
  by_cases c13 : j = 37
  · simp only [if_pos c13]
  · simp only [if_neg c13]

theorem ld_ofull (m : OS) (i : Nat) (h : i < 6) : (arrL 50 (encO0 m))[0 + 38 + i * 1]? = some (.bool (m.full i)) := by
  rw [show 0 + 38 + i * 1 = 38 + i by omega, arrL_get (by omega)]
  unfold encO0
  (repeat (first | rw [if_pos (by omega)] | rw [if_neg (by omega)]))
  rw [show 38 + i - 38 = i by omega]
theorem st_ofull (m : OS) (i : Nat) (x : Bool) (h : i < 6) : setL (arrL 50 (encO0 m)) (0 + 38 + i * 1) [.bool (x)] = arrL 50 (encO0 (m.s_full i x)) := by
  rw [show 0 + 38 + i * 1 = 38 + i by omega, arrL_set (by omega)]
  refine arrL_congr fun j hj => ?_
  unfold updV encO0 OS.s_full updF
  by_cases c0 : j = 0
  · simp only [if_pos c0]
    rw [if_neg (by omega)]
  simp only [if_neg c0]
  by_cases c1 : j = 1
  · simp only [if_pos c1]
    rw [if_neg (by omega)]
  simp only [if_neg c1]
  by_cases c2 : j = 2
  · simp only [if_pos c2]
    rw [if_neg (by omega)]
  simp only [if_neg c2]
  by_cases c3 : j = 3
  · simp only [if_pos c3]
    rw [if_neg (by omega)]
  simp only [if_neg c3]
  by_cases c4 : j < 11
  · simp only [if_pos c4]
    rw [if_neg (by omega)]
  simp only [if_neg c4]
  by_cases c5 : j = 11
  · simp only [if_pos c5]
    rw [if_neg (by omega)]
  simp only [if_neg c5]
  by_cases c6 : j < 19
  · simp only [if_pos c6]
    rw [if_neg (by omega)]
  simp only [if_neg c6]
  by_cases c7 : j = 19
  · simp only [if_pos c7]
    rw [if_neg (by omega)]
  simp only [if_neg c7]
  by_cases c8 : j = 20
  · simp only [if_pos c8]
    rw [if_neg (by omega)]
  simp only [if_neg c8]
  by_cases c9 : j < 28
  · simp only [if_pos c9]
    rw [if_neg (by omega)]
  simp only [if_neg c9]
  by_cases c10 : j = 28
  · simp only [if_pos c10]
    rw [if_neg (by omega)]
  simp only [if_neg c10]
  by_cases c11 : j < 36
  · simp only [if_pos c11]
    rw [if_neg (by omega)]
  simp only [if_neg c11]
  by_cases c12 : j = 36
  · simp only [if_pos c12]
    rw [if_neg (by omega)]
  simp only [if_neg c12]
  by_cases c13 : j = 37
  · simp only [if_pos c13]
    rw [if_neg (by omega)]
  simp only [if_neg c13]
  by_cases c14 : j < 44
  · simp only [if_pos c14]
    by_cases e : j = 38 + i
    · rw [if_pos e, if_pos (by omega)]
    · rw [if_neg e, if_neg (by omega)]
  simp only [if_neg c14]
  rw [if_neg (by omega)]

theorem ld_oempty (m : OS) (i : Nat) (h : i < 6) : (arrL 50 (encO0 m))[0 + 44 + i * 1]? = some (.bool (m.empty i)) := by
  rw [show 0 + 44 + i * 1 = 44 + i by omega, arrL_get (by omega)]
  unfold encO0
  (repeat (first | rw [if_pos (by omega)] | rw [if_neg (by omega)]))
  rw [show 44 + i - 44 = i by omega]
theorem st_oempty (m : OS) (i : Nat) (x : Bool) (h : i < 6) : setL (arrL 50 (encO0 m)) (0 + 44 + i * 1) [.bool (x)] = arrL 50 (encO0 (m.s_empty i x)) := by
  rw [show 0 + 44 + i * 1 = 44 + i by omega, arrL_set (by omega)]
  refine arrL_congr fun j hj => ?_
  unfold updV encO0 OS.s_empty updF
  by_cases c0 : j = 0
  · simp only [if_pos c0]
    rw [if_neg (by omega)]
  simp only [if_neg c0]
  by_cases c1 : j = 1
  · simp only [if_pos c1]
    rw [if_neg (by omega)]
  simp only [if_neg c1]
  by_cases c2 : j = 2
  · simp only [if_pos c2]
    rw [if_neg (by omega)]
  simp only [if_neg c2]
  by_cases c3 : j = 3
  · simp only [if_pos c3]
    rw [if_neg (by omega)]
  simp only [if_neg c3]
  by_cases c4 : j < 11
  · simp only [if_pos c4]
    rw [if_neg (by omega)]
  simp only [if_neg c4]
  by_cases c5 : j = 11
  · simp only [if_pos c5]
    rw [if_neg (by omega)]
  simp only [if_neg c5]
  by_cases c6 : j < 19
  · simp only [if_pos c6]
    rw [if_neg (by omega)]
  simp only [if_neg c6]
  by_cases c7 : j = 19
  · simp only [if_pos c7]
    rw [if_neg (by omega)]
  simp only [if_neg c7]
  by_cases c8 : j = 20
  · simp only [if_pos c8]
    rw [if_neg (by omega)]
  simp only [if_neg c8]
  by_cases c9 : j < 28
  · simp only [if_pos c9]
    rw [if_neg (by omega)]
  simp only [if_neg c9]
  by_cases c10 : j = 28
  · simp only [if_pos c10]
    rw [if_neg (by omega)]
  simp only [if_neg c10]
  by_cases c11 : j < 36
  · simp only [if_pos c11]
    rw [if_neg (by omega)]
  simp only [if_neg c11]
  by_cases c12 : j = 36
  · simp only [if_pos c12]
    rw [if_neg (by omega)]
  simp only [if_neg c12]
  by_cases c13 : j = 37
  · simp only [if_pos c13]
    rw [if_neg (by omega)]
  simp only [if_neg c13]
  by_cases c14 : j < 44
  · simp only [if_pos c14]
    rw [if_neg (by omega)]
  simp only [if_neg c14]
  by_cases e : j = 44 + i
  · rw [if_pos e, if_pos (by omega)]
  · rw [if_neg e, if_neg (by omega)]

def eo (k : Bool) : Nat := if k then 20 else 3
def OX.os (x : OX) (wb : Nat) : OS := { wp := .pointer (some ⟨wb, 0, none⟩), fnd := 0, cnt := x.cnt, h0 := (hd false : Int), n0 := fun i => (nd false i : Int), c0 := ((1 + 8 * wd false : Nat) : Int), ow0 := x.ow false, rt0 := x.rt false, h1 := (hd true : Int), n1 := fun i => (nd true i : Int), c1 := ((1 + 8 * wd true : Nat) : Int), ow1 := x.ow true, rt1 := x.rt true, idle := x.idle, full := x.full, empty := x.empty }
def encO (wb : Nat) (x : OX) : Nat → Value := encO0 (x.os wb)
def OX.s_ow (x : OX) (k : Bool) (i : Nat) (v : Int) : OX := { x with ow := fun k' => if k' = k then updF (x.ow k) i v else x.ow k' }
def OX.s_rt (x : OX) (k : Bool) (v : Int) : OX := { x with rt := fun k' => if k' = k then v else x.rt k' }
theorem lo_wp (wb : Nat) (x : OX) : (arrL 50 (encO wb x))[0 + 0]? = some (.pointer (some ⟨wb, 0, none⟩)) := ld_owp (x.os wb)
theorem lo_cnt (wb : Nat) (x : OX) : (arrL 50 (encO wb x))[0 + 2]? = some (.int .i64 x.cnt) := ld_ocnt (x.os wb)
theorem so_cnt (wb : Nat) (x : OX) (v : Int) : setL (arrL 50 (encO wb x)) (0 + 2) [.int .i64 v] = arrL 50 (encO wb { x with cnt := v }) := st_ocnt (x.os wb) v
theorem lo_idle (wb : Nat) (x : OX) : (arrL 50 (encO wb x))[0 + 37]? = some (.int .i64 x.idle) := ld_oidle (x.os wb)
theorem so_idle (wb : Nat) (x : OX) (v : Int) : setL (arrL 50 (encO wb x)) (0 + 37) [.int .i64 v] = arrL 50 (encO wb { x with idle := v }) := st_oidle (x.os wb) v
theorem lo_full (wb : Nat) (x : OX) (i : Nat) (h : i < 6) : (arrL 50 (encO wb x))[0 + 38 + i * 1]? = some (.bool (x.full i)) := ld_ofull (x.os wb) i h
theorem so_full (wb : Nat) (x : OX) (i : Nat) (v : Bool) (h : i < 6) : setL (arrL 50 (encO wb x)) (0 + 38 + i * 1) [.bool v] = arrL 50 (encO wb { x with full := updF x.full i v }) := st_ofull (x.os wb) i v h
theorem lo_empty (wb : Nat) (x : OX) (i : Nat) (h : i < 6) : (arrL 50 (encO wb x))[0 + 44 + i * 1]? = some (.bool (x.empty i)) := ld_oempty (x.os wb) i h
theorem so_empty (wb : Nat) (x : OX) (i : Nat) (v : Bool) (h : i < 6) : setL (arrL 50 (encO wb x)) (0 + 44 + i * 1) [.bool v] = arrL 50 (encO wb { x with empty := updF x.empty i v }) := st_oempty (x.os wb) i v h
theorem lo_hd (wb : Nat) (x : OX) (k : Bool) : (arrL 50 (encO wb x))[eo k + 0 + 0]? = some (.int .u32 (hd k : Int)) := by
  cases k
  · exact ld_oh0 (x.os wb)
  · exact ld_oh1 (x.os wb)
theorem lo_nd (wb : Nat) (x : OX) (k : Bool) (i : Nat) (h : i < 7) : (arrL 50 (encO wb x))[eo k + 0 + 1 + i * 1]? = some (.int .u32 (nd k i : Int)) := by
  cases k
  · exact ld_on0 (x.os wb) i h
  · exact ld_on1 (x.os wb) i h
theorem lo_nc (wb : Nat) (x : OX) (k : Bool) : (arrL 50 (encO wb x))[eo k + 0 + 8]? = some (.int .i64 ((1 + 8 * wd k : Nat) : Int)) := by
  cases k
  · exact ld_oc0 (x.os wb)
  · exact ld_oc1 (x.os wb)
theorem lo_ow (wb : Nat) (x : OX) (k : Bool) (i : Nat) (h : i < 7) : (arrL 50 (encO wb x))[eo k + 9 + i * 1]? = some (.int .i64 (x.ow k i)) := by
  cases k
  · exact ld_oow0 (x.os wb) i h
  · exact ld_oow1 (x.os wb) i h
theorem lo_rt (wb : Nat) (x : OX) (k : Bool) : (arrL 50 (encO wb x))[eo k + 16]? = some (.int .u64 (x.rt k)) := by
  cases k
  · exact ld_ort0 (x.os wb)
  · exact ld_ort1 (x.os wb)
theorem so_ow (wb : Nat) (x : OX) (k : Bool) (i : Nat) (v : Int) (h : i < 7) : setL (arrL 50 (encO wb x)) (eo k + 9 + i * 1) [.int .i64 v] = arrL 50 (encO wb (x.s_ow k i v)) := by
  cases k
  · exact (st_oow0 (x.os wb) i v h).trans (congrArg (fun z => arrL 50 (encO0 z)) rfl)
  · exact (st_oow1 (x.os wb) i v h).trans (congrArg (fun z => arrL 50 (encO0 z)) rfl)
theorem so_rt (wb : Nat) (x : OX) (k : Bool) (v : Int) : setL (arrL 50 (encO wb x)) (eo k + 16) [.int .u64 v] = arrL 50 (encO wb (x.s_rt k v)) := by
  cases k
  · exact (st_ort0 (x.os wb) v).trans (congrArg (fun z => arrL 50 (encO0 z)) rfl)
  · exact (st_ort1 (x.os wb) v).trans (congrArg (fun z => arrL 50 (encO0 z)) rfl)
theorem arrL_takeN {N : Nat} (f : Nat → Value) (o n : Nat) (h : o + n ≤ N) : ((arrL N f).drop o).take n = arrL n (fun i => f (o + i)) := by
  apply List.ext_getElem?
  intro j
  rw [List.getElem?_take]
  by_cases hj : j < n
  · rw [if_pos hj, List.getElem?_drop, arrL_get (by omega), arrL_get hj]
  · rw [if_neg hj, List.getElem?_eq_none (by rw [arrL_length]; omega)]
def ndV (k : Bool) (i : Nat) : Value := .int .u32 (nd k i : Int)
theorem lo_nds (wb : Nat) (x : OX) (k : Bool) : ((arrL 50 (encO wb x)).drop (eo k + 0 + 1)).take 7 = arrL 7 (ndV k) := by
  rw [arrL_takeN _ _ _ (by cases k <;> decide)]
  refine arrL_congr fun i hi => ?_
  have := lo_nd wb x k i hi
  rw [show eo k + 0 + 1 + i * 1 = eo k + 0 + 1 + i by omega, arrL_get (by cases k <;> simp only [eo, if_true, if_false, Bool.false_eq_true] <;> omega)] at this
  exact Option.some.inj this
theorem eo_le (k : Bool) : eo k + 17 ≤ 37 := by cases k <;> decide
theorem swapOw_eq (x : OX) (k : Bool) (t was now : Nat) (r : Int) : ((x.s_ow k was t).s_ow k now (-1)).s_rt k r = swapOw x k t was now r := by
  unfold OX.s_ow OX.s_rt swapOw
  congr 1
  funext k'
  by_cases e : k' = k
  · simp only [if_pos e, if_true]
  · simp only [if_neg e]
attribute [irreducible] encO
/-- two pointers into one block -/
def ptrNZ (P : Program) (t : TypeId) : Bool := match P.underlying t with | some (.pointer e) => (match P.info? e with | some i => i.size != 0 | none => false) | _ => false
theorem r_eqlP {P : Program} {n : Nat} {L : List (Nat × Value)} {a : Act} {w : World} {T : TypeId} {pos : String} {aft : Array Edge} {g : Option (Nat × Bool)} {dst : Option Nat} {x y : Operand} {t u : TypeId} {bl o o' : Nat} (hl : Sl n L a) (hx : val L x = some (.pointer (some ⟨bl, o, none⟩))) (hy : val L y = some (.pointer (some ⟨bl, o', none⟩))) (ht : ptrNZ P t = true) : Gives P a ⟨dst, .binOp .eql t x y u, T, pos, aft, g⟩ w (.bool (decide (o = o'))) w := by
  have hr : (Op.equal t (.pointer (some ⟨bl, o, none⟩)) (.pointer (some ⟨bl, o', none⟩))).run P w = .ok (decide (o = o')) w := by
    unfold ptrNZ at ht
    split at ht
    · rename_i e hu
      split at ht
      · rename_i i hi
        unfold Op.equal
        show (Op.equalIn (9999 + 1) t _ _).run P w = _
        unfold Op.equalIn
        have hz : i.size ≠ 0 := by simpa using ht
        have hb : ((⟨bl, o, none⟩ : Addr) == ⟨bl, o', none⟩) = decide (o = o') := by
          by_cases q : o = o'
          · subst q; simp
          · rw [decide_eq_false q]; simp [q]
        simp [run_underlying hu, sizeOf, typeInfo, hi, hz, sameAddr, hb]
      · cases ht
    · cases ht
  simp [Gives, execOp, hl.ev hx, hl.ev hy, eqGuard, binOp, hr]
theorem kd_ck (m : KS) (i : Nat) (h : i < 6) : (arrL 27 (encK m))[0 + 7 + i * 3 + 0]? = some (.int .u8 (m.ck i)) := getElem?_of_take (k := 0) (kd_calls m i h) rfl

set_option maxHeartbeats 1000000 in
theorem estateOf_spec (ob wb b kb : Nat) (x : OX) (K : KS) (t : Nat) (ht : t < 6) : Sp Try.prog 83 #[.pointer (some ⟨ob, 0, none⟩), .int .i64 t] [(ob, C (arrL 50 (encO wb x)) 86), (wb, C [.pointer (some ⟨b, 0, none⟩), .pointer (some ⟨kb, 0, none⟩), .int .u64 ((65536 + hd false : Nat) : Int), .int .u64 ((65536 + nd false 0 : Nat) : Int), .int .u64 ((65536 + nd false 1 : Nat) : Int), .int .u64 ((65536 + nd false 2 : Nat) : Int), .int .u64 ((65536 + nd false 3 : Nat) : Int), .int .u64 ((65536 + nd false 4 : Nat) : Int), .int .u64 ((65536 + nd false 5 : Nat) : Int), .int .u64 ((65536 + nd false 6 : Nat) : Int), .int .i64 (wd false : Int), .int .u64 ((65536 + hd true : Nat) : Int), .int .u64 ((65536 + nd true 0 : Nat) : Int), .int .u64 ((65536 + nd true 1 : Nat) : Int), .int .u64 ((65536 + nd true 2 : Nat) : Int), .int .u64 ((65536 + nd true 3 : Nat) : Int), .int .u64 ((65536 + nd true 4 : Nat) : Int), .int .u64 ((65536 + nd true 5 : Nat) : Int), .int .u64 ((65536 + nd true 6 : Nat) : Int), .int .i64 (wd true : Int)] 51), (kb, C (arrL 27 (encK K)) 41)] (fun v F' => v = .pointer (some ⟨ob, eo (boxOf (K.ck t)), none⟩) ∧ F' = [(ob, C (arrL 50 (encO wb x)) 86), (wb, C [.pointer (some ⟨b, 0, none⟩), .pointer (some ⟨kb, 0, none⟩), .int .u64 ((65536 + hd false : Nat) : Int), .int .u64 ((65536 + nd false 0 : Nat) : Int), .int .u64 ((65536 + nd false 1 : Nat) : Int), .int .u64 ((65536 + nd false 2 : Nat) : Int), .int .u64 ((65536 + nd false 3 : Nat) : Int), .int .u64 ((65536 + nd false 4 : Nat) : Int), .int .u64 ((65536 + nd false 5 : Nat) : Int), .int .u64 ((65536 + nd false 6 : Nat) : Int), .int .i64 (wd false : Int), .int .u64 ((65536 + hd true : Nat) : Int), .int .u64 ((65536 + nd true 0 : Nat) : Int), .int .u64 ((65536 + nd true 1 : Nat) : Int), .int .u64 ((65536 + nd true 2 : Nat) : Int), .int .u64 ((65536 + nd true 3 : Nat) : Int), .int .u64 ((65536 + nd true 4 : Nat) : Int), .int .u64 ((65536 + nd true 5 : Nat) : Int), .int .u64 ((65536 + nd true 6 : Nat) : Int), .int .i64 (wd true : Int)] 51), (kb, C (arrL 27 (encK K)) 41)]) := by
  refine f_enter (args := [.pointer (some ⟨ob, 0, none⟩), .int .i64 t]) Try.func83 rfl Try.ntmps83 rfl ?_
  intro w0 w a hpre hl hh
  simp only [slotsFrom, Nat.reduceAdd] at hl
  refine c_seq ?_
  refine c_region ?_
  refine wl (wl_val hl rfl trivial (r_assign hl rfl) ?_)
  clear hl a; intro a hl
  refine w_nil ?_
  have hl2 := hl.add (t := 0) (hl.add (t := 1) (hl.nil) rfl) rfl; clear hl; have hl := hl2; clear hl2
  refine then_normal ?_
  refine c_seq ?_
  refine c_seq ?_
  refine c_region ?_
  refine wl (wl_val hl rfl trivial (r_move hl rfl) ?_)
  clear hl a; intro a hl
  refine wl (wl_val hl rfl trivial (r_nilCheck hl rfl) ?_)
  clear hl a; intro a hl
  refine wl (wl_val hl rfl trivial (r_field hl rfl fld86_0) ?_)
  clear hl a; intro a hl
  refine wl (w_load hl hh rfl trivial one27 rfl (by repeat (first | exact find_head | apply find_tail)) (by exact lo_wp _ _) ?_)
  clear hl a; intro a hl
  refine wl (wl_val hl rfl trivial (r_nilCheck hl rfl) ?_)
  clear hl a; intro a hl
  refine wl (wl_val hl rfl trivial (r_field hl rfl fld51_1) ?_)
  clear hl a; intro a hl
  refine wl (w_load hl hh rfl trivial one42 rfl (by repeat (first | exact find_head | apply find_tail)) (by first | rfl) ?_)
  clear hl a; intro a hl
  refine wl (wl_val hl rfl trivial (r_move hl rfl) ?_)
  clear hl a; intro a hl
  refine wl (wl_val hl rfl trivial (r_nilCheck hl rfl) ?_)
  clear hl a; intro a hl
  refine wl (wl_val hl rfl trivial (r_field hl rfl fld41_2) ?_)
  clear hl a; intro a hl
  refine wl (wl_val hl rfl trivial (r_indexA hl rfl rfl arr38 (by omega) (by omega) (by first | (simp only [Int.reduceToNat]; rfl) | exact toNat_add1 _ | exact toNat_add2 _ _ | exact toNat_emod _ _ | exact Int.toNat_natCast _ | rfl)) ?_)
  clear hl a; intro a hl
  refine wl (wl_val hl rfl trivial (r_field hl rfl fld37_0) ?_)
  clear hl a; intro a hl
  refine wl (w_load hl hh rfl trivial one34 rfl (by repeat (first | exact find_head | apply find_tail)) (by exact kd_ck _ _ (by omega)) ?_)
  clear hl a; intro a hl
  refine wl (wl_val hl rfl trivial (r_leq hl rfl rfl) ?_)
  clear hl a; intro a hl
  refine w_nil ?_
  have hl2 := hl.add (t := 0) (hl.add (t := 18) (hl.nil) rfl) rfl; clear hl; have hl := hl2; clear hl2
  refine then_normal ?_
  refine c_cond hl rfl ?_ ?_
  · intro hc0
    try simp only [decide_eq_true_eq, decide_eq_false_iff_not, Bool.not_eq_true', Bool.not_eq_false', Bool.not_eq_true, Bool.not_eq_false, Bool.and_eq_true, Bool.or_eq_true, Bool.and_eq_false_iff, Bool.or_eq_false_iff, Bool.not_not, ne_eq, Int.not_lt, Int.not_le, Decidable.not_not, beq_iff_eq, bne_iff_ne] at hc0
    refine c_seq ?_
    refine c_region ?_
    refine wl (wl_val hl rfl trivial (r_move hl rfl) ?_)
    clear hl a; intro a hl
    refine wl (wl_val hl rfl trivial (r_nilCheck hl rfl) ?_)
    clear hl a; intro a hl
    refine wl (wl_val hl rfl trivial (r_field hl rfl fld86_3) ?_)
    clear hl a; intro a hl
    refine wl (wl_val hl rfl trivial (r_indexA hl rfl rfl arr83 (by omega) (by omega) (by first | (simp only [Int.reduceToNat]; rfl) | exact toNat_add1 _ | exact toNat_add2 _ _ | exact toNat_emod _ _ | exact Int.toNat_natCast _ | rfl)) ?_)
    clear hl a; intro a hl
    refine wl (wl_val hl rfl trivial (r_assign hl rfl) ?_)
    clear hl a; intro a hl
    refine w_nil ?_
    have hl2 := hl.add (t := 4) (hl.nil) rfl; clear hl; have hl := hl2; clear hl2
    refine then_normal ?_
    refine wp_ret ?_
    refine then_ret ?_
    refine f_ret1 (F' := [(ob, C (arrL 50 (encO wb x)) 86), (wb, C [.pointer (some ⟨b, 0, none⟩), .pointer (some ⟨kb, 0, none⟩), .int .u64 ((65536 + hd false : Nat) : Int), .int .u64 ((65536 + nd false 0 : Nat) : Int), .int .u64 ((65536 + nd false 1 : Nat) : Int), .int .u64 ((65536 + nd false 2 : Nat) : Int), .int .u64 ((65536 + nd false 3 : Nat) : Int), .int .u64 ((65536 + nd false 4 : Nat) : Int), .int .u64 ((65536 + nd false 5 : Nat) : Int), .int .u64 ((65536 + nd false 6 : Nat) : Int), .int .i64 (wd false : Int), .int .u64 ((65536 + hd true : Nat) : Int), .int .u64 ((65536 + nd true 0 : Nat) : Int), .int .u64 ((65536 + nd true 1 : Nat) : Int), .int .u64 ((65536 + nd true 2 : Nat) : Int), .int .u64 ((65536 + nd true 3 : Nat) : Int), .int .u64 ((65536 + nd true 4 : Nat) : Int), .int .u64 ((65536 + nd true 5 : Nat) : Int), .int .u64 ((65536 + nd true 6 : Nat) : Int), .int .i64 (wd true : Int)] 51), (kb, C (arrL 27 (encK K)) 41)]) hl hh rfl rfl (by repeat (first | exact keeps_nil | apply keeps_cons (by repeat (first | exact find_head | apply find_tail)) (by first  | rfl) | exact keeps_self | apply keeps_mv)) ?_
    exact ⟨by rw [show boxOf (K.ck t) = false from decide_eq_false (by omega)]; rfl, rfl⟩
  · intro hc0
    try simp only [decide_eq_true_eq, decide_eq_false_iff_not, Bool.not_eq_true', Bool.not_eq_false', Bool.not_eq_true, Bool.not_eq_false, Bool.and_eq_true, Bool.or_eq_true, Bool.and_eq_false_iff, Bool.or_eq_false_iff, Bool.not_not, ne_eq, Int.not_lt, Int.not_le, Decidable.not_not, beq_iff_eq, bne_iff_ne] at hc0
    refine wp_skip ?_
    refine then_normal ?_
    refine c_seq ?_
    refine c_region ?_
    refine wl (wl_val hl rfl trivial (r_move hl rfl) ?_)
    clear hl a; intro a hl
    refine wl (wl_val hl rfl trivial (r_nilCheck hl rfl) ?_)
    clear hl a; intro a hl
    refine wl (wl_val hl rfl trivial (r_field hl rfl fld86_3) ?_)
    clear hl a; intro a hl
    refine wl (wl_val hl rfl trivial (r_indexA hl rfl rfl arr83 (by omega) (by omega) (by first | (simp only [Int.reduceToNat]; rfl) | exact toNat_add1 _ | exact toNat_add2 _ _ | exact toNat_emod _ _ | exact Int.toNat_natCast _ | rfl)) ?_)
    clear hl a; intro a hl
    refine wl (wl_val hl rfl trivial (r_assign hl rfl) ?_)
    clear hl a; intro a hl
    refine w_nil ?_
    have hl2 := hl.add (t := 4) (hl.nil) rfl; clear hl; have hl := hl2; clear hl2
    refine then_normal ?_
    refine wp_ret ?_
    refine f_ret1 (F' := [(ob, C (arrL 50 (encO wb x)) 86), (wb, C [.pointer (some ⟨b, 0, none⟩), .pointer (some ⟨kb, 0, none⟩), .int .u64 ((65536 + hd false : Nat) : Int), .int .u64 ((65536 + nd false 0 : Nat) : Int), .int .u64 ((65536 + nd false 1 : Nat) : Int), .int .u64 ((65536 + nd false 2 : Nat) : Int), .int .u64 ((65536 + nd false 3 : Nat) : Int), .int .u64 ((65536 + nd false 4 : Nat) : Int), .int .u64 ((65536 + nd false 5 : Nat) : Int), .int .u64 ((65536 + nd false 6 : Nat) : Int), .int .i64 (wd false : Int), .int .u64 ((65536 + hd true : Nat) : Int), .int .u64 ((65536 + nd true 0 : Nat) : Int), .int .u64 ((65536 + nd true 1 : Nat) : Int), .int .u64 ((65536 + nd true 2 : Nat) : Int), .int .u64 ((65536 + nd true 3 : Nat) : Int), .int .u64 ((65536 + nd true 4 : Nat) : Int), .int .u64 ((65536 + nd true 5 : Nat) : Int), .int .u64 ((65536 + nd true 6 : Nat) : Int), .int .i64 (wd true : Int)] 51), (kb, C (arrL 27 (encK K)) 41)]) hl hh rfl rfl (by repeat (first | exact keeps_nil | apply keeps_cons (by repeat (first | exact find_head | apply find_tail)) (by first  | rfl) | exact keeps_self | apply keeps_mv)) ?_
    exact ⟨by rw [show boxOf (K.ck t) = true from decide_eq_true (by omega)]; rfl, rfl⟩

set_option maxHeartbeats 1000000 in
theorem size_spec (ob wb b kb : Nat) (x : OX) (m : MS) (k : Bool) (r : Nat) (hr : x.rt k = r) (hr7 : r % 256 < 7) : Sp Try.prog 85 #[.pointer (some ⟨ob, 0, none⟩), .pointer (some ⟨ob, eo k, none⟩)] [(ob, C (arrL 50 (encO wb x)) 86), (wb, C [.pointer (some ⟨b, 0, none⟩), .pointer (some ⟨kb, 0, none⟩), .int .u64 ((65536 + hd false : Nat) : Int), .int .u64 ((65536 + nd false 0 : Nat) : Int), .int .u64 ((65536 + nd false 1 : Nat) : Int), .int .u64 ((65536 + nd false 2 : Nat) : Int), .int .u64 ((65536 + nd false 3 : Nat) : Int), .int .u64 ((65536 + nd false 4 : Nat) : Int), .int .u64 ((65536 + nd false 5 : Nat) : Int), .int .u64 ((65536 + nd false 6 : Nat) : Int), .int .i64 (wd false : Int), .int .u64 ((65536 + hd true : Nat) : Int), .int .u64 ((65536 + nd true 0 : Nat) : Int), .int .u64 ((65536 + nd true 1 : Nat) : Int), .int .u64 ((65536 + nd true 2 : Nat) : Int), .int .u64 ((65536 + nd true 3 : Nat) : Int), .int .u64 ((65536 + nd true 4 : Nat) : Int), .int .u64 ((65536 + nd true 5 : Nat) : Int), .int .u64 ((65536 + nd true 6 : Nat) : Int), .int .i64 (wd true : Int)] 51), (b, C (arrL 16391 (encM m)) 75)] (fun v F' => v = .int .u64 (m.word (nd k (r % 256))) ∧ F' = [(ob, C (arrL 50 (encO wb x)) 86), (wb, C [.pointer (some ⟨b, 0, none⟩), .pointer (some ⟨kb, 0, none⟩), .int .u64 ((65536 + hd false : Nat) : Int), .int .u64 ((65536 + nd false 0 : Nat) : Int), .int .u64 ((65536 + nd false 1 : Nat) : Int), .int .u64 ((65536 + nd false 2 : Nat) : Int), .int .u64 ((65536 + nd false 3 : Nat) : Int), .int .u64 ((65536 + nd false 4 : Nat) : Int), .int .u64 ((65536 + nd false 5 : Nat) : Int), .int .u64 ((65536 + nd false 6 : Nat) : Int), .int .i64 (wd false : Int), .int .u64 ((65536 + hd true : Nat) : Int), .int .u64 ((65536 + nd true 0 : Nat) : Int), .int .u64 ((65536 + nd true 1 : Nat) : Int), .int .u64 ((65536 + nd true 2 : Nat) : Int), .int .u64 ((65536 + nd true 3 : Nat) : Int), .int .u64 ((65536 + nd true 4 : Nat) : Int), .int .u64 ((65536 + nd true 5 : Nat) : Int), .int .u64 ((65536 + nd true 6 : Nat) : Int), .int .i64 (wd true : Int)] 51), (b, C (arrL 16391 (encM m)) 75)]) := by
  refine f_enter (args := [.pointer (some ⟨ob, 0, none⟩), .pointer (some ⟨ob, eo k, none⟩)]) Try.func85 rfl Try.ntmps85 rfl ?_
  intro w0 w a hpre hl hh
  have hnl := nd_le k (r % 256) (by omega)
  simp only [slotsFrom, Nat.reduceAdd] at hl
  refine c_seq ?_
  refine c_region ?_
  refine wl (wl_val hl rfl trivial (r_assign hl rfl) ?_)
  clear hl a; intro a hl
  refine w_nil ?_
  have hl2 := hl.add (t := 0) (hl.add (t := 1) (hl.nil) rfl) rfl; clear hl; have hl := hl2; clear hl2
  refine then_normal ?_
  refine c_seq ?_
  refine c_draw [(ob, C (arrL 50 (encO wb x)) 86), (wb, C [.pointer (some ⟨b, 0, none⟩), .pointer (some ⟨kb, 0, none⟩), .int .u64 ((65536 + hd false : Nat) : Int), .int .u64 ((65536 + nd false 0 : Nat) : Int), .int .u64 ((65536 + nd false 1 : Nat) : Int), .int .u64 ((65536 + nd false 2 : Nat) : Int), .int .u64 ((65536 + nd false 3 : Nat) : Int), .int .u64 ((65536 + nd false 4 : Nat) : Int), .int .u64 ((65536 + nd false 5 : Nat) : Int), .int .u64 ((65536 + nd false 6 : Nat) : Int), .int .i64 (wd false : Int), .int .u64 ((65536 + hd true : Nat) : Int), .int .u64 ((65536 + nd true 0 : Nat) : Int), .int .u64 ((65536 + nd true 1 : Nat) : Int), .int .u64 ((65536 + nd true 2 : Nat) : Int), .int .u64 ((65536 + nd true 3 : Nat) : Int), .int .u64 ((65536 + nd true 4 : Nat) : Int), .int .u64 ((65536 + nd true 5 : Nat) : Int), .int .u64 ((65536 + nd true 6 : Nat) : Int), .int .i64 (wd true : Int)] 51), (b, C (arrL 16391 (encM m)) 75)] [23] mixed hh ?_
  clear hh w; intro w hh
  have hM : Mem [(ob, C (arrL 50 (encO wb x)) 86), (wb, C [.pointer (some ⟨b, 0, none⟩), .pointer (some ⟨kb, 0, none⟩), .int .u64 ((65536 + hd false : Nat) : Int), .int .u64 ((65536 + nd false 0 : Nat) : Int), .int .u64 ((65536 + nd false 1 : Nat) : Int), .int .u64 ((65536 + nd false 2 : Nat) : Int), .int .u64 ((65536 + nd false 3 : Nat) : Int), .int .u64 ((65536 + nd false 4 : Nat) : Int), .int .u64 ((65536 + nd false 5 : Nat) : Int), .int .u64 ((65536 + nd false 6 : Nat) : Int), .int .i64 (wd false : Int), .int .u64 ((65536 + hd true : Nat) : Int), .int .u64 ((65536 + nd true 0 : Nat) : Int), .int .u64 ((65536 + nd true 1 : Nat) : Int), .int .u64 ((65536 + nd true 2 : Nat) : Int), .int .u64 ((65536 + nd true 3 : Nat) : Int), .int .u64 ((65536 + nd true 4 : Nat) : Int), .int .u64 ((65536 + nd true 5 : Nat) : Int), .int .u64 ((65536 + nd true 6 : Nat) : Int), .int .i64 (wd true : Int)] 51), (b, C (arrL 16391 (encM m)) 75)] w := (by repeat (first | exact Mem.nil | refine Mem.cons hh.mem (by repeat (first | exact find_head | apply find_tail)) ?_ | refine Mem.consR hh (by assumption) (by simp) ?_))
  refine d_take (i := 0) hl rfl (by kernel_rfl) (by kernel_rfl) (by kernel_rfl) (by kernel_rfl) (by kernel_rfl) rfl trivial (fun _ _ _ h => h) hM (fun w hC => r_move hl rfl) rfl ?_
  clear hl a; intro a hl
  refine d_take (i := 1) hl rfl (by kernel_rfl) (by kernel_rfl) (by kernel_rfl) (by kernel_rfl) (by kernel_rfl) rfl trivial (fun _ _ _ h => h) hM (fun w hC => r_nilCheck hl rfl) rfl ?_
  clear hl a; intro a hl
  refine d_take (i := 2) hl rfl (by kernel_rfl) (by kernel_rfl) (by kernel_rfl) (by kernel_rfl) (by kernel_rfl) rfl trivial (fun _ _ _ h => h) hM (fun w hC => r_field hl rfl fld86_0) rfl ?_
  clear hl a; intro a hl
  refine d_take (i := 3) hl rfl (by kernel_rfl) (by kernel_rfl) (by kernel_rfl) (by kernel_rfl) (by kernel_rfl) rfl trivial (fun _ _ _ h => h) hM (fun w hC => r_loadC hl rfl one27 hC (by repeat (first | exact find_head | apply find_tail)) (by exact lo_wp _ _)) rfl ?_
  clear hl a; intro a hl
  try rw [hr] at hl
  refine d_take (i := 4) hl rfl (by kernel_rfl) (by kernel_rfl) (by kernel_rfl) (by kernel_rfl) (by kernel_rfl) rfl trivial (fun _ _ _ h => h) hM (fun w hC => r_nilCheck hl rfl) rfl ?_
  clear hl a; intro a hl
  refine d_take (i := 5) hl rfl (by kernel_rfl) (by kernel_rfl) (by kernel_rfl) (by kernel_rfl) (by kernel_rfl) rfl trivial (fun _ _ _ h => h) hM (fun w hC => r_field hl rfl fld51_0) rfl ?_
  clear hl a; intro a hl
  refine d_take (i := 6) hl rfl (by kernel_rfl) (by kernel_rfl) (by kernel_rfl) (by kernel_rfl) (by kernel_rfl) rfl trivial (fun _ _ _ h => h) hM (fun w hC => r_loadC hl rfl one30 hC (by repeat (first | exact find_head | apply find_tail)) (by first | rfl)) rfl ?_
  clear hl a; intro a hl
  refine d_take (i := 7) hl rfl (by kernel_rfl) (by kernel_rfl) (by kernel_rfl) (by kernel_rfl) (by kernel_rfl) rfl trivial (fun _ _ _ h => h) hM (fun w hC => r_move hl rfl) rfl ?_
  clear hl a; intro a hl
  refine d_take (i := 8) hl rfl (by kernel_rfl) (by kernel_rfl) (by kernel_rfl) (by kernel_rfl) (by kernel_rfl) rfl trivial (fun _ _ _ h => h) hM (fun w hC => r_move hl rfl) rfl ?_
  clear hl a; intro a hl
  refine d_take (i := 9) hl rfl (by kernel_rfl) (by kernel_rfl) (by kernel_rfl) (by kernel_rfl) (by kernel_rfl) rfl trivial (fun _ _ _ h => h) hM (fun w hC => r_nilCheck hl rfl) rfl ?_
  clear hl a; intro a hl
  refine d_take (i := 10) hl rfl (by kernel_rfl) (by kernel_rfl) (by kernel_rfl) (by kernel_rfl) (by kernel_rfl) rfl trivial (fun _ _ _ h => h) hM (fun w hC => r_field hl rfl fld82_2) rfl ?_
  clear hl a; intro a hl
  refine d_take (i := 11) hl rfl (by kernel_rfl) (by kernel_rfl) (by kernel_rfl) (by kernel_rfl) (by kernel_rfl) rfl trivial (fun _ _ _ h => h) hM (fun w hC => r_loadC hl rfl one35 hC (by repeat (first | exact find_head | apply find_tail)) (by exact lo_rt _ _ k)) rfl ?_
  clear hl a; intro a hl
  try rw [hr] at hl
  refine d_take (i := 12) hl rfl (by kernel_rfl) (by kernel_rfl) (by kernel_rfl) (by kernel_rfl) (by kernel_rfl) rfl trivial (fun _ _ _ h => h) hM (fun w hC => r_and hl rfl rfl) rfl ?_
  clear hl a; intro a hl
  rw [and_255] at hl
  refine d_take (i := 13) hl rfl (by kernel_rfl) (by kernel_rfl) (by kernel_rfl) (by kernel_rfl) (by kernel_rfl) rfl trivial (fun _ _ _ h => h) hM (fun w hC => r_nilCheck hl rfl) rfl ?_
  clear hl a; intro a hl
  refine d_take (i := 14) hl rfl (by kernel_rfl) (by kernel_rfl) (by kernel_rfl) (by kernel_rfl) (by kernel_rfl) rfl trivial (fun _ _ _ h => h) hM (fun w hC => r_field hl rfl fld82_0) rfl ?_
  clear hl a; intro a hl
  refine d_take (i := 15) hl rfl (by kernel_rfl) (by kernel_rfl) (by kernel_rfl) (by kernel_rfl) (by kernel_rfl) rfl trivial (fun _ _ _ h => h) hM (fun w hC => r_field hl rfl fld79_1) rfl ?_
  clear hl a; intro a hl
  refine d_take (i := 16) hl rfl (by kernel_rfl) (by kernel_rfl) (by kernel_rfl) (by kernel_rfl) (by kernel_rfl) rfl trivial (fun _ _ _ h => h) hM (fun w hC => r_indexA hl rfl rfl arr77 (by omega) (by omega) (by first | (simp only [Int.reduceToNat]; rfl) | exact toNat_add1 _ | exact toNat_add2 _ _ | exact toNat_emod _ _ | exact Int.toNat_natCast _ | rfl)) rfl ?_
  clear hl a; intro a hl
  refine d_take (i := 17) hl rfl (by kernel_rfl) (by kernel_rfl) (by kernel_rfl) (by kernel_rfl) (by kernel_rfl) rfl trivial (fun _ _ _ h => h) hM (fun w hC => r_loadC hl rfl one70 hC (by repeat (first | exact find_head | apply find_tail)) (by exact lo_nd _ _ k _ (by omega))) rfl ?_
  clear hl a; intro a hl
  try rw [hr] at hl
  first | refine d_take (i := 18) hl rfl (by kernel_rfl) (by kernel_rfl) (by kernel_rfl) (by kernel_rfl) (by kernel_rfl) rfl trivial (fun _ _ _ h => h) hM (fun w hC => r_add hl rfl rfl (by simp only [Fits]; omega)) rfl ?_ | refine d_take (i := 18) hl rfl (by kernel_rfl) (by kernel_rfl) (by kernel_rfl) (by kernel_rfl) (by kernel_rfl) rfl trivial (fun _ _ _ h => h) hM (fun w hC => r_addW hl rfl rfl) rfl ?_
  clear hl a; intro a hl
  rw [Int.add_zero] at hl
  refine d_take (i := 19) hl rfl (by kernel_rfl) (by kernel_rfl) (by kernel_rfl) (by kernel_rfl) (by kernel_rfl) rfl trivial (fun _ _ _ h => h) hM (fun w hC => r_nilCheck hl rfl) rfl ?_
  clear hl a; intro a hl
  refine d_take (i := 20) hl rfl (by kernel_rfl) (by kernel_rfl) (by kernel_rfl) (by kernel_rfl) (by kernel_rfl) rfl trivial (fun _ _ _ h => h) hM (fun w hC => r_field hl rfl fld75_0) rfl ?_
  clear hl a; intro a hl
  refine d_take (i := 21) hl rfl (by kernel_rfl) (by kernel_rfl) (by kernel_rfl) (by kernel_rfl) (by kernel_rfl) rfl trivial (fun _ _ _ h => h) hM (fun w hC => r_indexA hl rfl rfl arr65 (by omega) (by omega) (by first | (simp only [Int.reduceToNat]; rfl) | exact toNat_add1 _ | exact toNat_add2 _ _ | exact toNat_emod _ _ | exact Int.toNat_natCast _ | rfl)) rfl ?_
  clear hl a; intro a hl
  refine d_take (i := 22) hl rfl (by kernel_rfl) (by kernel_rfl) (by kernel_rfl) (by kernel_rfl) (by kernel_rfl) rfl trivial (fun _ _ _ h => h) hM (fun w hC => r_loadC hl rfl one35 hC (by repeat (first | exact find_head | apply find_tail)) (by exact ld_word _ _ (by omega))) rfl ?_
  clear hl a; intro a hl
  try rw [hr] at hl
  refine d_takeL (i := 23) hl rfl (by kernel_rfl) (by kernel_rfl) (by kernel_rfl) (by kernel_rfl) (by kernel_rfl) rfl trivial (fun _ _ _ h => h) (fun w => r_assign hl rfl) rfl ?_
  clear hl a; intro a hl
  refine d_done (by kernel_rfl) ?_
  try clear hM
  have hl2 := hl.add (t := 4) (hl.nil) rfl; clear hl; have hl := hl2; clear hl2
  refine then_normal ?_
  refine wp_ret ?_
  refine f_ret1 (F' := [(ob, C (arrL 50 (encO wb x)) 86), (wb, C [.pointer (some ⟨b, 0, none⟩), .pointer (some ⟨kb, 0, none⟩), .int .u64 ((65536 + hd false : Nat) : Int), .int .u64 ((65536 + nd false 0 : Nat) : Int), .int .u64 ((65536 + nd false 1 : Nat) : Int), .int .u64 ((65536 + nd false 2 : Nat) : Int), .int .u64 ((65536 + nd false 3 : Nat) : Int), .int .u64 ((65536 + nd false 4 : Nat) : Int), .int .u64 ((65536 + nd false 5 : Nat) : Int), .int .u64 ((65536 + nd false 6 : Nat) : Int), .int .i64 (wd false : Int), .int .u64 ((65536 + hd true : Nat) : Int), .int .u64 ((65536 + nd true 0 : Nat) : Int), .int .u64 ((65536 + nd true 1 : Nat) : Int), .int .u64 ((65536 + nd true 2 : Nat) : Int), .int .u64 ((65536 + nd true 3 : Nat) : Int), .int .u64 ((65536 + nd true 4 : Nat) : Int), .int .u64 ((65536 + nd true 5 : Nat) : Int), .int .u64 ((65536 + nd true 6 : Nat) : Int), .int .i64 (wd true : Int)] 51), (b, C (arrL 16391 (encM m)) 75)]) hl hh rfl rfl (by repeat (first | exact keeps_nil | apply keeps_cons (by repeat (first | exact find_head | apply find_tail)) (by first  | rfl) | exact keeps_self | apply keeps_mv)) ?_
  exact ⟨rfl, rfl⟩

theorem noteX_eq (x : OX) (t : Nat) (z : Int) (p q : Bool) (hp : p = (x.full t || decide (z = 8))) (hq : q = (x.empty t || decide (z = 0))) : ({ ({ x with full := updF x.full t p } : OX) with empty := updF x.empty t q } : OX) = noteX x t z := by subst hp; subst hq; rfl

set_option maxHeartbeats 1000000 in
theorem note_a (ob wb b kb : Nat) (x : OX) (m : MS) (t : Nat) (ht : t < 6) (k : Bool) (r : Nat) (hr : x.rt k = r) (hr7 : r % 256 < 7) (hf : x.full t = true) : Sp Try.prog 82 #[.pointer (some ⟨ob, 0, none⟩), .int .i64 t, .pointer (some ⟨ob, eo k, none⟩)] [(ob, C (arrL 50 (encO wb x)) 86), (wb, C [.pointer (some ⟨b, 0, none⟩), .pointer (some ⟨kb, 0, none⟩), .int .u64 ((65536 + hd false : Nat) : Int), .int .u64 ((65536 + nd false 0 : Nat) : Int), .int .u64 ((65536 + nd false 1 : Nat) : Int), .int .u64 ((65536 + nd false 2 : Nat) : Int), .int .u64 ((65536 + nd false 3 : Nat) : Int), .int .u64 ((65536 + nd false 4 : Nat) : Int), .int .u64 ((65536 + nd false 5 : Nat) : Int), .int .u64 ((65536 + nd false 6 : Nat) : Int), .int .i64 (wd false : Int), .int .u64 ((65536 + hd true : Nat) : Int), .int .u64 ((65536 + nd true 0 : Nat) : Int), .int .u64 ((65536 + nd true 1 : Nat) : Int), .int .u64 ((65536 + nd true 2 : Nat) : Int), .int .u64 ((65536 + nd true 3 : Nat) : Int), .int .u64 ((65536 + nd true 4 : Nat) : Int), .int .u64 ((65536 + nd true 5 : Nat) : Int), .int .u64 ((65536 + nd true 6 : Nat) : Int), .int .i64 (wd true : Int)] 51), (b, C (arrL 16391 (encM m)) 75)] (fun v F' => v = .tuple #[] ∧ F' = [(ob, C (arrL 50 (encO wb (noteX x t (m.word (nd k (r % 256)))))) 86), (wb, C [.pointer (some ⟨b, 0, none⟩), .pointer (some ⟨kb, 0, none⟩), .int .u64 ((65536 + hd false : Nat) : Int), .int .u64 ((65536 + nd false 0 : Nat) : Int), .int .u64 ((65536 + nd false 1 : Nat) : Int), .int .u64 ((65536 + nd false 2 : Nat) : Int), .int .u64 ((65536 + nd false 3 : Nat) : Int), .int .u64 ((65536 + nd false 4 : Nat) : Int), .int .u64 ((65536 + nd false 5 : Nat) : Int), .int .u64 ((65536 + nd false 6 : Nat) : Int), .int .i64 (wd false : Int), .int .u64 ((65536 + hd true : Nat) : Int), .int .u64 ((65536 + nd true 0 : Nat) : Int), .int .u64 ((65536 + nd true 1 : Nat) : Int), .int .u64 ((65536 + nd true 2 : Nat) : Int), .int .u64 ((65536 + nd true 3 : Nat) : Int), .int .u64 ((65536 + nd true 4 : Nat) : Int), .int .u64 ((65536 + nd true 5 : Nat) : Int), .int .u64 ((65536 + nd true 6 : Nat) : Int), .int .i64 (wd true : Int)] 51), (b, C (arrL 16391 (encM m)) 75)]) := by
  refine f_enter (args := [.pointer (some ⟨ob, 0, none⟩), .int .i64 t, .pointer (some ⟨ob, eo k, none⟩)]) Try.func82 rfl Try.ntmps82 rfl ?_
  intro w0 w a hpre hl hh
  simp only [slotsFrom, Nat.reduceAdd] at hl
  refine c_seq ?_
  refine c_draw [(ob, C (arrL 50 (encO wb x)) 86), (wb, C [.pointer (some ⟨b, 0, none⟩), .pointer (some ⟨kb, 0, none⟩), .int .u64 ((65536 + hd false : Nat) : Int), .int .u64 ((65536 + nd false 0 : Nat) : Int), .int .u64 ((65536 + nd false 1 : Nat) : Int), .int .u64 ((65536 + nd false 2 : Nat) : Int), .int .u64 ((65536 + nd false 3 : Nat) : Int), .int .u64 ((65536 + nd false 4 : Nat) : Int), .int .u64 ((65536 + nd false 5 : Nat) : Int), .int .u64 ((65536 + nd false 6 : Nat) : Int), .int .i64 (wd false : Int), .int .u64 ((65536 + hd true : Nat) : Int), .int .u64 ((65536 + nd true 0 : Nat) : Int), .int .u64 ((65536 + nd true 1 : Nat) : Int), .int .u64 ((65536 + nd true 2 : Nat) : Int), .int .u64 ((65536 + nd true 3 : Nat) : Int), .int .u64 ((65536 + nd true 4 : Nat) : Int), .int .u64 ((65536 + nd true 5 : Nat) : Int), .int .u64 ((65536 + nd true 6 : Nat) : Int), .int .i64 (wd true : Int)] 51), (b, C (arrL 16391 (encM m)) 75)] [16, 17] mixed hh ?_
  clear hh w; intro w hh
  have hM : Mem [(ob, C (arrL 50 (encO wb x)) 86), (wb, C [.pointer (some ⟨b, 0, none⟩), .pointer (some ⟨kb, 0, none⟩), .int .u64 ((65536 + hd false : Nat) : Int), .int .u64 ((65536 + nd false 0 : Nat) : Int), .int .u64 ((65536 + nd false 1 : Nat) : Int), .int .u64 ((65536 + nd false 2 : Nat) : Int), .int .u64 ((65536 + nd false 3 : Nat) : Int), .int .u64 ((65536 + nd false 4 : Nat) : Int), .int .u64 ((65536 + nd false 5 : Nat) : Int), .int .u64 ((65536 + nd false 6 : Nat) : Int), .int .i64 (wd false : Int), .int .u64 ((65536 + hd true : Nat) : Int), .int .u64 ((65536 + nd true 0 : Nat) : Int), .int .u64 ((65536 + nd true 1 : Nat) : Int), .int .u64 ((65536 + nd true 2 : Nat) : Int), .int .u64 ((65536 + nd true 3 : Nat) : Int), .int .u64 ((65536 + nd true 4 : Nat) : Int), .int .u64 ((65536 + nd true 5 : Nat) : Int), .int .u64 ((65536 + nd true 6 : Nat) : Int), .int .i64 (wd true : Int)] 51), (b, C (arrL 16391 (encM m)) 75)] w := (by repeat (first | exact Mem.nil | refine Mem.cons hh.mem (by repeat (first | exact find_head | apply find_tail)) ?_ | refine Mem.consR hh (by assumption) (by simp) ?_))
  refine d_take (i := 0) hl rfl (by kernel_rfl) (by kernel_rfl) (by kernel_rfl) (by kernel_rfl) (by kernel_rfl) rfl trivial (fun _ _ _ h => h) hM (fun w hC => r_move hl rfl) rfl ?_
  clear hl a; intro a hl
  refine d_take (i := 1) hl rfl (by kernel_rfl) (by kernel_rfl) (by kernel_rfl) (by kernel_rfl) (by kernel_rfl) rfl trivial (fun _ _ _ h => h) hM (fun w hC => r_move hl rfl) rfl ?_
  clear hl a; intro a hl
  refine d_take (i := 2) hl rfl (by kernel_rfl) (by kernel_rfl) (by kernel_rfl) (by kernel_rfl) (by kernel_rfl) rfl trivial (fun _ _ _ h => h) hM (fun w hC => r_move hl rfl) rfl ?_
  clear hl a; intro a hl
  refine d_take (i := 3) hl rfl (by kernel_rfl) (by kernel_rfl) (by kernel_rfl) (by kernel_rfl) (by kernel_rfl) rfl trivial (fun _ _ _ h => h) hM (fun w hC => r_move hl rfl) rfl ?_
  clear hl a; intro a hl
  refine d_take (i := 4) hl rfl (by kernel_rfl) (by kernel_rfl) (by kernel_rfl) (by kernel_rfl) (by kernel_rfl) rfl trivial (fun _ _ _ h => h) hM (fun w hC => r_nilCheck hl rfl) rfl ?_
  clear hl a; intro a hl
  refine d_take (i := 5) hl rfl (by kernel_rfl) (by kernel_rfl) (by kernel_rfl) (by kernel_rfl) (by kernel_rfl) rfl trivial (fun _ _ _ h => h) hM (fun w hC => r_field hl rfl fld86_5) rfl ?_
  clear hl a; intro a hl
  refine d_take (i := 6) hl rfl (by kernel_rfl) (by kernel_rfl) (by kernel_rfl) (by kernel_rfl) (by kernel_rfl) rfl trivial (fun _ _ _ h => h) hM (fun w hC => r_indexA hl rfl rfl arr84 (by omega) (by omega) (by first | (simp only [Int.reduceToNat]; rfl) | exact toNat_add1 _ | exact toNat_add2 _ _ | exact toNat_emod _ _ | exact Int.toNat_natCast _ | rfl)) rfl ?_
  clear hl a; intro a hl
  refine d_take (i := 7) hl rfl (by kernel_rfl) (by kernel_rfl) (by kernel_rfl) (by kernel_rfl) (by kernel_rfl) rfl trivial (fun _ _ _ h => h) hM (fun w hC => r_loadC hl rfl one4 hC (by repeat (first | exact find_head | apply find_tail)) (by exact lo_full _ _ _ (by omega))) rfl ?_
  clear hl a; intro a hl
  refine d_take (i := 8) hl rfl (by kernel_rfl) (by kernel_rfl) (by kernel_rfl) (by kernel_rfl) (by kernel_rfl) rfl trivial (fun _ _ _ h => h) hM (fun w hC => r_move hl rfl) rfl ?_
  clear hl a; intro a hl
  refine sl_split (t := 14) hl rfl ?_ ?_
  · intro hg1; clear hl; intro hl
    try simp only [decide_eq_true_eq, decide_eq_false_iff_not, Bool.not_eq_true', Bool.not_eq_false', Bool.not_eq_true, Bool.not_eq_false, Bool.and_eq_true, Bool.or_eq_true, Bool.and_eq_false_iff, Bool.or_eq_false_iff, Bool.not_not, ne_eq, Int.not_lt, Int.not_le, Decidable.not_not, beq_iff_eq, bne_iff_ne] at hg1
    refine d_skip (i := 9) hl rfl (by kernel_rfl) (by kernel_rfl) (by kernel_rfl) (by kernel_rfl) (by kernel_rfl) rfl ⟨_, _, rfl, rfl, rfl⟩ (fun _ _ _ h => h) hM ?_
    clear hl a; intro a hl
    refine d_skip (i := 10) hl rfl (by kernel_rfl) (by kernel_rfl) (by kernel_rfl) (by kernel_rfl) (by kernel_rfl) rfl ⟨_, _, rfl, rfl, rfl⟩ (fun _ _ _ h => h) hM ?_
    clear hl a; intro a hl
    refine d_skip (i := 11) hl rfl (by kernel_rfl) (by kernel_rfl) (by kernel_rfl) (by kernel_rfl) (by kernel_rfl) rfl ⟨_, _, rfl, rfl, rfl⟩ (fun _ _ _ h => h) hM ?_
    clear hl a; intro a hl
    refine d_skip (i := 12) hl rfl (by kernel_rfl) (by kernel_rfl) (by kernel_rfl) (by kernel_rfl) (by kernel_rfl) rfl ⟨_, _, rfl, rfl, rfl⟩ (fun _ _ _ h => h) hM ?_
    clear hl a; intro a hl
    refine d_take (i := 13) hl rfl (by kernel_rfl) (by kernel_rfl) (by kernel_rfl) (by kernel_rfl) (by kernel_rfl) rfl trivial (fun _ _ _ h => h) hM (fun w hC => r_pickT hl rfl rfl) rfl ?_
    clear hl a; intro a hl
    refine d_take (i := 14) hl rfl (by kernel_rfl) (by kernel_rfl) (by kernel_rfl) (by kernel_rfl) (by kernel_rfl) rfl trivial (fun _ _ _ h => h) hM (fun w hC => r_nilCheck hl rfl) rfl ?_
    clear hl a; intro a hl
    refine d_take (i := 15) hl rfl (by kernel_rfl) (by kernel_rfl) (by kernel_rfl) (by kernel_rfl) (by kernel_rfl) rfl trivial (fun _ _ _ h => h) hM (fun w hC => r_field hl rfl fld86_5) rfl ?_
    clear hl a; intro a hl
    refine d_takeL (i := 16) hl rfl (by kernel_rfl) (by kernel_rfl) (by kernel_rfl) (by kernel_rfl) (by kernel_rfl) rfl trivial (fun _ _ _ h => h) (fun w => r_indexA hl rfl rfl arr84 (by omega) (by omega) (by first | (simp only [Int.reduceToNat]; rfl) | exact toNat_add1 _ | exact toNat_add2 _ _ | exact toNat_emod _ _ | exact Int.toNat_natCast _ | rfl)) rfl ?_
    clear hl a; intro a hl
    refine d_one (i := 17) (by kernel_rfl) rfl ?_
    try clear hM
    refine id (w_store hl hh trivial one4 rfl rfl (by repeat (first | exact find_head | apply find_tail)) (by rw [arrL_length]; omega) (by first | rfl | assumption | (apply Row.one; assumption)) (by exact so_full _ _ _ _ (by omega)) ?_)
    clear hh w; intro w hh
    refine d_step (fun h => absurd h (by decide)) ?_
    refine d_done (by kernel_rfl) ?_
    try clear hM
    have hl2 := hl.add (t := 0) (hl.add (t := 1) (hl.add (t := 2) (hl.nil) rfl) rfl) rfl; clear hl; have hl := hl2; clear hl2
    refine then_normal ?_
    refine c_draw [(ob, C (arrL 50 (encO wb { x with full := updF x.full t true })) 86), (wb, C [.pointer (some ⟨b, 0, none⟩), .pointer (some ⟨kb, 0, none⟩), .int .u64 ((65536 + hd false : Nat) : Int), .int .u64 ((65536 + nd false 0 : Nat) : Int), .int .u64 ((65536 + nd false 1 : Nat) : Int), .int .u64 ((65536 + nd false 2 : Nat) : Int), .int .u64 ((65536 + nd false 3 : Nat) : Int), .int .u64 ((65536 + nd false 4 : Nat) : Int), .int .u64 ((65536 + nd false 5 : Nat) : Int), .int .u64 ((65536 + nd false 6 : Nat) : Int), .int .i64 (wd false : Int), .int .u64 ((65536 + hd true : Nat) : Int), .int .u64 ((65536 + nd true 0 : Nat) : Int), .int .u64 ((65536 + nd true 1 : Nat) : Int), .int .u64 ((65536 + nd true 2 : Nat) : Int), .int .u64 ((65536 + nd true 3 : Nat) : Int), .int .u64 ((65536 + nd true 4 : Nat) : Int), .int .u64 ((65536 + nd true 5 : Nat) : Int), .int .u64 ((65536 + nd true 6 : Nat) : Int), .int .i64 (wd true : Int)] 51)] [16, 17] mixed hh ?_
    clear hh w; intro w hh
    have hM : Mem [(ob, C (arrL 50 (encO wb { x with full := updF x.full t true })) 86), (wb, C [.pointer (some ⟨b, 0, none⟩), .pointer (some ⟨kb, 0, none⟩), .int .u64 ((65536 + hd false : Nat) : Int), .int .u64 ((65536 + nd false 0 : Nat) : Int), .int .u64 ((65536 + nd false 1 : Nat) : Int), .int .u64 ((65536 + nd false 2 : Nat) : Int), .int .u64 ((65536 + nd false 3 : Nat) : Int), .int .u64 ((65536 + nd false 4 : Nat) : Int), .int .u64 ((65536 + nd false 5 : Nat) : Int), .int .u64 ((65536 + nd false 6 : Nat) : Int), .int .i64 (wd false : Int), .int .u64 ((65536 + hd true : Nat) : Int), .int .u64 ((65536 + nd true 0 : Nat) : Int), .int .u64 ((65536 + nd true 1 : Nat) : Int), .int .u64 ((65536 + nd true 2 : Nat) : Int), .int .u64 ((65536 + nd true 3 : Nat) : Int), .int .u64 ((65536 + nd true 4 : Nat) : Int), .int .u64 ((65536 + nd true 5 : Nat) : Int), .int .u64 ((65536 + nd true 6 : Nat) : Int), .int .i64 (wd true : Int)] 51)] w := (by repeat (first | exact Mem.nil | refine Mem.cons hh.mem (by repeat (first | exact find_head | apply find_tail)) ?_ | refine Mem.consR hh (by assumption) (by simp) ?_))
    refine d_take (i := 0) hl rfl (by kernel_rfl) (by kernel_rfl) (by kernel_rfl) (by kernel_rfl) (by kernel_rfl) rfl trivial (fun _ _ _ h => h) hM (fun w hC => r_move hl rfl) rfl ?_
    clear hl a; intro a hl
    refine d_take (i := 1) hl rfl (by kernel_rfl) (by kernel_rfl) (by kernel_rfl) (by kernel_rfl) (by kernel_rfl) rfl trivial (fun _ _ _ h => h) hM (fun w hC => r_move hl rfl) rfl ?_
    clear hl a; intro a hl
    refine d_take (i := 2) hl rfl (by kernel_rfl) (by kernel_rfl) (by kernel_rfl) (by kernel_rfl) (by kernel_rfl) rfl trivial (fun _ _ _ h => h) hM (fun w hC => r_move hl rfl) rfl ?_
    clear hl a; intro a hl
    refine d_take (i := 3) hl rfl (by kernel_rfl) (by kernel_rfl) (by kernel_rfl) (by kernel_rfl) (by kernel_rfl) rfl trivial (fun _ _ _ h => h) hM (fun w hC => r_move hl rfl) rfl ?_
    clear hl a; intro a hl
    refine d_take (i := 4) hl rfl (by kernel_rfl) (by kernel_rfl) (by kernel_rfl) (by kernel_rfl) (by kernel_rfl) rfl trivial (fun _ _ _ h => h) hM (fun w hC => r_nilCheck hl rfl) rfl ?_
    clear hl a; intro a hl
    refine d_take (i := 5) hl rfl (by kernel_rfl) (by kernel_rfl) (by kernel_rfl) (by kernel_rfl) (by kernel_rfl) rfl trivial (fun _ _ _ h => h) hM (fun w hC => r_field hl rfl fld86_6) rfl ?_
    clear hl a; intro a hl
    refine d_take (i := 6) hl rfl (by kernel_rfl) (by kernel_rfl) (by kernel_rfl) (by kernel_rfl) (by kernel_rfl) rfl trivial (fun _ _ _ h => h) hM (fun w hC => r_indexA hl rfl rfl arr84 (by omega) (by omega) (by first | (simp only [Int.reduceToNat]; rfl) | exact toNat_add1 _ | exact toNat_add2 _ _ | exact toNat_emod _ _ | exact Int.toNat_natCast _ | rfl)) rfl ?_
    clear hl a; intro a hl
    refine d_take (i := 7) hl rfl (by kernel_rfl) (by kernel_rfl) (by kernel_rfl) (by kernel_rfl) (by kernel_rfl) rfl trivial (fun _ _ _ h => h) hM (fun w hC => r_loadC hl rfl one4 hC (by repeat (first | exact find_head | apply find_tail)) (by exact lo_empty _ _ _ (by omega))) rfl ?_
    clear hl a; intro a hl
    refine d_take (i := 8) hl rfl (by kernel_rfl) (by kernel_rfl) (by kernel_rfl) (by kernel_rfl) (by kernel_rfl) rfl trivial (fun _ _ _ h => h) hM (fun w hC => r_move hl rfl) rfl ?_
    clear hl a; intro a hl
    refine sl_split (t := 31) hl rfl ?_ ?_
    · intro hg2; clear hl; intro hl
      try simp only [decide_eq_true_eq, decide_eq_false_iff_not, Bool.not_eq_true', Bool.not_eq_false', Bool.not_eq_true, Bool.not_eq_false, Bool.and_eq_true, Bool.or_eq_true, Bool.and_eq_false_iff, Bool.or_eq_false_iff, Bool.not_not, ne_eq, Int.not_lt, Int.not_le, Decidable.not_not, beq_iff_eq, bne_iff_ne] at hg2
      refine d_skip (i := 9) hl rfl (by kernel_rfl) (by kernel_rfl) (by kernel_rfl) (by kernel_rfl) (by kernel_rfl) rfl ⟨_, _, rfl, rfl, rfl⟩ (fun _ _ _ h => h) hM ?_
      clear hl a; intro a hl
      refine d_skip (i := 10) hl rfl (by kernel_rfl) (by kernel_rfl) (by kernel_rfl) (by kernel_rfl) (by kernel_rfl) rfl ⟨_, _, rfl, rfl, rfl⟩ (fun _ _ _ h => h) hM ?_
      clear hl a; intro a hl
      refine d_skip (i := 11) hl rfl (by kernel_rfl) (by kernel_rfl) (by kernel_rfl) (by kernel_rfl) (by kernel_rfl) rfl ⟨_, _, rfl, rfl, rfl⟩ (fun _ _ _ h => h) hM ?_
      clear hl a; intro a hl
      refine d_skip (i := 12) hl rfl (by kernel_rfl) (by kernel_rfl) (by kernel_rfl) (by kernel_rfl) (by kernel_rfl) rfl ⟨_, _, rfl, rfl, rfl⟩ (fun _ _ _ h => h) hM ?_
      clear hl a; intro a hl
      refine d_take (i := 13) hl rfl (by kernel_rfl) (by kernel_rfl) (by kernel_rfl) (by kernel_rfl) (by kernel_rfl) rfl trivial (fun _ _ _ h => h) hM (fun w hC => r_pickT hl rfl rfl) rfl ?_
      clear hl a; intro a hl
      refine d_take (i := 14) hl rfl (by kernel_rfl) (by kernel_rfl) (by kernel_rfl) (by kernel_rfl) (by kernel_rfl) rfl trivial (fun _ _ _ h => h) hM (fun w hC => r_nilCheck hl rfl) rfl ?_
      clear hl a; intro a hl
      refine d_take (i := 15) hl rfl (by kernel_rfl) (by kernel_rfl) (by kernel_rfl) (by kernel_rfl) (by kernel_rfl) rfl trivial (fun _ _ _ h => h) hM (fun w hC => r_field hl rfl fld86_6) rfl ?_
      clear hl a; intro a hl
      refine d_takeL (i := 16) hl rfl (by kernel_rfl) (by kernel_rfl) (by kernel_rfl) (by kernel_rfl) (by kernel_rfl) rfl trivial (fun _ _ _ h => h) (fun w => r_indexA hl rfl rfl arr84 (by omega) (by omega) (by first | (simp only [Int.reduceToNat]; rfl) | exact toNat_add1 _ | exact toNat_add2 _ _ | exact toNat_emod _ _ | exact Int.toNat_natCast _ | rfl)) rfl ?_
      clear hl a; intro a hl
      refine d_one (i := 17) (by kernel_rfl) rfl ?_
      try clear hM
      refine id (w_store hl hh trivial one4 rfl rfl (by repeat (first | exact find_head | apply find_tail)) (by rw [arrL_length]; omega) (by first | rfl | assumption | (apply Row.one; assumption)) (by exact so_empty _ _ _ _ (by omega)) ?_)
      clear hh w; intro w hh
      refine d_step (fun h => absurd h (by decide)) ?_
      refine d_done (by kernel_rfl) ?_
      try clear hM
      have hl2 := hl.nil; clear hl; have hl := hl2; clear hl2
      refine f_end0 (F' := [(ob, C (arrL 50 (encO wb (noteX x t (m.word (nd k (r % 256)))))) 86), (wb, C [.pointer (some ⟨b, 0, none⟩), .pointer (some ⟨kb, 0, none⟩), .int .u64 ((65536 + hd false : Nat) : Int), .int .u64 ((65536 + nd false 0 : Nat) : Int), .int .u64 ((65536 + nd false 1 : Nat) : Int), .int .u64 ((65536 + nd false 2 : Nat) : Int), .int .u64 ((65536 + nd false 3 : Nat) : Int), .int .u64 ((65536 + nd false 4 : Nat) : Int), .int .u64 ((65536 + nd false 5 : Nat) : Int), .int .u64 ((65536 + nd false 6 : Nat) : Int), .int .i64 (wd false : Int), .int .u64 ((65536 + hd true : Nat) : Int), .int .u64 ((65536 + nd true 0 : Nat) : Int), .int .u64 ((65536 + nd true 1 : Nat) : Int), .int .u64 ((65536 + nd true 2 : Nat) : Int), .int .u64 ((65536 + nd true 3 : Nat) : Int), .int .u64 ((65536 + nd true 4 : Nat) : Int), .int .u64 ((65536 + nd true 5 : Nat) : Int), .int .u64 ((65536 + nd true 6 : Nat) : Int), .int .i64 (wd true : Int)] 51), (b, C (arrL 16391 (encM m)) 75)]) hl hh rfl (by repeat (first | exact keeps_nil | apply keeps_cons (by repeat (first | exact find_head | apply find_tail)) (by first  | (refine congrArg (fun z => C (arrL 50 (encO wb z)) 86) (noteX_eq x t _ _ _ ?_ ?_) <;> simp_all) | rfl) | exact keeps_self | apply keeps_mv)) ?_
      exact ⟨rfl, rfl⟩
    · intro hg2; clear hl; intro hl
      try simp only [decide_eq_true_eq, decide_eq_false_iff_not, Bool.not_eq_true', Bool.not_eq_false', Bool.not_eq_true, Bool.not_eq_false, Bool.and_eq_true, Bool.or_eq_true, Bool.and_eq_false_iff, Bool.or_eq_false_iff, Bool.not_not, ne_eq, Int.not_lt, Int.not_le, Decidable.not_not, beq_iff_eq, bne_iff_ne] at hg2
      refine d_take (i := 9) hl rfl (by kernel_rfl) (by kernel_rfl) (by kernel_rfl) (by kernel_rfl) (by kernel_rfl) rfl ⟨_, _, rfl, rfl, rfl⟩ (fun _ _ _ h => h) hM (fun w hC => r_move hl rfl) rfl ?_
      clear hl a; intro a hl
      refine d_take (i := 10) hl rfl (by kernel_rfl) (by kernel_rfl) (by kernel_rfl) (by kernel_rfl) (by kernel_rfl) rfl ⟨_, _, rfl, rfl, rfl⟩ (fun _ _ _ h => h) hM (fun w hC => r_move hl rfl) rfl ?_
      clear hl a; intro a hl
      refine d_take (i := 14) hl rfl (by kernel_rfl) (by kernel_rfl) (by kernel_rfl) (by kernel_rfl) (by kernel_rfl) rfl trivial (fun _ _ _ h => h) hM (fun w hC => r_nilCheck hl rfl) rfl ?_
      clear hl a; intro a hl
      refine d_take (i := 15) hl rfl (by kernel_rfl) (by kernel_rfl) (by kernel_rfl) (by kernel_rfl) (by kernel_rfl) rfl trivial (fun _ _ _ h => h) hM (fun w hC => r_field hl rfl fld86_6) rfl ?_
      clear hl a; intro a hl
      refine d_one (i := 11) (by kernel_rfl) rfl ?_
      try clear hM
      refine id (w_call hl hh rfl ⟨_, _, rfl, rfl, rfl⟩ rfl cal85 rfl (size_spec ob wb b kb { x with full := updF x.full t true } m k r hr hr7) (by repeat (first | exact keeps_nil | apply keeps_cons (by repeat (first | exact find_head | apply find_tail)) (by first  | rfl) | exact keeps_self | apply keeps_mv)) trivial ?_)
      clear hl hh a w; intro vc Fc a w hR hl hh
      obtain ⟨rfl, rfl⟩ := hR
      try simp only [List.cons_append, List.nil_append] at hh
      have hM : Mem [(ob, C (arrL 50 (encO wb { x with full := updF x.full t true })) 86), (wb, C [.pointer (some ⟨b, 0, none⟩), .pointer (some ⟨kb, 0, none⟩), .int .u64 ((65536 + hd false : Nat) : Int), .int .u64 ((65536 + nd false 0 : Nat) : Int), .int .u64 ((65536 + nd false 1 : Nat) : Int), .int .u64 ((65536 + nd false 2 : Nat) : Int), .int .u64 ((65536 + nd false 3 : Nat) : Int), .int .u64 ((65536 + nd false 4 : Nat) : Int), .int .u64 ((65536 + nd false 5 : Nat) : Int), .int .u64 ((65536 + nd false 6 : Nat) : Int), .int .i64 (wd false : Int), .int .u64 ((65536 + hd true : Nat) : Int), .int .u64 ((65536 + nd true 0 : Nat) : Int), .int .u64 ((65536 + nd true 1 : Nat) : Int), .int .u64 ((65536 + nd true 2 : Nat) : Int), .int .u64 ((65536 + nd true 3 : Nat) : Int), .int .u64 ((65536 + nd true 4 : Nat) : Int), .int .u64 ((65536 + nd true 5 : Nat) : Int), .int .u64 ((65536 + nd true 6 : Nat) : Int), .int .i64 (wd true : Int)] 51)] w := (by repeat (first | exact Mem.nil | refine Mem.cons hh.mem (by repeat (first | exact find_head | apply find_tail)) ?_ | refine Mem.consR hh (by assumption) (by simp) ?_))
      refine d_step (fun _ => hM) ?_
      refine d_take (i := 12) hl rfl (by kernel_rfl) (by kernel_rfl) (by kernel_rfl) (by kernel_rfl) (by kernel_rfl) rfl ⟨_, _, rfl, rfl, rfl⟩ (fun _ _ _ h => h) hM (fun w hC => r_eql hl rfl rfl) rfl ?_
      clear hl a; intro a hl
      refine d_take (i := 13) hl rfl (by kernel_rfl) (by kernel_rfl) (by kernel_rfl) (by kernel_rfl) (by kernel_rfl) rfl trivial (fun _ _ _ h => h) hM (fun w hC => r_pickF hl rfl rfl) rfl ?_
      clear hl a; intro a hl
      refine d_takeL (i := 16) hl rfl (by kernel_rfl) (by kernel_rfl) (by kernel_rfl) (by kernel_rfl) (by kernel_rfl) rfl trivial (fun _ _ _ h => h) (fun w => r_indexA hl rfl rfl arr84 (by omega) (by omega) (by first | (simp only [Int.reduceToNat]; rfl) | exact toNat_add1 _ | exact toNat_add2 _ _ | exact toNat_emod _ _ | exact Int.toNat_natCast _ | rfl)) rfl ?_
      clear hl a; intro a hl
      refine d_one (i := 17) (by kernel_rfl) rfl ?_
      try clear hM
      refine id (w_store hl hh trivial one4 rfl rfl (by repeat (first | exact find_head | apply find_tail)) (by rw [arrL_length]; omega) (by first | rfl | assumption | (apply Row.one; assumption)) (by exact so_empty _ _ _ _ (by omega)) ?_)
      clear hh w; intro w hh
      refine d_step (fun h => absurd h (by decide)) ?_
      refine d_done (by kernel_rfl) ?_
      try clear hM
      have hl2 := hl.nil; clear hl; have hl := hl2; clear hl2
      refine f_end0 (F' := [(ob, C (arrL 50 (encO wb (noteX x t (m.word (nd k (r % 256)))))) 86), (wb, C [.pointer (some ⟨b, 0, none⟩), .pointer (some ⟨kb, 0, none⟩), .int .u64 ((65536 + hd false : Nat) : Int), .int .u64 ((65536 + nd false 0 : Nat) : Int), .int .u64 ((65536 + nd false 1 : Nat) : Int), .int .u64 ((65536 + nd false 2 : Nat) : Int), .int .u64 ((65536 + nd false 3 : Nat) : Int), .int .u64 ((65536 + nd false 4 : Nat) : Int), .int .u64 ((65536 + nd false 5 : Nat) : Int), .int .u64 ((65536 + nd false 6 : Nat) : Int), .int .i64 (wd false : Int), .int .u64 ((65536 + hd true : Nat) : Int), .int .u64 ((65536 + nd true 0 : Nat) : Int), .int .u64 ((65536 + nd true 1 : Nat) : Int), .int .u64 ((65536 + nd true 2 : Nat) : Int), .int .u64 ((65536 + nd true 3 : Nat) : Int), .int .u64 ((65536 + nd true 4 : Nat) : Int), .int .u64 ((65536 + nd true 5 : Nat) : Int), .int .u64 ((65536 + nd true 6 : Nat) : Int), .int .i64 (wd true : Int)] 51), (b, C (arrL 16391 (encM m)) 75)]) hl hh rfl (by repeat (first | exact keeps_nil | apply keeps_cons (by repeat (first | exact find_head | apply find_tail)) (by first  | (refine congrArg (fun z => C (arrL 50 (encO wb z)) 86) (noteX_eq x t _ _ _ ?_ ?_) <;> simp_all) | rfl) | exact keeps_self | apply keeps_mv)) ?_
      exact ⟨rfl, rfl⟩
  · intro hg1; clear hl; intro hl
    try simp only [decide_eq_true_eq, decide_eq_false_iff_not, Bool.not_eq_true', Bool.not_eq_false', Bool.not_eq_true, Bool.not_eq_false, Bool.and_eq_true, Bool.or_eq_true, Bool.and_eq_false_iff, Bool.or_eq_false_iff, Bool.not_not, ne_eq, Int.not_lt, Int.not_le, Decidable.not_not, beq_iff_eq, bne_iff_ne] at hg1
    exfalso; simp_all

set_option maxHeartbeats 1000000 in
theorem note_b (ob wb b kb : Nat) (x : OX) (m : MS) (t : Nat) (ht : t < 6) (k : Bool) (r : Nat) (hr : x.rt k = r) (hr7 : r % 256 < 7) (hf : x.full t = false) : Sp Try.prog 82 #[.pointer (some ⟨ob, 0, none⟩), .int .i64 t, .pointer (some ⟨ob, eo k, none⟩)] [(ob, C (arrL 50 (encO wb x)) 86), (wb, C [.pointer (some ⟨b, 0, none⟩), .pointer (some ⟨kb, 0, none⟩), .int .u64 ((65536 + hd false : Nat) : Int), .int .u64 ((65536 + nd false 0 : Nat) : Int), .int .u64 ((65536 + nd false 1 : Nat) : Int), .int .u64 ((65536 + nd false 2 : Nat) : Int), .int .u64 ((65536 + nd false 3 : Nat) : Int), .int .u64 ((65536 + nd false 4 : Nat) : Int), .int .u64 ((65536 + nd false 5 : Nat) : Int), .int .u64 ((65536 + nd false 6 : Nat) : Int), .int .i64 (wd false : Int), .int .u64 ((65536 + hd true : Nat) : Int), .int .u64 ((65536 + nd true 0 : Nat) : Int), .int .u64 ((65536 + nd true 1 : Nat) : Int), .int .u64 ((65536 + nd true 2 : Nat) : Int), .int .u64 ((65536 + nd true 3 : Nat) : Int), .int .u64 ((65536 + nd true 4 : Nat) : Int), .int .u64 ((65536 + nd true 5 : Nat) : Int), .int .u64 ((65536 + nd true 6 : Nat) : Int), .int .i64 (wd true : Int)] 51), (b, C (arrL 16391 (encM m)) 75)] (fun v F' => v = .tuple #[] ∧ F' = [(ob, C (arrL 50 (encO wb (noteX x t (m.word (nd k (r % 256)))))) 86), (wb, C [.pointer (some ⟨b, 0, none⟩), .pointer (some ⟨kb, 0, none⟩), .int .u64 ((65536 + hd false : Nat) : Int), .int .u64 ((65536 + nd false 0 : Nat) : Int), .int .u64 ((65536 + nd false 1 : Nat) : Int), .int .u64 ((65536 + nd false 2 : Nat) : Int), .int .u64 ((65536 + nd false 3 : Nat) : Int), .int .u64 ((65536 + nd false 4 : Nat) : Int), .int .u64 ((65536 + nd false 5 : Nat) : Int), .int .u64 ((65536 + nd false 6 : Nat) : Int), .int .i64 (wd false : Int), .int .u64 ((65536 + hd true : Nat) : Int), .int .u64 ((65536 + nd true 0 : Nat) : Int), .int .u64 ((65536 + nd true 1 : Nat) : Int), .int .u64 ((65536 + nd true 2 : Nat) : Int), .int .u64 ((65536 + nd true 3 : Nat) : Int), .int .u64 ((65536 + nd true 4 : Nat) : Int), .int .u64 ((65536 + nd true 5 : Nat) : Int), .int .u64 ((65536 + nd true 6 : Nat) : Int), .int .i64 (wd true : Int)] 51), (b, C (arrL 16391 (encM m)) 75)]) := by
  refine f_enter (args := [.pointer (some ⟨ob, 0, none⟩), .int .i64 t, .pointer (some ⟨ob, eo k, none⟩)]) Try.func82 rfl Try.ntmps82 rfl ?_
  intro w0 w a hpre hl hh
  simp only [slotsFrom, Nat.reduceAdd] at hl
  refine c_seq ?_
  refine c_draw [(ob, C (arrL 50 (encO wb x)) 86), (wb, C [.pointer (some ⟨b, 0, none⟩), .pointer (some ⟨kb, 0, none⟩), .int .u64 ((65536 + hd false : Nat) : Int), .int .u64 ((65536 + nd false 0 : Nat) : Int), .int .u64 ((65536 + nd false 1 : Nat) : Int), .int .u64 ((65536 + nd false 2 : Nat) : Int), .int .u64 ((65536 + nd false 3 : Nat) : Int), .int .u64 ((65536 + nd false 4 : Nat) : Int), .int .u64 ((65536 + nd false 5 : Nat) : Int), .int .u64 ((65536 + nd false 6 : Nat) : Int), .int .i64 (wd false : Int), .int .u64 ((65536 + hd true : Nat) : Int), .int .u64 ((65536 + nd true 0 : Nat) : Int), .int .u64 ((65536 + nd true 1 : Nat) : Int), .int .u64 ((65536 + nd true 2 : Nat) : Int), .int .u64 ((65536 + nd true 3 : Nat) : Int), .int .u64 ((65536 + nd true 4 : Nat) : Int), .int .u64 ((65536 + nd true 5 : Nat) : Int), .int .u64 ((65536 + nd true 6 : Nat) : Int), .int .i64 (wd true : Int)] 51), (b, C (arrL 16391 (encM m)) 75)] [16, 17] mixed hh ?_
  clear hh w; intro w hh
  have hM : Mem [(ob, C (arrL 50 (encO wb x)) 86), (wb, C [.pointer (some ⟨b, 0, none⟩), .pointer (some ⟨kb, 0, none⟩), .int .u64 ((65536 + hd false : Nat) : Int), .int .u64 ((65536 + nd false 0 : Nat) : Int), .int .u64 ((65536 + nd false 1 : Nat) : Int), .int .u64 ((65536 + nd false 2 : Nat) : Int), .int .u64 ((65536 + nd false 3 : Nat) : Int), .int .u64 ((65536 + nd false 4 : Nat) : Int), .int .u64 ((65536 + nd false 5 : Nat) : Int), .int .u64 ((65536 + nd false 6 : Nat) : Int), .int .i64 (wd false : Int), .int .u64 ((65536 + hd true : Nat) : Int), .int .u64 ((65536 + nd true 0 : Nat) : Int), .int .u64 ((65536 + nd true 1 : Nat) : Int), .int .u64 ((65536 + nd true 2 : Nat) : Int), .int .u64 ((65536 + nd true 3 : Nat) : Int), .int .u64 ((65536 + nd true 4 : Nat) : Int), .int .u64 ((65536 + nd true 5 : Nat) : Int), .int .u64 ((65536 + nd true 6 : Nat) : Int), .int .i64 (wd true : Int)] 51), (b, C (arrL 16391 (encM m)) 75)] w := (by repeat (first | exact Mem.nil | refine Mem.cons hh.mem (by repeat (first | exact find_head | apply find_tail)) ?_ | refine Mem.consR hh (by assumption) (by simp) ?_))
  refine d_take (i := 0) hl rfl (by kernel_rfl) (by kernel_rfl) (by kernel_rfl) (by kernel_rfl) (by kernel_rfl) rfl trivial (fun _ _ _ h => h) hM (fun w hC => r_move hl rfl) rfl ?_
  clear hl a; intro a hl
  refine d_take (i := 1) hl rfl (by kernel_rfl) (by kernel_rfl) (by kernel_rfl) (by kernel_rfl) (by kernel_rfl) rfl trivial (fun _ _ _ h => h) hM (fun w hC => r_move hl rfl) rfl ?_
  clear hl a; intro a hl
  refine d_take (i := 2) hl rfl (by kernel_rfl) (by kernel_rfl) (by kernel_rfl) (by kernel_rfl) (by kernel_rfl) rfl trivial (fun _ _ _ h => h) hM (fun w hC => r_move hl rfl) rfl ?_
  clear hl a; intro a hl
  refine d_take (i := 3) hl rfl (by kernel_rfl) (by kernel_rfl) (by kernel_rfl) (by kernel_rfl) (by kernel_rfl) rfl trivial (fun _ _ _ h => h) hM (fun w hC => r_move hl rfl) rfl ?_
  clear hl a; intro a hl
  refine d_take (i := 4) hl rfl (by kernel_rfl) (by kernel_rfl) (by kernel_rfl) (by kernel_rfl) (by kernel_rfl) rfl trivial (fun _ _ _ h => h) hM (fun w hC => r_nilCheck hl rfl) rfl ?_
  clear hl a; intro a hl
  refine d_take (i := 5) hl rfl (by kernel_rfl) (by kernel_rfl) (by kernel_rfl) (by kernel_rfl) (by kernel_rfl) rfl trivial (fun _ _ _ h => h) hM (fun w hC => r_field hl rfl fld86_5) rfl ?_
  clear hl a; intro a hl
  refine d_take (i := 6) hl rfl (by kernel_rfl) (by kernel_rfl) (by kernel_rfl) (by kernel_rfl) (by kernel_rfl) rfl trivial (fun _ _ _ h => h) hM (fun w hC => r_indexA hl rfl rfl arr84 (by omega) (by omega) (by first | (simp only [Int.reduceToNat]; rfl) | exact toNat_add1 _ | exact toNat_add2 _ _ | exact toNat_emod _ _ | exact Int.toNat_natCast _ | rfl)) rfl ?_
  clear hl a; intro a hl
  refine d_take (i := 7) hl rfl (by kernel_rfl) (by kernel_rfl) (by kernel_rfl) (by kernel_rfl) (by kernel_rfl) rfl trivial (fun _ _ _ h => h) hM (fun w hC => r_loadC hl rfl one4 hC (by repeat (first | exact find_head | apply find_tail)) (by exact lo_full _ _ _ (by omega))) rfl ?_
  clear hl a; intro a hl
  refine d_take (i := 8) hl rfl (by kernel_rfl) (by kernel_rfl) (by kernel_rfl) (by kernel_rfl) (by kernel_rfl) rfl trivial (fun _ _ _ h => h) hM (fun w hC => r_move hl rfl) rfl ?_
  clear hl a; intro a hl
  refine sl_split (t := 14) hl rfl ?_ ?_
  · intro hg1; clear hl; intro hl
    try simp only [decide_eq_true_eq, decide_eq_false_iff_not, Bool.not_eq_true', Bool.not_eq_false', Bool.not_eq_true, Bool.not_eq_false, Bool.and_eq_true, Bool.or_eq_true, Bool.and_eq_false_iff, Bool.or_eq_false_iff, Bool.not_not, ne_eq, Int.not_lt, Int.not_le, Decidable.not_not, beq_iff_eq, bne_iff_ne] at hg1
    exfalso; simp_all
  · intro hg1; clear hl; intro hl
    try simp only [decide_eq_true_eq, decide_eq_false_iff_not, Bool.not_eq_true', Bool.not_eq_false', Bool.not_eq_true, Bool.not_eq_false, Bool.and_eq_true, Bool.or_eq_true, Bool.and_eq_false_iff, Bool.or_eq_false_iff, Bool.not_not, ne_eq, Int.not_lt, Int.not_le, Decidable.not_not, beq_iff_eq, bne_iff_ne] at hg1
    refine d_take (i := 9) hl rfl (by kernel_rfl) (by kernel_rfl) (by kernel_rfl) (by kernel_rfl) (by kernel_rfl) rfl ⟨_, _, rfl, rfl, rfl⟩ (fun _ _ _ h => h) hM (fun w hC => r_move hl rfl) rfl ?_
    clear hl a; intro a hl
    refine d_take (i := 10) hl rfl (by kernel_rfl) (by kernel_rfl) (by kernel_rfl) (by kernel_rfl) (by kernel_rfl) rfl ⟨_, _, rfl, rfl, rfl⟩ (fun _ _ _ h => h) hM (fun w hC => r_move hl rfl) rfl ?_
    clear hl a; intro a hl
    refine d_take (i := 14) hl rfl (by kernel_rfl) (by kernel_rfl) (by kernel_rfl) (by kernel_rfl) (by kernel_rfl) rfl trivial (fun _ _ _ h => h) hM (fun w hC => r_nilCheck hl rfl) rfl ?_
    clear hl a; intro a hl
    refine d_take (i := 15) hl rfl (by kernel_rfl) (by kernel_rfl) (by kernel_rfl) (by kernel_rfl) (by kernel_rfl) rfl trivial (fun _ _ _ h => h) hM (fun w hC => r_field hl rfl fld86_5) rfl ?_
    clear hl a; intro a hl
    refine d_one (i := 11) (by kernel_rfl) rfl ?_
    try clear hM
    refine id (w_call hl hh rfl ⟨_, _, rfl, rfl, rfl⟩ rfl cal85 rfl (size_spec ob wb b kb x m k r hr hr7) (by repeat (first | exact keeps_nil | apply keeps_cons (by repeat (first | exact find_head | apply find_tail)) (by first  | rfl) | exact keeps_self | apply keeps_mv)) trivial ?_)
    clear hl hh a w; intro vc Fc a w hR hl hh
    obtain ⟨rfl, rfl⟩ := hR
    try simp only [List.cons_append, List.nil_append] at hh
    have hM : Mem [(ob, C (arrL 50 (encO wb x)) 86), (wb, C [.pointer (some ⟨b, 0, none⟩), .pointer (some ⟨kb, 0, none⟩), .int .u64 ((65536 + hd false : Nat) : Int), .int .u64 ((65536 + nd false 0 : Nat) : Int), .int .u64 ((65536 + nd false 1 : Nat) : Int), .int .u64 ((65536 + nd false 2 : Nat) : Int), .int .u64 ((65536 + nd false 3 : Nat) : Int), .int .u64 ((65536 + nd false 4 : Nat) : Int), .int .u64 ((65536 + nd false 5 : Nat) : Int), .int .u64 ((65536 + nd false 6 : Nat) : Int), .int .i64 (wd false : Int), .int .u64 ((65536 + hd true : Nat) : Int), .int .u64 ((65536 + nd true 0 : Nat) : Int), .int .u64 ((65536 + nd true 1 : Nat) : Int), .int .u64 ((65536 + nd true 2 : Nat) : Int), .int .u64 ((65536 + nd true 3 : Nat) : Int), .int .u64 ((65536 + nd true 4 : Nat) : Int), .int .u64 ((65536 + nd true 5 : Nat) : Int), .int .u64 ((65536 + nd true 6 : Nat) : Int), .int .i64 (wd true : Int)] 51), (b, C (arrL 16391 (encM m)) 75)] w := (by repeat (first | exact Mem.nil | refine Mem.cons hh.mem (by repeat (first | exact find_head | apply find_tail)) ?_ | refine Mem.consR hh (by assumption) (by simp) ?_))
    refine d_step (fun _ => hM) ?_
    refine d_take (i := 12) hl rfl (by kernel_rfl) (by kernel_rfl) (by kernel_rfl) (by kernel_rfl) (by kernel_rfl) rfl ⟨_, _, rfl, rfl, rfl⟩ (fun _ _ _ h => h) hM (fun w hC => r_eql hl rfl rfl) rfl ?_
    clear hl a; intro a hl
    refine d_take (i := 13) hl rfl (by kernel_rfl) (by kernel_rfl) (by kernel_rfl) (by kernel_rfl) (by kernel_rfl) rfl trivial (fun _ _ _ h => h) hM (fun w hC => r_pickF hl rfl rfl) rfl ?_
    clear hl a; intro a hl
    refine d_takeL (i := 16) hl rfl (by kernel_rfl) (by kernel_rfl) (by kernel_rfl) (by kernel_rfl) (by kernel_rfl) rfl trivial (fun _ _ _ h => h) (fun w => r_indexA hl rfl rfl arr84 (by omega) (by omega) (by first | (simp only [Int.reduceToNat]; rfl) | exact toNat_add1 _ | exact toNat_add2 _ _ | exact toNat_emod _ _ | exact Int.toNat_natCast _ | rfl)) rfl ?_
    clear hl a; intro a hl
    refine d_one (i := 17) (by kernel_rfl) rfl ?_
    try clear hM
    refine id (w_store hl hh trivial one4 rfl rfl (by repeat (first | exact find_head | apply find_tail)) (by rw [arrL_length]; omega) (by first | rfl | assumption | (apply Row.one; assumption)) (by exact so_full _ _ _ _ (by omega)) ?_)
    clear hh w; intro w hh
    refine d_step (fun h => absurd h (by decide)) ?_
    refine d_done (by kernel_rfl) ?_
    try clear hM
    have hl2 := hl.add (t := 0) (hl.add (t := 1) (hl.add (t := 2) (hl.nil) rfl) rfl) rfl; clear hl; have hl := hl2; clear hl2
    refine then_normal ?_
    refine c_draw [(ob, C (arrL 50 (encO wb { x with full := updF x.full t (decide (m.word (nd k (r % 256)) = 8)) })) 86), (wb, C [.pointer (some ⟨b, 0, none⟩), .pointer (some ⟨kb, 0, none⟩), .int .u64 ((65536 + hd false : Nat) : Int), .int .u64 ((65536 + nd false 0 : Nat) : Int), .int .u64 ((65536 + nd false 1 : Nat) : Int), .int .u64 ((65536 + nd false 2 : Nat) : Int), .int .u64 ((65536 + nd false 3 : Nat) : Int), .int .u64 ((65536 + nd false 4 : Nat) : Int), .int .u64 ((65536 + nd false 5 : Nat) : Int), .int .u64 ((65536 + nd false 6 : Nat) : Int), .int .i64 (wd false : Int), .int .u64 ((65536 + hd true : Nat) : Int), .int .u64 ((65536 + nd true 0 : Nat) : Int), .int .u64 ((65536 + nd true 1 : Nat) : Int), .int .u64 ((65536 + nd true 2 : Nat) : Int), .int .u64 ((65536 + nd true 3 : Nat) : Int), .int .u64 ((65536 + nd true 4 : Nat) : Int), .int .u64 ((65536 + nd true 5 : Nat) : Int), .int .u64 ((65536 + nd true 6 : Nat) : Int), .int .i64 (wd true : Int)] 51)] [16, 17] mixed hh ?_
    clear hh w; intro w hh
    have hM : Mem [(ob, C (arrL 50 (encO wb { x with full := updF x.full t (decide (m.word (nd k (r % 256)) = 8)) })) 86), (wb, C [.pointer (some ⟨b, 0, none⟩), .pointer (some ⟨kb, 0, none⟩), .int .u64 ((65536 + hd false : Nat) : Int), .int .u64 ((65536 + nd false 0 : Nat) : Int), .int .u64 ((65536 + nd false 1 : Nat) : Int), .int .u64 ((65536 + nd false 2 : Nat) : Int), .int .u64 ((65536 + nd false 3 : Nat) : Int), .int .u64 ((65536 + nd false 4 : Nat) : Int), .int .u64 ((65536 + nd false 5 : Nat) : Int), .int .u64 ((65536 + nd false 6 : Nat) : Int), .int .i64 (wd false : Int), .int .u64 ((65536 + hd true : Nat) : Int), .int .u64 ((65536 + nd true 0 : Nat) : Int), .int .u64 ((65536 + nd true 1 : Nat) : Int), .int .u64 ((65536 + nd true 2 : Nat) : Int), .int .u64 ((65536 + nd true 3 : Nat) : Int), .int .u64 ((65536 + nd true 4 : Nat) : Int), .int .u64 ((65536 + nd true 5 : Nat) : Int), .int .u64 ((65536 + nd true 6 : Nat) : Int), .int .i64 (wd true : Int)] 51)] w := (by repeat (first | exact Mem.nil | refine Mem.cons hh.mem (by repeat (first | exact find_head | apply find_tail)) ?_ | refine Mem.consR hh (by assumption) (by simp) ?_))
    refine d_take (i := 0) hl rfl (by kernel_rfl) (by kernel_rfl) (by kernel_rfl) (by kernel_rfl) (by kernel_rfl) rfl trivial (fun _ _ _ h => h) hM (fun w hC => r_move hl rfl) rfl ?_
    clear hl a; intro a hl
    refine d_take (i := 1) hl rfl (by kernel_rfl) (by kernel_rfl) (by kernel_rfl) (by kernel_rfl) (by kernel_rfl) rfl trivial (fun _ _ _ h => h) hM (fun w hC => r_move hl rfl) rfl ?_
    clear hl a; intro a hl
    refine d_take (i := 2) hl rfl (by kernel_rfl) (by kernel_rfl) (by kernel_rfl) (by kernel_rfl) (by kernel_rfl) rfl trivial (fun _ _ _ h => h) hM (fun w hC => r_move hl rfl) rfl ?_
    clear hl a; intro a hl
    refine d_take (i := 3) hl rfl (by kernel_rfl) (by kernel_rfl) (by kernel_rfl) (by kernel_rfl) (by kernel_rfl) rfl trivial (fun _ _ _ h => h) hM (fun w hC => r_move hl rfl) rfl ?_
    clear hl a; intro a hl
    refine d_take (i := 4) hl rfl (by kernel_rfl) (by kernel_rfl) (by kernel_rfl) (by kernel_rfl) (by kernel_rfl) rfl trivial (fun _ _ _ h => h) hM (fun w hC => r_nilCheck hl rfl) rfl ?_
    clear hl a; intro a hl
    refine d_take (i := 5) hl rfl (by kernel_rfl) (by kernel_rfl) (by kernel_rfl) (by kernel_rfl) (by kernel_rfl) rfl trivial (fun _ _ _ h => h) hM (fun w hC => r_field hl rfl fld86_6) rfl ?_
    clear hl a; intro a hl
    refine d_take (i := 6) hl rfl (by kernel_rfl) (by kernel_rfl) (by kernel_rfl) (by kernel_rfl) (by kernel_rfl) rfl trivial (fun _ _ _ h => h) hM (fun w hC => r_indexA hl rfl rfl arr84 (by omega) (by omega) (by first | (simp only [Int.reduceToNat]; rfl) | exact toNat_add1 _ | exact toNat_add2 _ _ | exact toNat_emod _ _ | exact Int.toNat_natCast _ | rfl)) rfl ?_
    clear hl a; intro a hl
    refine d_take (i := 7) hl rfl (by kernel_rfl) (by kernel_rfl) (by kernel_rfl) (by kernel_rfl) (by kernel_rfl) rfl trivial (fun _ _ _ h => h) hM (fun w hC => r_loadC hl rfl one4 hC (by repeat (first | exact find_head | apply find_tail)) (by exact lo_empty _ _ _ (by omega))) rfl ?_
    clear hl a; intro a hl
    refine d_take (i := 8) hl rfl (by kernel_rfl) (by kernel_rfl) (by kernel_rfl) (by kernel_rfl) (by kernel_rfl) rfl trivial (fun _ _ _ h => h) hM (fun w hC => r_move hl rfl) rfl ?_
    clear hl a; intro a hl
    refine sl_split (t := 31) hl rfl ?_ ?_
    · intro hg2; clear hl; intro hl
      try simp only [decide_eq_true_eq, decide_eq_false_iff_not, Bool.not_eq_true', Bool.not_eq_false', Bool.not_eq_true, Bool.not_eq_false, Bool.and_eq_true, Bool.or_eq_true, Bool.and_eq_false_iff, Bool.or_eq_false_iff, Bool.not_not, ne_eq, Int.not_lt, Int.not_le, Decidable.not_not, beq_iff_eq, bne_iff_ne] at hg2
      refine d_skip (i := 9) hl rfl (by kernel_rfl) (by kernel_rfl) (by kernel_rfl) (by kernel_rfl) (by kernel_rfl) rfl ⟨_, _, rfl, rfl, rfl⟩ (fun _ _ _ h => h) hM ?_
      clear hl a; intro a hl
      refine d_skip (i := 10) hl rfl (by kernel_rfl) (by kernel_rfl) (by kernel_rfl) (by kernel_rfl) (by kernel_rfl) rfl ⟨_, _, rfl, rfl, rfl⟩ (fun _ _ _ h => h) hM ?_
      clear hl a; intro a hl
      refine d_skip (i := 11) hl rfl (by kernel_rfl) (by kernel_rfl) (by kernel_rfl) (by kernel_rfl) (by kernel_rfl) rfl ⟨_, _, rfl, rfl, rfl⟩ (fun _ _ _ h => h) hM ?_
      clear hl a; intro a hl
      refine d_skip (i := 12) hl rfl (by kernel_rfl) (by kernel_rfl) (by kernel_rfl) (by kernel_rfl) (by kernel_rfl) rfl ⟨_, _, rfl, rfl, rfl⟩ (fun _ _ _ h => h) hM ?_
      clear hl a; intro a hl
      refine d_take (i := 13) hl rfl (by kernel_rfl) (by kernel_rfl) (by kernel_rfl) (by kernel_rfl) (by kernel_rfl) rfl trivial (fun _ _ _ h => h) hM (fun w hC => r_pickT hl rfl rfl) rfl ?_
      clear hl a; intro a hl
      refine d_take (i := 14) hl rfl (by kernel_rfl) (by kernel_rfl) (by kernel_rfl) (by kernel_rfl) (by kernel_rfl) rfl trivial (fun _ _ _ h => h) hM (fun w hC => r_nilCheck hl rfl) rfl ?_
      clear hl a; intro a hl
      refine d_take (i := 15) hl rfl (by kernel_rfl) (by kernel_rfl) (by kernel_rfl) (by kernel_rfl) (by kernel_rfl) rfl trivial (fun _ _ _ h => h) hM (fun w hC => r_field hl rfl fld86_6) rfl ?_
      clear hl a; intro a hl
      refine d_takeL (i := 16) hl rfl (by kernel_rfl) (by kernel_rfl) (by kernel_rfl) (by kernel_rfl) (by kernel_rfl) rfl trivial (fun _ _ _ h => h) (fun w => r_indexA hl rfl rfl arr84 (by omega) (by omega) (by first | (simp only [Int.reduceToNat]; rfl) | exact toNat_add1 _ | exact toNat_add2 _ _ | exact toNat_emod _ _ | exact Int.toNat_natCast _ | rfl)) rfl ?_
      clear hl a; intro a hl
      refine d_one (i := 17) (by kernel_rfl) rfl ?_
      try clear hM
      refine id (w_store hl hh trivial one4 rfl rfl (by repeat (first | exact find_head | apply find_tail)) (by rw [arrL_length]; omega) (by first | rfl | assumption | (apply Row.one; assumption)) (by exact so_empty _ _ _ _ (by omega)) ?_)
      clear hh w; intro w hh
      refine d_step (fun h => absurd h (by decide)) ?_
      refine d_done (by kernel_rfl) ?_
      try clear hM
      have hl2 := hl.nil; clear hl; have hl := hl2; clear hl2
      refine f_end0 (F' := [(ob, C (arrL 50 (encO wb (noteX x t (m.word (nd k (r % 256)))))) 86), (wb, C [.pointer (some ⟨b, 0, none⟩), .pointer (some ⟨kb, 0, none⟩), .int .u64 ((65536 + hd false : Nat) : Int), .int .u64 ((65536 + nd false 0 : Nat) : Int), .int .u64 ((65536 + nd false 1 : Nat) : Int), .int .u64 ((65536 + nd false 2 : Nat) : Int), .int .u64 ((65536 + nd false 3 : Nat) : Int), .int .u64 ((65536 + nd false 4 : Nat) : Int), .int .u64 ((65536 + nd false 5 : Nat) : Int), .int .u64 ((65536 + nd false 6 : Nat) : Int), .int .i64 (wd false : Int), .int .u64 ((65536 + hd true : Nat) : Int), .int .u64 ((65536 + nd true 0 : Nat) : Int), .int .u64 ((65536 + nd true 1 : Nat) : Int), .int .u64 ((65536 + nd true 2 : Nat) : Int), .int .u64 ((65536 + nd true 3 : Nat) : Int), .int .u64 ((65536 + nd true 4 : Nat) : Int), .int .u64 ((65536 + nd true 5 : Nat) : Int), .int .u64 ((65536 + nd true 6 : Nat) : Int), .int .i64 (wd true : Int)] 51), (b, C (arrL 16391 (encM m)) 75)]) hl hh rfl (by repeat (first | exact keeps_nil | apply keeps_cons (by repeat (first | exact find_head | apply find_tail)) (by first  | (refine congrArg (fun z => C (arrL 50 (encO wb z)) 86) (noteX_eq x t _ _ _ ?_ ?_) <;> simp_all) | rfl) | exact keeps_self | apply keeps_mv)) ?_
      exact ⟨rfl, rfl⟩
    · intro hg2; clear hl; intro hl
      try simp only [decide_eq_true_eq, decide_eq_false_iff_not, Bool.not_eq_true', Bool.not_eq_false', Bool.not_eq_true, Bool.not_eq_false, Bool.and_eq_true, Bool.or_eq_true, Bool.and_eq_false_iff, Bool.or_eq_false_iff, Bool.not_not, ne_eq, Int.not_lt, Int.not_le, Decidable.not_not, beq_iff_eq, bne_iff_ne] at hg2
      refine d_take (i := 9) hl rfl (by kernel_rfl) (by kernel_rfl) (by kernel_rfl) (by kernel_rfl) (by kernel_rfl) rfl ⟨_, _, rfl, rfl, rfl⟩ (fun _ _ _ h => h) hM (fun w hC => r_move hl rfl) rfl ?_
      clear hl a; intro a hl
      refine d_take (i := 10) hl rfl (by kernel_rfl) (by kernel_rfl) (by kernel_rfl) (by kernel_rfl) (by kernel_rfl) rfl ⟨_, _, rfl, rfl, rfl⟩ (fun _ _ _ h => h) hM (fun w hC => r_move hl rfl) rfl ?_
      clear hl a; intro a hl
      refine d_take (i := 14) hl rfl (by kernel_rfl) (by kernel_rfl) (by kernel_rfl) (by kernel_rfl) (by kernel_rfl) rfl trivial (fun _ _ _ h => h) hM (fun w hC => r_nilCheck hl rfl) rfl ?_
      clear hl a; intro a hl
      refine d_take (i := 15) hl rfl (by kernel_rfl) (by kernel_rfl) (by kernel_rfl) (by kernel_rfl) (by kernel_rfl) rfl trivial (fun _ _ _ h => h) hM (fun w hC => r_field hl rfl fld86_6) rfl ?_
      clear hl a; intro a hl
      refine d_one (i := 11) (by kernel_rfl) rfl ?_
      try clear hM
      refine id (w_call hl hh rfl ⟨_, _, rfl, rfl, rfl⟩ rfl cal85 rfl (size_spec ob wb b kb { x with full := updF x.full t (decide (m.word (nd k (r % 256)) = 8)) } m k r hr hr7) (by repeat (first | exact keeps_nil | apply keeps_cons (by repeat (first | exact find_head | apply find_tail)) (by first  | rfl) | exact keeps_self | apply keeps_mv)) trivial ?_)
      clear hl hh a w; intro vc Fc a w hR hl hh
      obtain ⟨rfl, rfl⟩ := hR
      try simp only [List.cons_append, List.nil_append] at hh
      have hM : Mem [(ob, C (arrL 50 (encO wb { x with full := updF x.full t (decide (m.word (nd k (r % 256)) = 8)) })) 86), (wb, C [.pointer (some ⟨b, 0, none⟩), .pointer (some ⟨kb, 0, none⟩), .int .u64 ((65536 + hd false : Nat) : Int), .int .u64 ((65536 + nd false 0 : Nat) : Int), .int .u64 ((65536 + nd false 1 : Nat) : Int), .int .u64 ((65536 + nd false 2 : Nat) : Int), .int .u64 ((65536 + nd false 3 : Nat) : Int), .int .u64 ((65536 + nd false 4 : Nat) : Int), .int .u64 ((65536 + nd false 5 : Nat) : Int), .int .u64 ((65536 + nd false 6 : Nat) : Int), .int .i64 (wd false : Int), .int .u64 ((65536 + hd true : Nat) : Int), .int .u64 ((65536 + nd true 0 : Nat) : Int), .int .u64 ((65536 + nd true 1 : Nat) : Int), .int .u64 ((65536 + nd true 2 : Nat) : Int), .int .u64 ((65536 + nd true 3 : Nat) : Int), .int .u64 ((65536 + nd true 4 : Nat) : Int), .int .u64 ((65536 + nd true 5 : Nat) : Int), .int .u64 ((65536 + nd true 6 : Nat) : Int), .int .i64 (wd true : Int)] 51)] w := (by repeat (first | exact Mem.nil | refine Mem.cons hh.mem (by repeat (first | exact find_head | apply find_tail)) ?_ | refine Mem.consR hh (by assumption) (by simp) ?_))
      refine d_step (fun _ => hM) ?_
      refine d_take (i := 12) hl rfl (by kernel_rfl) (by kernel_rfl) (by kernel_rfl) (by kernel_rfl) (by kernel_rfl) rfl ⟨_, _, rfl, rfl, rfl⟩ (fun _ _ _ h => h) hM (fun w hC => r_eql hl rfl rfl) rfl ?_
      clear hl a; intro a hl
      refine d_take (i := 13) hl rfl (by kernel_rfl) (by kernel_rfl) (by kernel_rfl) (by kernel_rfl) (by kernel_rfl) rfl trivial (fun _ _ _ h => h) hM (fun w hC => r_pickF hl rfl rfl) rfl ?_
      clear hl a; intro a hl
      refine d_takeL (i := 16) hl rfl (by kernel_rfl) (by kernel_rfl) (by kernel_rfl) (by kernel_rfl) (by kernel_rfl) rfl trivial (fun _ _ _ h => h) (fun w => r_indexA hl rfl rfl arr84 (by omega) (by omega) (by first | (simp only [Int.reduceToNat]; rfl) | exact toNat_add1 _ | exact toNat_add2 _ _ | exact toNat_emod _ _ | exact Int.toNat_natCast _ | rfl)) rfl ?_
      clear hl a; intro a hl
      refine d_one (i := 17) (by kernel_rfl) rfl ?_
      try clear hM
      refine id (w_store hl hh trivial one4 rfl rfl (by repeat (first | exact find_head | apply find_tail)) (by rw [arrL_length]; omega) (by first | rfl | assumption | (apply Row.one; assumption)) (by exact so_empty _ _ _ _ (by omega)) ?_)
      clear hh w; intro w hh
      refine d_step (fun h => absurd h (by decide)) ?_
      refine d_done (by kernel_rfl) ?_
      try clear hM
      have hl2 := hl.nil; clear hl; have hl := hl2; clear hl2
      refine f_end0 (F' := [(ob, C (arrL 50 (encO wb (noteX x t (m.word (nd k (r % 256)))))) 86), (wb, C [.pointer (some ⟨b, 0, none⟩), .pointer (some ⟨kb, 0, none⟩), .int .u64 ((65536 + hd false : Nat) : Int), .int .u64 ((65536 + nd false 0 : Nat) : Int), .int .u64 ((65536 + nd false 1 : Nat) : Int), .int .u64 ((65536 + nd false 2 : Nat) : Int), .int .u64 ((65536 + nd false 3 : Nat) : Int), .int .u64 ((65536 + nd false 4 : Nat) : Int), .int .u64 ((65536 + nd false 5 : Nat) : Int), .int .u64 ((65536 + nd false 6 : Nat) : Int), .int .i64 (wd false : Int), .int .u64 ((65536 + hd true : Nat) : Int), .int .u64 ((65536 + nd true 0 : Nat) : Int), .int .u64 ((65536 + nd true 1 : Nat) : Int), .int .u64 ((65536 + nd true 2 : Nat) : Int), .int .u64 ((65536 + nd true 3 : Nat) : Int), .int .u64 ((65536 + nd true 4 : Nat) : Int), .int .u64 ((65536 + nd true 5 : Nat) : Int), .int .u64 ((65536 + nd true 6 : Nat) : Int), .int .i64 (wd true : Int)] 51), (b, C (arrL 16391 (encM m)) 75)]) hl hh rfl (by repeat (first | exact keeps_nil | apply keeps_cons (by repeat (first | exact find_head | apply find_tail)) (by first  | (refine congrArg (fun z => C (arrL 50 (encO wb z)) 86) (noteX_eq x t _ _ _ ?_ ?_) <;> simp_all) | rfl) | exact keeps_self | apply keeps_mv)) ?_
      exact ⟨rfl, rfl⟩

theorem note_spec (ob wb b kb : Nat) (x : OX) (m : MS) (t : Nat) (ht : t < 6) (k : Bool) (r : Nat) (hr : x.rt k = r) (hr7 : r % 256 < 7)  : Sp Try.prog 82 #[.pointer (some ⟨ob, 0, none⟩), .int .i64 t, .pointer (some ⟨ob, eo k, none⟩)] [(ob, C (arrL 50 (encO wb x)) 86), (wb, C [.pointer (some ⟨b, 0, none⟩), .pointer (some ⟨kb, 0, none⟩), .int .u64 ((65536 + hd false : Nat) : Int), .int .u64 ((65536 + nd false 0 : Nat) : Int), .int .u64 ((65536 + nd false 1 : Nat) : Int), .int .u64 ((65536 + nd false 2 : Nat) : Int), .int .u64 ((65536 + nd false 3 : Nat) : Int), .int .u64 ((65536 + nd false 4 : Nat) : Int), .int .u64 ((65536 + nd false 5 : Nat) : Int), .int .u64 ((65536 + nd false 6 : Nat) : Int), .int .i64 (wd false : Int), .int .u64 ((65536 + hd true : Nat) : Int), .int .u64 ((65536 + nd true 0 : Nat) : Int), .int .u64 ((65536 + nd true 1 : Nat) : Int), .int .u64 ((65536 + nd true 2 : Nat) : Int), .int .u64 ((65536 + nd true 3 : Nat) : Int), .int .u64 ((65536 + nd true 4 : Nat) : Int), .int .u64 ((65536 + nd true 5 : Nat) : Int), .int .u64 ((65536 + nd true 6 : Nat) : Int), .int .i64 (wd true : Int)] 51), (b, C (arrL 16391 (encM m)) 75)] (fun v F' => v = .tuple #[] ∧ F' = [(ob, C (arrL 50 (encO wb (noteX x t (m.word (nd k (r % 256)))))) 86), (wb, C [.pointer (some ⟨b, 0, none⟩), .pointer (some ⟨kb, 0, none⟩), .int .u64 ((65536 + hd false : Nat) : Int), .int .u64 ((65536 + nd false 0 : Nat) : Int), .int .u64 ((65536 + nd false 1 : Nat) : Int), .int .u64 ((65536 + nd false 2 : Nat) : Int), .int .u64 ((65536 + nd false 3 : Nat) : Int), .int .u64 ((65536 + nd false 4 : Nat) : Int), .int .u64 ((65536 + nd false 5 : Nat) : Int), .int .u64 ((65536 + nd false 6 : Nat) : Int), .int .i64 (wd false : Int), .int .u64 ((65536 + hd true : Nat) : Int), .int .u64 ((65536 + nd true 0 : Nat) : Int), .int .u64 ((65536 + nd true 1 : Nat) : Int), .int .u64 ((65536 + nd true 2 : Nat) : Int), .int .u64 ((65536 + nd true 3 : Nat) : Int), .int .u64 ((65536 + nd true 4 : Nat) : Int), .int .u64 ((65536 + nd true 5 : Nat) : Int), .int .u64 ((65536 + nd true 6 : Nat) : Int), .int .i64 (wd true : Int)] 51), (b, C (arrL 16391 (encM m)) 75)]) := by
  cases hf : x.full t
  · exact note_b ob wb b kb x m t ht k r hr hr7 hf
  · exact note_a ob wb b kb x m t ht k r hr hr7 hf
end Go.Proofs.Qxb6500914a

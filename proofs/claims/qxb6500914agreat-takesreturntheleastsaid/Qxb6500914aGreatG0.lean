import Derived.Test.Qxb6500914aGreatB0
namespace Go.Proofs.Qxb6500914aGreat
open Go.Eng
set_option linter.unusedVariables false
set_option linter.unusedSimpArgs false
theorem fld177_5 : fieldOk Tryz.prog 177 5 15 = true := by kernel_rfl
theorem fld177_3 : fieldOk Tryz.prog 177 3 13 = true := by kernel_rfl
theorem one170 : oneOk Tryz.prog 170 = true := by kernel_rfl
theorem fld177_7 : fieldOk Tryz.prog 177 7 33 = true := by kernel_rfl
theorem fld177_6 : fieldOk Tryz.prog 177 6 16 = true := by kernel_rfl
theorem fld175_0 : fieldOk Tryz.prog 175 0 0 = true := by kernel_rfl
theorem fld177_0 : fieldOk Tryz.prog 177 0 0 = true := by kernel_rfl
theorem fld69_2 : fieldOk Tryz.prog 69 2 8 = true := by kernel_rfl
attribute [local irreducible] encM

structure PG where
  h0 : Int
  nds : Nat → Int
  wdt : Int
  self : Int
  ck : Int
  cv : Int
  cp : Int
  pc : Int
  sp : Int
  root : Int
  n : Int
  ip : Nat → Int
  iv : Nat → Int
  at_ : Int
  ra : Int
  rv : Int
  rp : Int
def encP (m : PG) (i : Nat) : Value := if i = 0 then .int .u64 (m.h0) else if i < 8 then .int .u64 (m.nds (i - 1)) else if i = 8 then .int .i64 (m.wdt) else if i = 9 then .int .i64 (m.self) else if i = 10 then .int .u8 (m.ck) else if i = 11 then .int .u64 (m.cv) else if i = 12 then .int .u64 (m.cp) else if i = 13 then .int .u8 (m.pc) else if i = 14 then .int .i64 (m.sp) else if i = 15 then .int .u64 (m.root) else if i = 16 then .int .i64 (m.n) else if i < 33 then if (i - 17) % 2 = 0 then .int .u64 (m.ip ((i - 17) / 2)) else .int .u64 (m.iv ((i - 17) / 2)) else if i = 33 then .int .i64 (m.at_) else if i = 34 then .int .u8 (m.ra) else if i = 35 then .int .u64 (m.rv) else .int .u64 (m.rp)
def PG.s_h0 (m : PG) (x : Int) : PG := { m with h0 := x }
def PG.s_nds (m : PG) (i : Nat) (x : Int) : PG := { m with nds := updF m.nds i x }
def PG.s_wdt (m : PG) (x : Int) : PG := { m with wdt := x }
def PG.s_self (m : PG) (x : Int) : PG := { m with self := x }
def PG.s_ck (m : PG) (x : Int) : PG := { m with ck := x }
def PG.s_cv (m : PG) (x : Int) : PG := { m with cv := x }
def PG.s_cp (m : PG) (x : Int) : PG := { m with cp := x }
def PG.s_pc (m : PG) (x : Int) : PG := { m with pc := x }
def PG.s_sp (m : PG) (x : Int) : PG := { m with sp := x }
def PG.s_root (m : PG) (x : Int) : PG := { m with root := x }
def PG.s_n (m : PG) (x : Int) : PG := { m with n := x }
def PG.s_ip (m : PG) (i : Nat) (x : Int) : PG := { m with ip := updF m.ip i x }
def PG.s_iv (m : PG) (i : Nat) (x : Int) : PG := { m with iv := updF m.iv i x }
def PG.s_at_ (m : PG) (x : Int) : PG := { m with at_ := x }
def PG.s_ra (m : PG) (x : Int) : PG := { m with ra := x }
def PG.s_rv (m : PG) (x : Int) : PG := { m with rv := x }
def PG.s_rp (m : PG) (x : Int) : PG := { m with rp := x }

theorem ld_h0 (m : PG)   : (arrL 37 (encP m))[0 + 0 + 0]? = some (.int .u64 (m.h0)) := by
  rw [show 0 + 0 + 0 = 0 by omega, arrL_get (by omega)]
  unfold encP
  (repeat (first | rw [if_pos (by omega)] | rw [if_neg (by omega)]))
theorem st_h0 (m : PG)  (x : Int)  : setL (arrL 37 (encP m)) (0 + 0 + 0) [.int .u64 (x)] = arrL 37 (encP (m.s_h0 x)) := by
  rw [show 0 + 0 + 0 = 0 by omega, arrL_set (by omega)]
  refine arrL_congr fun j hj => ?_
  unfold updV encP PG.s_h0
  by_cases c0 : j = 0
  · simp only [if_pos c0]
  · simp only [if_neg c0]

theorem ld_nds (m : PG) (i : Nat) (h : i < 7) : (arrL 37 (encP m))[0 + 0 + 1 + i * 1]? = some (.int .u64 (m.nds i)) := by
  rw [show 0 + 0 + 1 + i * 1 = 1 + i by omega, arrL_get (by omega)]
  unfold encP
  (repeat (first | rw [if_pos (by omega)] | rw [if_neg (by omega)]))
  rw [show 1 + i - 1 = i by omega]
theorem st_nds (m : PG) (i : Nat) (x : Int) (h : i < 7) : setL (arrL 37 (encP m)) (0 + 0 + 1 + i * 1) [.int .u64 (x)] = arrL 37 (encP (m.s_nds i x)) := by
  rw [show 0 + 0 + 1 + i * 1 = 1 + i by omega, arrL_set (by omega)]
  refine arrL_congr fun j hj => ?_
  unfold updV encP PG.s_nds updF
  by_cases c0 : j = 0
  · simp only [if_pos c0]
    rw [if_neg (by omega)]
  simp only [if_neg c0]
  by_cases c1 : j < 8
  · simp only [if_pos c1]
    by_cases e : j = 1 + i
    · rw [if_pos e, if_pos (by omega)]
    · rw [if_neg e, if_neg (by omega)]
  simp only [if_neg c1]
  by_cases c2 : j = 8
  · simp only [if_pos c2]
    rw [if_neg (by omega)]
  simp only [if_neg c2]
  by_cases c3 : j = 9
  · simp only [if_pos c3]
    rw [if_neg (by omega)]
  simp only [if_neg c3]
  by_cases c4 : j = 10
  · simp only [if_pos c4]
    rw [if_neg (by omega)]
  simp only [if_neg c4]
  by_cases c5 : j = 11
  · simp only [if_pos c5]
    rw [if_neg (by omega)]
  simp only [if_neg c5]
  by_cases c6 : j = 12
  · simp only [if_pos c6]
    rw [if_neg (by omega)]
  simp only [if_neg c6]
  by_cases c7 : j = 13
  · simp only [if_pos c7]
    rw [if_neg (by omega)]
  simp only [if_neg c7]
  by_cases c8 : j = 14
  · simp only [if_pos c8]
    rw [if_neg (by omega)]
  simp only [if_neg c8]
  by_cases c9 : j = 15
  · simp only [if_pos c9]
    rw [if_neg (by omega)]
  simp only [if_neg c9]
  by_cases c10 : j = 16
  · simp only [if_pos c10]
    rw [if_neg (by omega)]
  simp only [if_neg c10]
  by_cases c11 : j < 33
  · simp only [if_pos c11]
    rw [if_neg (by omega)]
  simp only [if_neg c11]
  by_cases c12 : j = 33
  · simp only [if_pos c12]
    rw [if_neg (by omega)]
  simp only [if_neg c12]
  by_cases c13 : j = 34
  · simp only [if_pos c13]
    rw [if_neg (by omega)]
  simp only [if_neg c13]
  by_cases c14 : j = 35
  · simp only [if_pos c14]
    rw [if_neg (by omega)]
  simp only [if_neg c14]
  rw [if_neg (by omega)]

theorem ld_wdt (m : PG)   : (arrL 37 (encP m))[0 + 0 + 8]? = some (.int .i64 (m.wdt)) := by
  rw [show 0 + 0 + 8 = 8 by omega, arrL_get (by omega)]
  unfold encP
  (repeat (first | rw [if_pos (by omega)] | rw [if_neg (by omega)]))
theorem st_wdt (m : PG)  (x : Int)  : setL (arrL 37 (encP m)) (0 + 0 + 8) [.int .i64 (x)] = arrL 37 (encP (m.s_wdt x)) := by
  rw [show 0 + 0 + 8 = 8 by omega, arrL_set (by omega)]
  refine arrL_congr fun j hj => ?_
  unfold updV encP PG.s_wdt
  by_cases c0 : j = 0
  · simp only [if_pos c0]
    rw [if_neg (by omega)]
  simp only [if_neg c0]
  by_cases c1 : j < 8
  · simp only [if_pos c1]
    rw [if_neg (by omega)]
  simp only [if_neg c1]
  by_cases c2 : j = 8
  · simp only [if_pos c2]
  · simp only [if_neg c2]

theorem ld_self (m : PG)   : (arrL 37 (encP m))[0 + 9]? = some (.int .i64 (m.self)) := by
  rw [show 0 + 9 = 9 by omega, arrL_get (by omega)]
  unfold encP
  (repeat (first | rw [if_pos (by omega)] | rw [if_neg (by omega)]))
theorem st_self (m : PG)  (x : Int)  : setL (arrL 37 (encP m)) (0 + 9) [.int .i64 (x)] = arrL 37 (encP (m.s_self x)) := by
  rw [show 0 + 9 = 9 by omega, arrL_set (by omega)]
  refine arrL_congr fun j hj => ?_
  unfold updV encP PG.s_self
  by_cases c0 : j = 0
  · simp only [if_pos c0]
    rw [if_neg (by omega)]
  simp only [if_neg c0]
  by_cases c1 : j < 8
  · simp only [if_pos c1]
    rw [if_neg (by omega)]
  simp only [if_neg c1]
  by_cases c2 : j = 8
  · simp only [if_pos c2]
    rw [if_neg (by omega)]
  simp only [if_neg c2]
  by_cases c3 : j = 9
  · simp only [if_pos c3]
  · simp only [if_neg c3]

theorem ld_ck (m : PG)   : (arrL 37 (encP m))[0 + 10 + 0]? = some (.int .u8 (m.ck)) := by
  rw [show 0 + 10 + 0 = 10 by omega, arrL_get (by omega)]
  unfold encP
  (repeat (first | rw [if_pos (by omega)] | rw [if_neg (by omega)]))
theorem st_ck (m : PG)  (x : Int)  : setL (arrL 37 (encP m)) (0 + 10 + 0) [.int .u8 (x)] = arrL 37 (encP (m.s_ck x)) := by
  rw [show 0 + 10 + 0 = 10 by omega, arrL_set (by omega)]
  refine arrL_congr fun j hj => ?_
  unfold updV encP PG.s_ck
  by_cases c0 : j = 0
  · simp only [if_pos c0]
    rw [if_neg (by omega)]
  simp only [if_neg c0]
  by_cases c1 : j < 8
  · simp only [if_pos c1]
    rw [if_neg (by omega)]
  simp only [if_neg c1]
  by_cases c2 : j = 8
  · simp only [if_pos c2]
    rw [if_neg (by omega)]
  simp only [if_neg c2]
  by_cases c3 : j = 9
  · simp only [if_pos c3]
    rw [if_neg (by omega)]
  simp only [if_neg c3]
  by_cases c4 : j = 10
  · simp only [if_pos c4]
  · simp only [if_neg c4]

theorem ld_cv (m : PG)   : (arrL 37 (encP m))[0 + 10 + 1]? = some (.int .u64 (m.cv)) := by
  rw [show 0 + 10 + 1 = 11 by omega, arrL_get (by omega)]
  unfold encP
  (repeat (first | rw [if_pos (by omega)] | rw [if_neg (by omega)]))
theorem st_cv (m : PG)  (x : Int)  : setL (arrL 37 (encP m)) (0 + 10 + 1) [.int .u64 (x)] = arrL 37 (encP (m.s_cv x)) := by
  rw [show 0 + 10 + 1 = 11 by omega, arrL_set (by omega)]
  refine arrL_congr fun j hj => ?_
  unfold updV encP PG.s_cv
  by_cases c0 : j = 0
  · simp only [if_pos c0]
    rw [if_neg (by omega)]
  simp only [if_neg c0]
  by_cases c1 : j < 8
  · simp only [if_pos c1]
    rw [if_neg (by omega)]
  simp only [if_neg c1]
  by_cases c2 : j = 8
  · simp only [if_pos c2]
    rw [if_neg (by omega)]
  simp only [if_neg c2]
  by_cases c3 : j = 9
  · simp only [if_pos c3]
    rw [if_neg (by omega)]
  simp only [if_neg c3]
  by_cases c4 : j = 10
  · simp only [if_pos c4]
    rw [if_neg (by omega)]
  simp only [if_neg c4]
  by_cases c5 : j = 11
  · simp only [if_pos c5]
  · simp only [if_neg c5]

theorem ld_cp (m : PG)   : (arrL 37 (encP m))[0 + 10 + 2]? = some (.int .u64 (m.cp)) := by
  rw [show 0 + 10 + 2 = 12 by omega, arrL_get (by omega)]
  unfold encP
  (repeat (first | rw [if_pos (by omega)] | rw [if_neg (by omega)]))
theorem st_cp (m : PG)  (x : Int)  : setL (arrL 37 (encP m)) (0 + 10 + 2) [.int .u64 (x)] = arrL 37 (encP (m.s_cp x)) := by
  rw [show 0 + 10 + 2 = 12 by omega, arrL_set (by omega)]
  refine arrL_congr fun j hj => ?_
  unfold updV encP PG.s_cp
  by_cases c0 : j = 0
  · simp only [if_pos c0]
    rw [if_neg (by omega)]
  simp only [if_neg c0]
  by_cases c1 : j < 8
  · simp only [if_pos c1]
    rw [if_neg (by omega)]
  simp only [if_neg c1]
  by_cases c2 : j = 8
  · simp only [if_pos c2]
    rw [if_neg (by omega)]
  simp only [if_neg c2]
  by_cases c3 : j = 9
  · simp only [if_pos c3]
    rw [if_neg (by omega)]
  simp only [if_neg c3]
  by_cases c4 : j = 10
  · simp only [if_pos c4]
    rw [if_neg (by omega)]
  simp only [if_neg c4]
  by_cases c5 : j = 11
  · simp only [if_pos c5]
    rw [if_neg (by omega)]
  simp only [if_neg c5]
  by_cases c6 : j = 12
  · simp only [if_pos c6]
  · simp only [if_neg c6]

theorem ld_pc (m : PG)   : (arrL 37 (encP m))[0 + 13]? = some (.int .u8 (m.pc)) := by
  rw [show 0 + 13 = 13 by omega, arrL_get (by omega)]
  unfold encP
  (repeat (first | rw [if_pos (by omega)] | rw [if_neg (by omega)]))
theorem st_pc (m : PG)  (x : Int)  : setL (arrL 37 (encP m)) (0 + 13) [.int .u8 (x)] = arrL 37 (encP (m.s_pc x)) := by
  rw [show 0 + 13 = 13 by omega, arrL_set (by omega)]
  refine arrL_congr fun j hj => ?_
  unfold updV encP PG.s_pc
  by_cases c0 : j = 0
  · simp only [if_pos c0]
    rw [if_neg (by omega)]
  simp only [if_neg c0]
  by_cases c1 : j < 8
  · simp only [if_pos c1]
    rw [if_neg (by omega)]
  simp only [if_neg c1]
  by_cases c2 : j = 8
  · simp only [if_pos c2]
    rw [if_neg (by omega)]
  simp only [if_neg c2]
  by_cases c3 : j = 9
  · simp only [if_pos c3]
    rw [if_neg (by omega)]
  simp only [if_neg c3]
  by_cases c4 : j = 10
  · simp only [if_pos c4]
    rw [if_neg (by omega)]
  simp only [if_neg c4]
  by_cases c5 : j = 11
  · simp only [if_pos c5]
    rw [if_neg (by omega)]
  simp only [if_neg c5]
  by_cases c6 : j = 12
  · simp only [if_pos c6]
    rw [if_neg (by omega)]
  simp only [if_neg c6]
  by_cases c7 : j = 13
  · simp only [if_pos c7]
  · simp only [if_neg c7]

theorem ld_sp (m : PG)   : (arrL 37 (encP m))[0 + 14]? = some (.int .i64 (m.sp)) := by
  rw [show 0 + 14 = 14 by omega, arrL_get (by omega)]
  unfold encP
  (repeat (first | rw [if_pos (by omega)] | rw [if_neg (by omega)]))
theorem st_sp (m : PG)  (x : Int)  : setL (arrL 37 (encP m)) (0 + 14) [.int .i64 (x)] = arrL 37 (encP (m.s_sp x)) := by
  rw [show 0 + 14 = 14 by omega, arrL_set (by omega)]
  refine arrL_congr fun j hj => ?_
  unfold updV encP PG.s_sp
  by_cases c0 : j = 0
  · simp only [if_pos c0]
    rw [if_neg (by omega)]
  simp only [if_neg c0]
  by_cases c1 : j < 8
  · simp only [if_pos c1]
    rw [if_neg (by omega)]
  simp only [if_neg c1]
  by_cases c2 : j = 8
  · simp only [if_pos c2]
    rw [if_neg (by omega)]
  simp only [if_neg c2]
  by_cases c3 : j = 9
  · simp only [if_pos c3]
    rw [if_neg (by omega)]
  simp only [if_neg c3]
  by_cases c4 : j = 10
  · simp only [if_pos c4]
    rw [if_neg (by omega)]
  simp only [if_neg c4]
  by_cases c5 : j = 11
  · simp only [if_pos c5]
    rw [if_neg (by omega)]
  simp only [if_neg c5]
  by_cases c6 : j = 12
  · simp only [if_pos c6]
    rw [if_neg (by omega)]
  simp only [if_neg c6]
  by_cases c7 : j = 13
  · simp only [if_pos c7]
    rw [if_neg (by omega)]
  simp only [if_neg c7]
  by_cases c8 : j = 14
  · simp only [if_pos c8]
  · simp only [if_neg c8]

theorem ld_root (m : PG)   : (arrL 37 (encP m))[0 + 15]? = some (.int .u64 (m.root)) := by
  rw [show 0 + 15 = 15 by omega, arrL_get (by omega)]
  unfold encP
  (repeat (first | rw [if_pos (by omega)] | rw [if_neg (by omega)]))
theorem st_root (m : PG)  (x : Int)  : setL (arrL 37 (encP m)) (0 + 15) [.int .u64 (x)] = arrL 37 (encP (m.s_root x)) := by
  rw [show 0 + 15 = 15 by omega, arrL_set (by omega)]
  refine arrL_congr fun j hj => ?_
  unfold updV encP PG.s_root
  by_cases c0 : j = 0
  · simp only [if_pos c0]
    rw [if_neg (by omega)]
  simp only [if_neg c0]
  by_cases c1 : j < 8
  · simp only [if_pos c1]
    rw [if_neg (by omega)]
  simp only [if_neg c1]
  by_cases c2 : j = 8
  · simp only [if_pos c2]
    rw [if_neg (by omega)]
  simp only [if_neg c2]
  by_cases c3 : j = 9
  · simp only [if_pos c3]
    rw [if_neg (by omega)]
  simp only [if_neg c3]
  by_cases c4 : j = 10
  · simp only [if_pos c4]
    rw [if_neg (by omega)]
  simp only [if_neg c4]
  by_cases c5 : j = 11
  · simp only [if_pos c5]
    rw [if_neg (by omega)]
  simp only [if_neg c5]
  by_cases c6 : j = 12
  · simp only [if_pos c6]
    rw [if_neg (by omega)]
  simp only [if_neg c6]
  by_cases c7 : j = 13
  · simp only [if_pos c7]
    rw [if_neg (by omega)]
  simp only [if_neg c7]
  by_cases c8 : j = 14
  · simp only [if_pos c8]
    rw [if_neg (by omega)]
  simp only [if_neg c8]
  by_cases c9 : j = 15
  · simp only [if_pos c9]
  · simp only [if_neg c9]

theorem ld_n (m : PG)   : (arrL 37 (encP m))[0 + 16 + 0]? = some (.int .i64 (m.n)) := by
  rw [show 0 + 16 + 0 = 16 by omega, arrL_get (by omega)]
  unfold encP
  (repeat (first | rw [if_pos (by omega)] | rw [if_neg (by omega)]))
theorem st_n (m : PG)  (x : Int)  : setL (arrL 37 (encP m)) (0 + 16 + 0) [.int .i64 (x)] = arrL 37 (encP (m.s_n x)) := by
  rw [show 0 + 16 + 0 = 16 by omega, arrL_set (by omega)]
  refine arrL_congr fun j hj => ?_
  unfold updV encP PG.s_n
  by_cases c0 : j = 0
  · simp only [if_pos c0]
    rw [if_neg (by omega)]
  simp only [if_neg c0]
  by_cases c1 : j < 8
  · simp only [if_pos c1]
    rw [if_neg (by omega)]
  simp only [if_neg c1]
  by_cases c2 : j = 8
  · simp only [if_pos c2]
    rw [if_neg (by omega)]
  simp only [if_neg c2]
  by_cases c3 : j = 9
  · simp only [if_pos c3]
    rw [if_neg (by omega)]
  simp only [if_neg c3]
  by_cases c4 : j = 10
  · simp only [if_pos c4]
    rw [if_neg (by omega)]
  simp only [if_neg c4]
  by_cases c5 : j = 11
  · simp only [if_pos c5]
    rw [if_neg (by omega)]
  simp only [if_neg c5]
  by_cases c6 : j = 12
  · simp only [if_pos c6]
    rw [if_neg (by omega)]
  simp only [if_neg c6]
  by_cases c7 : j = 13
  · simp only [if_pos c7]
    rw [if_neg (by omega)]
  simp only [if_neg c7]
  by_cases c8 : j = 14
  · simp only [if_pos c8]
    rw [if_neg (by omega)]
  simp only [if_neg c8]
  by_cases c9 : j = 15
  · simp only [if_pos c9]
    rw [if_neg (by omega)]
  simp only [if_neg c9]
  by_cases c10 : j = 16
  · simp only [if_pos c10]
  · simp only [if_neg c10]

theorem ld_at_ (m : PG)   : (arrL 37 (encP m))[0 + 33]? = some (.int .i64 (m.at_)) := by
  rw [show 0 + 33 = 33 by omega, arrL_get (by omega)]
  unfold encP
  (repeat (first | rw [if_pos (by omega)] | rw [if_neg (by omega)]))
theorem st_at_ (m : PG)  (x : Int)  : setL (arrL 37 (encP m)) (0 + 33) [.int .i64 (x)] = arrL 37 (encP (m.s_at_ x)) := by
  rw [show 0 + 33 = 33 by omega, arrL_set (by omega)]
  refine arrL_congr fun j hj => ?_
  unfold updV encP PG.s_at_
  by_cases c0 : j = 0
  · simp only [if_pos c0]
    rw [if_neg (by omega)]
  simp only [if_neg c0]
  by_cases c1 : j < 8
  · simp only [if_pos c1]
    rw [if_neg (by omega)]
  simp only [if_neg c1]
  by_cases c2 : j = 8
  · simp only [if_pos c2]
    rw [if_neg (by omega)]
  simp only [if_neg c2]
  by_cases c3 : j = 9
  · simp only [if_pos c3]
    rw [if_neg (by omega)]
  simp only [if_neg c3]
  by_cases c4 : j = 10
  · simp only [if_pos c4]
    rw [if_neg (by omega)]
  simp only [if_neg c4]
  by_cases c5 : j = 11
  · simp only [if_pos c5]
    rw [if_neg (by omega)]
  simp only [if_neg c5]
  by_cases c6 : j = 12
  · simp only [if_pos c6]
    rw [if_neg (by omega)]
  simp only [if_neg c6]
  by_cases c7 : j = 13
  · simp only [if_pos c7]
    rw [if_neg (by omega)]
  simp only [if_neg c7]
  by_cases c8 : j = 14
  · simp only [if_pos c8]
    rw [if_neg (by omega)]
  simp only [if_neg c8]
  by_cases c9 : j = 15
  · simp only [if_pos c9]
    rw [if_neg (by omega)]
  simp only [if_neg c9]
  by_cases c10 : j = 16
  · simp only [if_pos c10]
    rw [if_neg (by omega)]
  simp only [if_neg c10]
  by_cases c11 : j < 33
  · simp only [if_pos c11]
    rw [if_neg (by omega)]
  simp only [if_neg c11]
  by_cases c12 : j = 33
  · simp only [if_pos c12]
  · simp only [if_neg c12]

theorem ld_ra (m : PG)   : (arrL 37 (encP m))[0 + 34 + 0]? = some (.int .u8 (m.ra)) := by
  rw [show 0 + 34 + 0 = 34 by omega, arrL_get (by omega)]
  unfold encP
  (repeat (first | rw [if_pos (by omega)] | rw [if_neg (by omega)]))
theorem st_ra (m : PG)  (x : Int)  : setL (arrL 37 (encP m)) (0 + 34 + 0) [.int .u8 (x)] = arrL 37 (encP (m.s_ra x)) := by
  rw [show 0 + 34 + 0 = 34 by omega, arrL_set (by omega)]
  refine arrL_congr fun j hj => ?_
  unfold updV encP PG.s_ra
  by_cases c0 : j = 0
  · simp only [if_pos c0]
    rw [if_neg (by omega)]
  simp only [if_neg c0]
  by_cases c1 : j < 8
  · simp only [if_pos c1]
    rw [if_neg (by omega)]
  simp only [if_neg c1]
  by_cases c2 : j = 8
  · simp only [if_pos c2]
    rw [if_neg (by omega)]
  simp only [if_neg c2]
  by_cases c3 : j = 9
  · simp only [if_pos c3]
    rw [if_neg (by omega)]
  simp only [if_neg c3]
  by_cases c4 : j = 10
  · simp only [if_pos c4]
    rw [if_neg (by omega)]
  simp only [if_neg c4]
  by_cases c5 : j = 11
  · simp only [if_pos c5]
    rw [if_neg (by omega)]
  simp only [if_neg c5]
  by_cases c6 : j = 12
  · simp only [if_pos c6]
    rw [if_neg (by omega)]
  simp only [if_neg c6]
  by_cases c7 : j = 13
  · simp only [if_pos c7]
    rw [if_neg (by omega)]
  simp only [if_neg c7]
  by_cases c8 : j = 14
  · simp only [if_pos c8]
    rw [if_neg (by omega)]
  simp only [if_neg c8]
  by_cases c9 : j = 15
  · simp only [if_pos c9]
    rw [if_neg (by omega)]
  simp only [if_neg c9]
  by_cases c10 : j = 16
  · simp only [if_pos c10]
    rw [if_neg (by omega)]
  simp only [if_neg c10]
  by_cases c11 : j < 33
  · simp only [if_pos c11]
    rw [if_neg (by omega)]
  simp only [if_neg c11]
  by_cases c12 : j = 33
  · simp only [if_pos c12]
    rw [if_neg (by omega)]
  simp only [if_neg c12]
  by_cases c13 : j = 34
  · simp only [if_pos c13]
  · simp only [if_neg c13]

theorem ld_rv (m : PG)   : (arrL 37 (encP m))[0 + 34 + 1]? = some (.int .u64 (m.rv)) := by
  rw [show 0 + 34 + 1 = 35 by omega, arrL_get (by omega)]
  unfold encP
  (repeat (first | rw [if_pos (by omega)] | rw [if_neg (by omega)]))
theorem st_rv (m : PG)  (x : Int)  : setL (arrL 37 (encP m)) (0 + 34 + 1) [.int .u64 (x)] = arrL 37 (encP (m.s_rv x)) := by
  rw [show 0 + 34 + 1 = 35 by omega, arrL_set (by omega)]
  refine arrL_congr fun j hj => ?_
  unfold updV encP PG.s_rv
  by_cases c0 : j = 0
  · simp only [if_pos c0]
    rw [if_neg (by omega)]
  simp only [if_neg c0]
  by_cases c1 : j < 8
  · simp only [if_pos c1]
    rw [if_neg (by omega)]
  simp only [if_neg c1]
  by_cases c2 : j = 8
  · simp only [if_pos c2]
    rw [if_neg (by omega)]
  simp only [if_neg c2]
  by_cases c3 : j = 9
  · simp only [if_pos c3]
    rw [if_neg (by omega)]
  simp only [if_neg c3]
  by_cases c4 : j = 10
  · simp only [if_pos c4]
    rw [if_neg (by omega)]
  simp only [if_neg c4]
  by_cases c5 : j = 11
  · simp only [if_pos c5]
    rw [if_neg (by omega)]
  simp only [if_neg c5]
  by_cases c6 : j = 12
  · simp only [if_pos c6]
    rw [if_neg (by omega)]
  simp only [if_neg c6]
  by_cases c7 : j = 13
  · simp only [if_pos c7]
    rw [if_neg (by omega)]
  simp only [if_neg c7]
  by_cases c8 : j = 14
  · simp only [if_pos c8]
    rw [if_neg (by omega)]
  simp only [if_neg c8]
  by_cases c9 : j = 15
  · simp only [if_pos c9]
    rw [if_neg (by omega)]
  simp only [if_neg c9]
  by_cases c10 : j = 16
  · simp only [if_pos c10]
    rw [if_neg (by omega)]
  simp only [if_neg c10]
  by_cases c11 : j < 33
  · simp only [if_pos c11]
    rw [if_neg (by omega)]
  simp only [if_neg c11]
  by_cases c12 : j = 33
  · simp only [if_pos c12]
    rw [if_neg (by omega)]
  simp only [if_neg c12]
  by_cases c13 : j = 34
  · simp only [if_pos c13]
    rw [if_neg (by omega)]
  simp only [if_neg c13]
  by_cases c14 : j = 35
  · simp only [if_pos c14]
  · simp only [if_neg c14]

theorem ld_rp (m : PG)   : (arrL 37 (encP m))[0 + 34 + 2]? = some (.int .u64 (m.rp)) := by
  rw [show 0 + 34 + 2 = 36 by omega, arrL_get (by omega)]
  unfold encP
  (repeat (first | rw [if_pos (by omega)] | rw [if_neg (by omega)]))
theorem st_rp (m : PG)  (x : Int)  : setL (arrL 37 (encP m)) (0 + 34 + 2) [.int .u64 (x)] = arrL 37 (encP (m.s_rp x)) := by
  rw [show 0 + 34 + 2 = 36 by omega, arrL_set (by omega)]
  refine arrL_congr fun j hj => ?_
  unfold updV encP PG.s_rp
  by_cases c0 : j = 0
  · simp only [if_pos c0]
    rw [if_neg (by omega)]
  simp only [if_neg c0]
  by_cases c1 : j < 8
  · simp only [if_pos c1]
    rw [if_neg (by omega)]
  simp only [if_neg c1]
  by_cases c2 : j = 8
  · simp only [if_pos c2]
    rw [if_neg (by omega)]
  simp only [if_neg c2]
  by_cases c3 : j = 9
  · simp only [if_pos c3]
    rw [if_neg (by omega)]
  simp only [if_neg c3]
  by_cases c4 : j = 10
  · simp only [if_pos c4]
    rw [if_neg (by omega)]
  simp only [if_neg c4]
  by_cases c5 : j = 11
  · simp only [if_pos c5]
    rw [if_neg (by omega)]
  simp only [if_neg c5]
  by_cases c6 : j = 12
  · simp only [if_pos c6]
    rw [if_neg (by omega)]
  simp only [if_neg c6]
  by_cases c7 : j = 13
  · simp only [if_pos c7]
    rw [if_neg (by omega)]
  simp only [if_neg c7]
  by_cases c8 : j = 14
  · simp only [if_pos c8]
    rw [if_neg (by omega)]
  simp only [if_neg c8]
  by_cases c9 : j = 15
  · simp only [if_pos c9]
    rw [if_neg (by omega)]
  simp only [if_neg c9]
  by_cases c10 : j = 16
  · simp only [if_pos c10]
    rw [if_neg (by omega)]
  simp only [if_neg c10]
  by_cases c11 : j < 33
  · simp only [if_pos c11]
    rw [if_neg (by omega)]
  simp only [if_neg c11]
  by_cases c12 : j = 33
  · simp only [if_pos c12]
    rw [if_neg (by omega)]
  simp only [if_neg c12]
  by_cases c13 : j = 34
  · simp only [if_pos c13]
    rw [if_neg (by omega)]
  simp only [if_neg c13]
  by_cases c14 : j = 35
  · simp only [if_pos c14]
    rw [if_neg (by omega)]
  simp only [if_neg c14]
  rw [if_pos (by omega)]

theorem ld_bh0 (m : PG)   : (arrL 37 (encP m))[0 + 0]? = some (.int .u64 (m.h0)) := by
  rw [show 0 + 0 = 0 by omega, arrL_get (by omega)]
  unfold encP
  (repeat (first | rw [if_pos (by omega)] | rw [if_neg (by omega)]))
theorem st_bh0 (m : PG)  (x : Int)  : setL (arrL 37 (encP m)) (0 + 0) [.int .u64 (x)] = arrL 37 (encP (m.s_h0 x)) := by
  rw [show 0 + 0 = 0 by omega, arrL_set (by omega)]
  refine arrL_congr fun j hj => ?_
  unfold updV encP PG.s_h0
  by_cases c0 : j = 0
  · simp only [if_pos c0]
  · simp only [if_neg c0]

theorem ld_bnds (m : PG) (i : Nat) (h : i < 7) : (arrL 37 (encP m))[0 + 1 + i * 1]? = some (.int .u64 (m.nds i)) := by
  rw [show 0 + 1 + i * 1 = 1 + i by omega, arrL_get (by omega)]
  unfold encP
  (repeat (first | rw [if_pos (by omega)] | rw [if_neg (by omega)]))
  rw [show 1 + i - 1 = i by omega]
theorem st_bnds (m : PG) (i : Nat) (x : Int) (h : i < 7) : setL (arrL 37 (encP m)) (0 + 1 + i * 1) [.int .u64 (x)] = arrL 37 (encP (m.s_nds i x)) := by
  rw [show 0 + 1 + i * 1 = 1 + i by omega, arrL_set (by omega)]
  refine arrL_congr fun j hj => ?_
  unfold updV encP PG.s_nds updF
  by_cases c0 : j = 0
  · simp only [if_pos c0]
    rw [if_neg (by omega)]
  simp only [if_neg c0]
  by_cases c1 : j < 8
  · simp only [if_pos c1]
    by_cases e : j = 1 + i
    · rw [if_pos e, if_pos (by omega)]
    · rw [if_neg e, if_neg (by omega)]
  simp only [if_neg c1]
  by_cases c2 : j = 8
  · simp only [if_pos c2]
    rw [if_neg (by omega)]
  simp only [if_neg c2]
  by_cases c3 : j = 9
  · simp only [if_pos c3]
    rw [if_neg (by omega)]
  simp only [if_neg c3]
  by_cases c4 : j = 10
  · simp only [if_pos c4]
    rw [if_neg (by omega)]
  simp only [if_neg c4]
  by_cases c5 : j = 11
  · simp only [if_pos c5]
    rw [if_neg (by omega)]
  simp only [if_neg c5]
  by_cases c6 : j = 12
  · simp only [if_pos c6]
    rw [if_neg (by omega)]
  simp only [if_neg c6]
  by_cases c7 : j = 13
  · simp only [if_pos c7]
    rw [if_neg (by omega)]
  simp only [if_neg c7]
  by_cases c8 : j = 14
  · simp only [if_pos c8]
    rw [if_neg (by omega)]
  simp only [if_neg c8]
  by_cases c9 : j = 15
  · simp only [if_pos c9]
    rw [if_neg (by omega)]
  simp only [if_neg c9]
  by_cases c10 : j = 16
  · simp only [if_pos c10]
    rw [if_neg (by omega)]
  simp only [if_neg c10]
  by_cases c11 : j < 33
  · simp only [if_pos c11]
    rw [if_neg (by omega)]
  simp only [if_neg c11]
  by_cases c12 : j = 33
  · simp only [if_pos c12]
    rw [if_neg (by omega)]
  simp only [if_neg c12]
  by_cases c13 : j = 34
  · simp only [if_pos c13]
    rw [if_neg (by omega)]
  simp only [if_neg c13]
  by_cases c14 : j = 35
  · simp only [if_pos c14]
    rw [if_neg (by omega)]
  simp only [if_neg c14]
  rw [if_neg (by omega)]

theorem ld_sn (m : PG)   : (arrL 37 (encP m))[16 + 0]? = some (.int .i64 (m.n)) := by
  rw [show 16 + 0 = 16 by omega, arrL_get (by omega)]
  unfold encP
  (repeat (first | rw [if_pos (by omega)] | rw [if_neg (by omega)]))
theorem st_sn (m : PG)  (x : Int)  : setL (arrL 37 (encP m)) (16 + 0) [.int .i64 (x)] = arrL 37 (encP (m.s_n x)) := by
  rw [show 16 + 0 = 16 by omega, arrL_set (by omega)]
  refine arrL_congr fun j hj => ?_
  unfold updV encP PG.s_n
  by_cases c0 : j = 0
  · simp only [if_pos c0]
    rw [if_neg (by omega)]
  simp only [if_neg c0]
  by_cases c1 : j < 8
  · simp only [if_pos c1]
    rw [if_neg (by omega)]
  simp only [if_neg c1]
  by_cases c2 : j = 8
  · simp only [if_pos c2]
    rw [if_neg (by omega)]
  simp only [if_neg c2]
  by_cases c3 : j = 9
  · simp only [if_pos c3]
    rw [if_neg (by omega)]
  simp only [if_neg c3]
  by_cases c4 : j = 10
  · simp only [if_pos c4]
    rw [if_neg (by omega)]
  simp only [if_neg c4]
  by_cases c5 : j = 11
  · simp only [if_pos c5]
    rw [if_neg (by omega)]
  simp only [if_neg c5]
  by_cases c6 : j = 12
  · simp only [if_pos c6]
    rw [if_neg (by omega)]
  simp only [if_neg c6]
  by_cases c7 : j = 13
  · simp only [if_pos c7]
    rw [if_neg (by omega)]
  simp only [if_neg c7]
  by_cases c8 : j = 14
  · simp only [if_pos c8]
    rw [if_neg (by omega)]
  simp only [if_neg c8]
  by_cases c9 : j = 15
  · simp only [if_pos c9]
    rw [if_neg (by omega)]
  simp only [if_neg c9]
  by_cases c10 : j = 16
  · simp only [if_pos c10]
  · simp only [if_neg c10]

theorem ld_sip (m : PG) (i : Nat) (h : i < 8) : (arrL 37 (encP m))[16 + 1 + i * 2 + 0]? = some (.int .u64 (m.ip i)) := by
  rw [show 16 + 1 + i * 2 + 0 = 17 + i * 2 + 0 by omega, arrL_get (by omega)]
  unfold encP
  (repeat (first | rw [if_pos (by omega)] | rw [if_neg (by omega)]))
  rw [show (17 + i * 2 + 0 - 17) / 2 = i by omega]
theorem st_sip (m : PG) (i : Nat) (x : Int) (h : i < 8) : setL (arrL 37 (encP m)) (16 + 1 + i * 2 + 0) [.int .u64 (x)] = arrL 37 (encP (m.s_ip i x)) := by
  rw [show 16 + 1 + i * 2 + 0 = 17 + i * 2 + 0 by omega, arrL_set (by omega)]
  refine arrL_congr fun j hj => ?_
  unfold updV encP PG.s_ip updF
  by_cases c0 : j = 0
  · simp only [if_pos c0]
    rw [if_neg (by omega)]
  simp only [if_neg c0]
  by_cases c1 : j < 8
  · simp only [if_pos c1]
    rw [if_neg (by omega)]
  simp only [if_neg c1]
  by_cases c2 : j = 8
  · simp only [if_pos c2]
    rw [if_neg (by omega)]
  simp only [if_neg c2]
  by_cases c3 : j = 9
  · simp only [if_pos c3]
    rw [if_neg (by omega)]
  simp only [if_neg c3]
  by_cases c4 : j = 10
  · simp only [if_pos c4]
    rw [if_neg (by omega)]
  simp only [if_neg c4]
  by_cases c5 : j = 11
  · simp only [if_pos c5]
    rw [if_neg (by omega)]
  simp only [if_neg c5]
  by_cases c6 : j = 12
  · simp only [if_pos c6]
    rw [if_neg (by omega)]
  simp only [if_neg c6]
  by_cases c7 : j = 13
  · simp only [if_pos c7]
    rw [if_neg (by omega)]
  simp only [if_neg c7]
  by_cases c8 : j = 14
  · simp only [if_pos c8]
    rw [if_neg (by omega)]
  simp only [if_neg c8]
  by_cases c9 : j = 15
  · simp only [if_pos c9]
    rw [if_neg (by omega)]
  simp only [if_neg c9]
  by_cases c10 : j = 16
  · simp only [if_pos c10]
    rw [if_neg (by omega)]
  simp only [if_neg c10]
  by_cases c11 : j < 33
  · simp only [if_pos c11]
    by_cases p : (j - 17) % 2 = 0
    · simp only [if_pos p]
      by_cases e : j = 17 + i * 2 + 0
      · rw [if_pos e, if_pos (by omega)]
      · rw [if_neg e, if_neg (by omega)]
    · simp only [if_neg p]
      rw [if_neg (by omega)]
  simp only [if_neg c11]
  by_cases c12 : j = 33
  · simp only [if_pos c12]
    rw [if_neg (by omega)]
  simp only [if_neg c12]
  by_cases c13 : j = 34
  · simp only [if_pos c13]
    rw [if_neg (by omega)]
  simp only [if_neg c13]
  by_cases c14 : j = 35
  · simp only [if_pos c14]
    rw [if_neg (by omega)]
  simp only [if_neg c14]
  rw [if_neg (by omega)]

theorem ld_siv (m : PG) (i : Nat) (h : i < 8) : (arrL 37 (encP m))[16 + 1 + i * 2 + 1]? = some (.int .u64 (m.iv i)) := by
  rw [show 16 + 1 + i * 2 + 1 = 17 + i * 2 + 1 by omega, arrL_get (by omega)]
  unfold encP
  (repeat (first | rw [if_pos (by omega)] | rw [if_neg (by omega)]))
  rw [show (17 + i * 2 + 1 - 17) / 2 = i by omega]
theorem st_siv (m : PG) (i : Nat) (x : Int) (h : i < 8) : setL (arrL 37 (encP m)) (16 + 1 + i * 2 + 1) [.int .u64 (x)] = arrL 37 (encP (m.s_iv i x)) := by
  rw [show 16 + 1 + i * 2 + 1 = 17 + i * 2 + 1 by omega, arrL_set (by omega)]
  refine arrL_congr fun j hj => ?_
  unfold updV encP PG.s_iv updF
  by_cases c0 : j = 0
  · simp only [if_pos c0]
    rw [if_neg (by omega)]
  simp only [if_neg c0]
  by_cases c1 : j < 8
  · simp only [if_pos c1]
    rw [if_neg (by omega)]
  simp only [if_neg c1]
  by_cases c2 : j = 8
  · simp only [if_pos c2]
    rw [if_neg (by omega)]
  simp only [if_neg c2]
  by_cases c3 : j = 9
  · simp only [if_pos c3]
    rw [if_neg (by omega)]
  simp only [if_neg c3]
  by_cases c4 : j = 10
  · simp only [if_pos c4]
    rw [if_neg (by omega)]
  simp only [if_neg c4]
  by_cases c5 : j = 11
  · simp only [if_pos c5]
    rw [if_neg (by omega)]
  simp only [if_neg c5]
  by_cases c6 : j = 12
  · simp only [if_pos c6]
    rw [if_neg (by omega)]
  simp only [if_neg c6]
  by_cases c7 : j = 13
  · simp only [if_pos c7]
    rw [if_neg (by omega)]
  simp only [if_neg c7]
  by_cases c8 : j = 14
  · simp only [if_pos c8]
    rw [if_neg (by omega)]
  simp only [if_neg c8]
  by_cases c9 : j = 15
  · simp only [if_pos c9]
    rw [if_neg (by omega)]
  simp only [if_neg c9]
  by_cases c10 : j = 16
  · simp only [if_pos c10]
    rw [if_neg (by omega)]
  simp only [if_neg c10]
  by_cases c11 : j < 33
  · simp only [if_pos c11]
    by_cases p : (j - 17) % 2 = 0
    · simp only [if_pos p]
      rw [if_neg (by omega)]
    · simp only [if_neg p]
      by_cases e : j = 17 + i * 2 + 1
      · rw [if_pos e, if_pos (by omega)]
      · rw [if_neg e, if_neg (by omega)]
  simp only [if_neg c11]
  by_cases c12 : j = 33
  · simp only [if_pos c12]
    rw [if_neg (by omega)]
  simp only [if_neg c12]
  by_cases c13 : j = 34
  · simp only [if_pos c13]
    rw [if_neg (by omega)]
  simp only [if_neg c13]
  by_cases c14 : j = 35
  · simp only [if_pos c14]
    rw [if_neg (by omega)]
  simp only [if_neg c14]
  rw [if_neg (by omega)]

attribute [local irreducible] encP

set_option maxHeartbeats 1000000 in
theorem look_spec (qb : Nat) (p : PG) (r : Int) : Sp Tryz.prog 121 #[.pointer (some ⟨qb, 0, none⟩), .int .u64 r] [(qb, C (arrL 37 (encP p)) 177)] (fun v F' => v = .tuple #[] ∧ F' = [(qb, C (arrL 37 (encP ((p.s_root r).s_pc 2))) 177)]) := by
  refine f_enter (args := [.pointer (some ⟨qb, 0, none⟩), .int .u64 r]) Tryz.func121 rfl Tryz.ntmps121 rfl ?_
  intro w0 w a hpre hl hh
  simp only [slotsFrom, Nat.reduceAdd] at hl
  refine c_seq ?_
  refine c_region ?_
  refine wl (wl_val hl rfl trivial (r_move hl rfl) ?_)
  clear hl a; intro a hl
  refine wl (wl_val hl rfl trivial (r_move hl rfl) ?_)
  clear hl a; intro a hl
  refine wl (wl_val hl rfl trivial (r_nilCheck hl rfl) ?_)
  clear hl a; intro a hl
  refine wl (wl_val hl rfl trivial (r_field hl rfl fld177_5) ?_)
  clear hl a; intro a hl
  refine wl (w_store hl hh trivial one37 rfl rfl (by repeat (first | exact find_head | apply find_tail)) (by rw [arrL_length]; omega) (by first | rfl | assumption | (apply Row.one; assumption)) (by exact st_root _ _) ?_)
  clear hh w; intro w hh
  refine w_nil ?_
  have hl2 := hl.add (t := 0) (hl.nil) rfl; clear hl; have hl := hl2; clear hl2
  refine then_normal ?_
  refine c_region ?_
  refine wl (wl_val hl rfl trivial (r_move hl rfl) ?_)
  clear hl a; intro a hl
  refine wl (wl_val hl rfl trivial (r_nilCheck hl rfl) ?_)
  clear hl a; intro a hl
  refine wl (wl_val hl rfl trivial (r_field hl rfl fld177_3) ?_)
  clear hl a; intro a hl
  refine wl (w_store hl hh trivial one170 rfl rfl (by repeat (first | exact find_head | apply find_tail)) (by rw [arrL_length]; omega) (by first | rfl | assumption | (apply Row.one; assumption)) (by exact st_pc _ _) ?_)
  clear hh w; intro w hh
  refine w_nil ?_
  have hl2 := hl.nil; clear hl; have hl := hl2; clear hl2
  refine f_end0 (F' := [(qb, C (arrL 37 (encP ((p.s_root r).s_pc 2))) 177)]) hl hh rfl (by repeat (first | exact keeps_nil | apply keeps_cons (by repeat (first | exact find_head | apply find_tail)) (by first  | rfl) | exact keeps_self | apply keeps_mv)) ?_
  exact ⟨rfl, rfl⟩

def throughF (p : PG) (x y : Int) : PG := if p.n = 0 then ((p.s_at_ 0).s_pc x).s_pc y else (p.s_at_ 0).s_pc x

set_option maxHeartbeats 1000000 in
theorem through_spec (qb : Nat) (p : PG) (x y : Int) : Sp Tryz.prog 126 #[.pointer (some ⟨qb, 0, none⟩), .int .u8 x, .int .u8 y] [(qb, C (arrL 37 (encP p)) 177)] (fun v F' => v = .tuple #[] ∧ F' = [(qb, C (arrL 37 (encP (throughF p x y))) 177)]) := by
  refine f_enter (args := [.pointer (some ⟨qb, 0, none⟩), .int .u8 x, .int .u8 y]) Tryz.func126 rfl Tryz.ntmps126 rfl ?_
  intro w0 w a hpre hl hh
  simp only [slotsFrom, Nat.reduceAdd] at hl
  refine c_seq ?_
  refine c_region ?_
  refine wl (wl_val hl rfl trivial (r_move hl rfl) ?_)
  clear hl a; intro a hl
  refine wl (wl_val hl rfl trivial (r_nilCheck hl rfl) ?_)
  clear hl a; intro a hl
  refine wl (wl_val hl rfl trivial (r_field hl rfl fld177_7) ?_)
  clear hl a; intro a hl
  refine wl (w_store hl hh trivial one3 rfl rfl (by repeat (first | exact find_head | apply find_tail)) (by rw [arrL_length]; omega) (by first | rfl | assumption | (apply Row.one; assumption)) (by exact st_at_ _ _) ?_)
  clear hh w; intro w hh
  refine w_nil ?_
  have hl2 := hl.add (t := 0) (hl.add (t := 1) (hl.add (t := 2) (hl.nil) rfl) rfl) rfl; clear hl; have hl := hl2; clear hl2
  refine then_normal ?_
  refine c_seq ?_
  refine c_region ?_
  refine wl (wl_val hl rfl trivial (r_move hl rfl) ?_)
  clear hl a; intro a hl
  refine wl (wl_val hl rfl trivial (r_move hl rfl) ?_)
  clear hl a; intro a hl
  refine wl (wl_val hl rfl trivial (r_nilCheck hl rfl) ?_)
  clear hl a; intro a hl
  refine wl (wl_val hl rfl trivial (r_field hl rfl fld177_3) ?_)
  clear hl a; intro a hl
  refine wl (w_store hl hh trivial one170 rfl rfl (by repeat (first | exact find_head | apply find_tail)) (by rw [arrL_length]; omega) (by first | rfl | assumption | (apply Row.one; assumption)) (by exact st_pc _ _) ?_)
  clear hh w; intro w hh
  refine w_nil ?_
  have hl2 := hl.add (t := 0) (hl.add (t := 2) (hl.nil) rfl) rfl; clear hl; have hl := hl2; clear hl2
  refine then_normal ?_
  refine c_seq ?_
  refine c_region ?_
  refine wl (wl_val hl rfl trivial (r_move hl rfl) ?_)
  clear hl a; intro a hl
  refine wl (wl_val hl rfl trivial (r_nilCheck hl rfl) ?_)
  clear hl a; intro a hl
  refine wl (wl_val hl rfl trivial (r_field hl rfl fld177_6) ?_)
  clear hl a; intro a hl
  refine wl (wl_val hl rfl trivial (r_field hl rfl fld175_0) ?_)
  clear hl a; intro a hl
  refine wl (w_load hl hh rfl trivial one3 rfl (by repeat (first | exact find_head | apply find_tail)) (by exact ld_n _) ?_)
  clear hl a; intro a hl
  refine wl (wl_val hl rfl trivial (r_eql hl rfl rfl) ?_)
  clear hl a; intro a hl
  refine w_nil ?_
  have hl2 := hl.add (t := 0) (hl.add (t := 2) (hl.add (t := 18) (hl.nil) rfl) rfl) rfl; clear hl; have hl := hl2; clear hl2
  refine then_normal ?_
  refine c_cond hl rfl ?_ ?_
  · intro hc0
    try simp only [decide_eq_true_eq, decide_eq_false_iff_not, Bool.not_eq_true', Bool.not_eq_false', Bool.not_eq_true, Bool.not_eq_false, Bool.and_eq_true, Bool.or_eq_true, Bool.and_eq_false_iff, Bool.or_eq_false_iff, Bool.not_not, ne_eq, Int.not_lt, Int.not_le, Decidable.not_not, beq_iff_eq, bne_iff_ne] at hc0
    have hcs : throughF p x y = ((p.s_at_ 0).s_pc x).s_pc y := if_pos hc0
    refine c_region ?_
    refine wl (wl_val hl rfl trivial (r_move hl rfl) ?_)
    clear hl a; intro a hl
    refine wl (wl_val hl rfl trivial (r_move hl rfl) ?_)
    clear hl a; intro a hl
    refine wl (wl_val hl rfl trivial (r_nilCheck hl rfl) ?_)
    clear hl a; intro a hl
    refine wl (wl_val hl rfl trivial (r_field hl rfl fld177_3) ?_)
    clear hl a; intro a hl
    refine wl (w_store hl hh trivial one170 rfl rfl (by repeat (first | exact find_head | apply find_tail)) (by rw [arrL_length]; omega) (by first | rfl | assumption | (apply Row.one; assumption)) (by exact st_pc _ _) ?_)
    clear hh w; intro w hh
    refine w_nil ?_
    have hl2 := hl.nil; clear hl; have hl := hl2; clear hl2
    refine f_end0 (F' := [(qb, C (arrL 37 (encP (throughF p x y))) 177)]) hl hh rfl (by repeat (first | exact keeps_nil | apply keeps_cons (by repeat (first | exact find_head | apply find_tail)) (by first  | rw [hcs] | rfl) | exact keeps_self | apply keeps_mv)) ?_
    exact ⟨rfl, rfl⟩
  · intro hc0
    try simp only [decide_eq_true_eq, decide_eq_false_iff_not, Bool.not_eq_true', Bool.not_eq_false', Bool.not_eq_true, Bool.not_eq_false, Bool.and_eq_true, Bool.or_eq_true, Bool.and_eq_false_iff, Bool.or_eq_false_iff, Bool.not_not, ne_eq, Int.not_lt, Int.not_le, Decidable.not_not, beq_iff_eq, bne_iff_ne] at hc0
    have hcs : throughF p x y = (p.s_at_ 0).s_pc x := if_neg hc0
    refine wp_skip ?_
    refine f_end0 (F' := [(qb, C (arrL 37 (encP (throughF p x y))) 177)]) hl hh rfl (by repeat (first | exact keeps_nil | apply keeps_cons (by repeat (first | exact find_head | apply find_tail)) (by first  | rw [hcs] | rfl) | exact keeps_self | apply keeps_mv)) ?_
    exact ⟨rfl, rfl⟩

theorem mul_fits {x y : Int} (h1 : 0 ≤ x ∧ x ≤ 8) (h2 : 1 ≤ y ∧ y ≤ 2) : Fits .i64 (x * y) := by
  have : y = 1 ∨ y = 2 := by omega
  rcases this with rfl | rfl <;> simp only [Fits] <;> omega

def walkedF (p : PG) (x : Int) : PG := if p.at_ + 1 = p.n * p.wdt then (p.s_at_ (p.at_ + 1)).s_pc x else p.s_at_ (p.at_ + 1)

set_option maxHeartbeats 1000000 in
theorem walked_spec (qb : Nat) (p : PG) (x : Int) (h1 : 0 ≤ p.at_ ∧ p.at_ ≤ 100) (h2 : 0 ≤ p.n ∧ p.n ≤ 8) (h3 : 1 ≤ p.wdt ∧ p.wdt ≤ 2) : Sp Tryz.prog 128 #[.pointer (some ⟨qb, 0, none⟩), .int .u8 x] [(qb, C (arrL 37 (encP p)) 177)] (fun v F' => v = .tuple #[] ∧ F' = [(qb, C (arrL 37 (encP (walkedF p x))) 177)]) := by
  refine f_enter (args := [.pointer (some ⟨qb, 0, none⟩), .int .u8 x]) Tryz.func128 rfl Tryz.ntmps128 rfl ?_
  intro w0 w a hpre hl hh
  simp only [slotsFrom, Nat.reduceAdd] at hl
  refine c_seq ?_
  refine c_region ?_
  refine wl (wl_val hl rfl trivial (r_move hl rfl) ?_)
  clear hl a; intro a hl
  refine wl (wl_val hl rfl trivial (r_nilCheck hl rfl) ?_)
  clear hl a; intro a hl
  refine wl (wl_val hl rfl trivial (r_field hl rfl fld177_7) ?_)
  clear hl a; intro a hl
  refine wl (w_load hl hh rfl trivial one3 rfl (by repeat (first | exact find_head | apply find_tail)) (by exact ld_at_ _) ?_)
  clear hl a; intro a hl
  first | refine wl (wl_val hl rfl trivial (r_add hl rfl rfl (by simp only [Fits]; omega)) ?_) | refine wl (wl_val hl rfl trivial (r_addW hl rfl rfl) ?_)
  clear hl a; intro a hl
  refine wl (wl_val hl rfl trivial (r_nilCheck hl rfl) ?_)
  clear hl a; intro a hl
  refine wl (wl_val hl rfl trivial (r_field hl rfl fld177_7) ?_)
  clear hl a; intro a hl
  refine wl (w_store hl hh trivial one3 rfl rfl (by repeat (first | exact find_head | apply find_tail)) (by rw [arrL_length]; omega) (by first | rfl | assumption | (apply Row.one; assumption)) (by exact st_at_ _ _) ?_)
  clear hh w; intro w hh
  refine w_nil ?_
  have hl2 := hl.add (t := 0) (hl.add (t := 1) (hl.nil) rfl) rfl; clear hl; have hl := hl2; clear hl2
  refine then_normal ?_
  refine c_seq ?_
  refine c_draw [(qb, C (arrL 37 (encP (p.s_at_ (p.at_ + 1)))) 177)] [15] mixed hh ?_
  clear hh w; intro w hh
  have hM : Mem [(qb, C (arrL 37 (encP (p.s_at_ (p.at_ + 1)))) 177)] w := (by repeat (first | exact Mem.nil | refine Mem.cons hh.mem (by repeat (first | exact find_head | apply find_tail)) ?_ | refine Mem.consR hh (by assumption) (by simp) ?_))
  refine d_take (i := 0) hl rfl (by kernel_rfl) (by kernel_rfl) (by kernel_rfl) (by kernel_rfl) (by kernel_rfl) rfl trivial (fun _ _ _ h => h) hM (fun w hC => r_move hl rfl) rfl ?_
  clear hl a; intro a hl
  refine d_take (i := 1) hl rfl (by kernel_rfl) (by kernel_rfl) (by kernel_rfl) (by kernel_rfl) (by kernel_rfl) rfl trivial (fun _ _ _ h => h) hM (fun w hC => r_nilCheck hl rfl) rfl ?_
  clear hl a; intro a hl
  refine d_take (i := 2) hl rfl (by kernel_rfl) (by kernel_rfl) (by kernel_rfl) (by kernel_rfl) (by kernel_rfl) rfl trivial (fun _ _ _ h => h) hM (fun w hC => r_field hl rfl fld177_7) rfl ?_
  clear hl a; intro a hl
  refine d_take (i := 3) hl rfl (by kernel_rfl) (by kernel_rfl) (by kernel_rfl) (by kernel_rfl) (by kernel_rfl) rfl trivial (fun _ _ _ h => h) hM (fun w hC => r_loadC hl rfl one3 hC (by repeat (first | exact find_head | apply find_tail)) (by exact ld_at_ _)) rfl ?_
  clear hl a; intro a hl
  refine d_take (i := 4) hl rfl (by kernel_rfl) (by kernel_rfl) (by kernel_rfl) (by kernel_rfl) (by kernel_rfl) rfl trivial (fun _ _ _ h => h) hM (fun w hC => r_move hl rfl) rfl ?_
  clear hl a; intro a hl
  refine d_take (i := 5) hl rfl (by kernel_rfl) (by kernel_rfl) (by kernel_rfl) (by kernel_rfl) (by kernel_rfl) rfl trivial (fun _ _ _ h => h) hM (fun w hC => r_nilCheck hl rfl) rfl ?_
  clear hl a; intro a hl
  refine d_take (i := 6) hl rfl (by kernel_rfl) (by kernel_rfl) (by kernel_rfl) (by kernel_rfl) (by kernel_rfl) rfl trivial (fun _ _ _ h => h) hM (fun w hC => r_field hl rfl fld177_6) rfl ?_
  clear hl a; intro a hl
  refine d_take (i := 7) hl rfl (by kernel_rfl) (by kernel_rfl) (by kernel_rfl) (by kernel_rfl) (by kernel_rfl) rfl trivial (fun _ _ _ h => h) hM (fun w hC => r_field hl rfl fld175_0) rfl ?_
  clear hl a; intro a hl
  refine d_take (i := 8) hl rfl (by kernel_rfl) (by kernel_rfl) (by kernel_rfl) (by kernel_rfl) (by kernel_rfl) rfl trivial (fun _ _ _ h => h) hM (fun w hC => r_loadC hl rfl one3 hC (by repeat (first | exact find_head | apply find_tail)) (by exact ld_n _)) rfl ?_
  clear hl a; intro a hl
  refine d_take (i := 9) hl rfl (by kernel_rfl) (by kernel_rfl) (by kernel_rfl) (by kernel_rfl) (by kernel_rfl) rfl trivial (fun _ _ _ h => h) hM (fun w hC => r_move hl rfl) rfl ?_
  clear hl a; intro a hl
  refine d_take (i := 10) hl rfl (by kernel_rfl) (by kernel_rfl) (by kernel_rfl) (by kernel_rfl) (by kernel_rfl) rfl trivial (fun _ _ _ h => h) hM (fun w hC => r_nilCheck hl rfl) rfl ?_
  clear hl a; intro a hl
  refine d_take (i := 11) hl rfl (by kernel_rfl) (by kernel_rfl) (by kernel_rfl) (by kernel_rfl) (by kernel_rfl) rfl trivial (fun _ _ _ h => h) hM (fun w hC => r_field hl rfl fld177_0) rfl ?_
  clear hl a; intro a hl
  refine d_take (i := 12) hl rfl (by kernel_rfl) (by kernel_rfl) (by kernel_rfl) (by kernel_rfl) (by kernel_rfl) rfl trivial (fun _ _ _ h => h) hM (fun w hC => r_field hl rfl fld69_2) rfl ?_
  clear hl a; intro a hl
  refine d_take (i := 13) hl rfl (by kernel_rfl) (by kernel_rfl) (by kernel_rfl) (by kernel_rfl) (by kernel_rfl) rfl trivial (fun _ _ _ h => h) hM (fun w hC => r_loadC hl rfl one3 hC (by repeat (first | exact find_head | apply find_tail)) (by exact ld_wdt _)) rfl ?_
  clear hl a; intro a hl
  first | refine d_take (i := 14) hl rfl (by kernel_rfl) (by kernel_rfl) (by kernel_rfl) (by kernel_rfl) (by kernel_rfl) rfl trivial (fun _ _ _ h => h) hM (fun w hC => r_mul hl rfl rfl (by simp only [Fits]; omega)) rfl ?_ | refine d_take (i := 14) hl rfl (by kernel_rfl) (by kernel_rfl) (by kernel_rfl) (by kernel_rfl) (by kernel_rfl) rfl trivial (fun _ _ _ h => h) hM (fun w hC => r_mulW hl rfl rfl) rfl ?_
  clear hl a; intro a hl
  refine d_takeL (i := 15) hl rfl (by kernel_rfl) (by kernel_rfl) (by kernel_rfl) (by kernel_rfl) (by kernel_rfl) rfl trivial (fun _ _ _ h => h) (fun w => r_eql hl rfl rfl) rfl ?_
  clear hl a; intro a hl
  refine d_done (by kernel_rfl) ?_
  try clear hM
  have hl2 := hl.add (t := 0) (hl.add (t := 1) (hl.add (t := 26) (hl.nil) rfl) rfl) rfl; clear hl; have hl := hl2; clear hl2
  refine then_normal ?_
  refine c_cond hl rfl ?_ ?_
  · intro hc0
    try simp only [decide_eq_true_eq, decide_eq_false_iff_not, Bool.not_eq_true', Bool.not_eq_false', Bool.not_eq_true, Bool.not_eq_false, Bool.and_eq_true, Bool.or_eq_true, Bool.and_eq_false_iff, Bool.or_eq_false_iff, Bool.not_not, ne_eq, Int.not_lt, Int.not_le, Decidable.not_not, beq_iff_eq, bne_iff_ne] at hc0
    have hwf : IntKind.i64.wrap (p.n * p.wdt) = p.n * p.wdt := wrap_fits (mul_fits h2 h3)
    have hcs : walkedF p x = (p.s_at_ (p.at_ + 1)).s_pc x := if_pos (Eq.trans hc0 hwf)
    refine c_region ?_
    refine wl (wl_val hl rfl trivial (r_move hl rfl) ?_)
    clear hl a; intro a hl
    refine wl (wl_val hl rfl trivial (r_move hl rfl) ?_)
    clear hl a; intro a hl
    refine wl (wl_val hl rfl trivial (r_nilCheck hl rfl) ?_)
    clear hl a; intro a hl
    refine wl (wl_val hl rfl trivial (r_field hl rfl fld177_3) ?_)
    clear hl a; intro a hl
    refine wl (w_store hl hh trivial one170 rfl rfl (by repeat (first | exact find_head | apply find_tail)) (by rw [arrL_length]; omega) (by first | rfl | assumption | (apply Row.one; assumption)) (by exact st_pc _ _) ?_)
    clear hh w; intro w hh
    refine w_nil ?_
    have hl2 := hl.nil; clear hl; have hl := hl2; clear hl2
    refine f_end0 (F' := [(qb, C (arrL 37 (encP (walkedF p x))) 177)]) hl hh rfl (by repeat (first | exact keeps_nil | apply keeps_cons (by repeat (first | exact find_head | apply find_tail)) (by first  | rw [hcs] | rfl) | exact keeps_self | apply keeps_mv)) ?_
    exact ⟨rfl, rfl⟩
  · intro hc0
    try simp only [decide_eq_true_eq, decide_eq_false_iff_not, Bool.not_eq_true', Bool.not_eq_false', Bool.not_eq_true, Bool.not_eq_false, Bool.and_eq_true, Bool.or_eq_true, Bool.and_eq_false_iff, Bool.or_eq_false_iff, Bool.not_not, ne_eq, Int.not_lt, Int.not_le, Decidable.not_not, beq_iff_eq, bne_iff_ne] at hc0
    have hwf : IntKind.i64.wrap (p.n * p.wdt) = p.n * p.wdt := wrap_fits (mul_fits h2 h3)
    have hcs : walkedF p x = p.s_at_ (p.at_ + 1) := if_neg (fun e => hc0 (Eq.trans e hwf.symm))
    refine wp_skip ?_
    refine f_end0 (F' := [(qb, C (arrL 37 (encP (walkedF p x))) 177)]) hl hh rfl (by repeat (first | exact keeps_nil | apply keeps_cons (by repeat (first | exact find_head | apply find_tail)) (by first  | rw [hcs] | rfl) | exact keeps_self | apply keeps_mv)) ?_
    exact ⟨rfl, rfl⟩
end Go.Proofs.Qxb6500914aGreat

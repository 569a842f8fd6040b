import Derived.Test.Qxb6500914aGreatRows
import Derived.Test.Qxb6500914aGreatEng
import Derived.Test.Qxb6500914aGreatStr
import Derived.Test.Qxb6500914aGreatFun
import Derived.KernelRfl
namespace Go.Proofs.Qxb6500914aGreat
open Go.Eng
set_option linter.unusedVariables false
set_option linter.unusedSimpArgs false
theorem fld116_4 : fieldOk Tryz.prog 116 4 16384 = true := by kernel_rfl
theorem one3 : oneOk Tryz.prog 3 = true := by kernel_rfl
theorem zero114 : zeroOk Tryz.prog 114 (.agg #[(.int .u8 0), (.int .u32 0), (.int .u8 0), (.bool false), (.int .u64 0), (.int .u64 0)]) := by unfold zeroOk; kernel_rfl
theorem bld114 : buildOk Tryz.prog 114 [(0, 1), (1, 1), (2, 1), (3, 1), (4, 1), (5, 1)] = true := by kernel_rfl
theorem fld116_5 : fieldOk Tryz.prog 116 5 16385 = true := by kernel_rfl
theorem agg114 : aggOk Tryz.prog 114 6 = true := by kernel_rfl
theorem mixed : Tryz.prog.follows .mixedOrders = true := by kernel_rfl
theorem fld116_0 : fieldOk Tryz.prog 116 0 0 = true := by kernel_rfl
theorem arr106 : arrOk Tryz.prog 106 4096 1 = true := by kernel_rfl
theorem one37 : oneOk Tryz.prog 37 = true := by kernel_rfl
theorem fld114_4 : fieldOk Tryz.prog 114 4 4 = true := by kernel_rfl
theorem fld114_5 : fieldOk Tryz.prog 114 5 5 = true := by kernel_rfl
theorem fld114_1 : fieldOk Tryz.prog 114 1 1 = true := by kernel_rfl
theorem one111 : oneOk Tryz.prog 111 = true := by kernel_rfl
theorem fld114_3 : fieldOk Tryz.prog 114 3 3 = true := by kernel_rfl
theorem one4 : oneOk Tryz.prog 4 = true := by kernel_rfl
theorem cal81 : callable Tryz.prog 81 = true := by kernel_rfl
theorem cal82 : callable Tryz.prog 82 = true := by kernel_rfl
def updF {α : Type} (f : Nat → α) (i : Nat) (x : α) : Nat → α := fun j => if j = i then x else f j

structure MS where
  word : Nat → Int
  gen : Nat → Int
  live : Nat → Bool
  size : Nat → Int
  cnt : Int
  lk : Int
  la : Int
  ls : Int
  ld : Bool
  lb : Int
  lf : Int
def encM (m : MS) (i : Nat) : Value := if i < 4096 then .int .u64 (m.word (i - 0)) else if i < 8192 then .int .u64 (m.gen (i - 4096)) else if i < 12288 then .bool (m.live (i - 8192)) else if i < 16384 then .int .i64 (m.size (i - 12288)) else if i = 16384 then .int .i64 (m.cnt) else if i = 16385 then .int .u8 (m.lk) else if i = 16386 then .int .u32 (m.la) else if i = 16387 then .int .u8 (m.ls) else if i = 16388 then .bool (m.ld) else if i = 16389 then .int .u64 (m.lb) else .int .u64 (m.lf)
def MS.s_word (m : MS) (i : Nat) (x : Int) : MS := { m with word := updF m.word i x }
def MS.s_gen (m : MS) (i : Nat) (x : Int) : MS := { m with gen := updF m.gen i x }
def MS.s_live (m : MS) (i : Nat) (x : Bool) : MS := { m with live := updF m.live i x }
def MS.s_size (m : MS) (i : Nat) (x : Int) : MS := { m with size := updF m.size i x }
def MS.s_cnt (m : MS) (x : Int) : MS := { m with cnt := x }
def MS.s_lk (m : MS) (x : Int) : MS := { m with lk := x }
def MS.s_la (m : MS) (x : Int) : MS := { m with la := x }
def MS.s_ls (m : MS) (x : Int) : MS := { m with ls := x }
def MS.s_ld (m : MS) (x : Bool) : MS := { m with ld := x }
def MS.s_lb (m : MS) (x : Int) : MS := { m with lb := x }
def MS.s_lf (m : MS) (x : Int) : MS := { m with lf := x }

theorem ld_word (m : MS) (i : Nat) (h : i < 4096) : (arrL 16391 (encM m))[0 + 0 + i * 1]? = some (.int .u64 (m.word i)) := by
  rw [show 0 + 0 + i * 1 = 0 + i by omega, arrL_get (by omega)]
  unfold encM
  (repeat (first | rw [if_pos (by omega)] | rw [if_neg (by omega)]))
  rw [show 0 + i - 0 = i by omega]
theorem st_word (m : MS) (i : Nat) (x : Int) (h : i < 4096) : setL (arrL 16391 (encM m)) (0 + 0 + i * 1) [.int .u64 (x)] = arrL 16391 (encM (m.s_word i x)) := by
  rw [show 0 + 0 + i * 1 = 0 + i by omega, arrL_set (by omega)]
  refine arrL_congr fun j hj => ?_
  unfold updV encM MS.s_word updF
  by_cases c0 : j < 4096
  · simp only [if_pos c0]
    by_cases e : j = 0 + i
    · rw [if_pos e, if_pos (by omega)]
    · rw [if_neg e, if_neg (by omega)]
  simp only [if_neg c0]
  by_cases c1 : j < 8192
  · simp only [if_pos c1]
    rw [if_neg (by omega)]
  simp only [if_neg c1]
  by_cases c2 : j < 12288
  · simp only [if_pos c2]
    rw [if_neg (by omega)]
  simp only [if_neg c2]
  by_cases c3 : j < 16384
  · simp only [if_pos c3]
    rw [if_neg (by omega)]
  simp only [if_neg c3]
  by_cases c4 : j = 16384
  · simp only [if_pos c4]
    rw [if_neg (by omega)]
  simp only [if_neg c4]
  by_cases c5 : j = 16385
  · simp only [if_pos c5]
    rw [if_neg (by omega)]
  simp only [if_neg c5]
  by_cases c6 : j = 16386
  · simp only [if_pos c6]
    rw [if_neg (by omega)]
  simp only [if_neg c6]
  by_cases c7 : j = 16387
  · simp only [if_pos c7]
    rw [if_neg (by omega)]
  simp only [if_neg c7]
  by_cases c8 : j = 16388
  · simp only [if_pos c8]
    rw [if_neg (by omega)]
  simp only [if_neg c8]
  by_cases c9 : j = 16389
  · simp only [if_pos c9]
    rw [if_neg (by omega)]
  simp only [if_neg c9]
  rw [if_neg (by omega)]

theorem ld_gen (m : MS) (i : Nat) (h : i < 4096) : (arrL 16391 (encM m))[0 + 4096 + i * 1]? = some (.int .u64 (m.gen i)) := by
  rw [show 0 + 4096 + i * 1 = 4096 + i by omega, arrL_get (by omega)]
  unfold encM
  (repeat (first | rw [if_pos (by omega)] | rw [if_neg (by omega)]))
  rw [show 4096 + i - 4096 = i by omega]
theorem st_gen (m : MS) (i : Nat) (x : Int) (h : i < 4096) : setL (arrL 16391 (encM m)) (0 + 4096 + i * 1) [.int .u64 (x)] = arrL 16391 (encM (m.s_gen i x)) := by
  rw [show 0 + 4096 + i * 1 = 4096 + i by omega, arrL_set (by omega)]
  refine arrL_congr fun j hj => ?_
  unfold updV encM MS.s_gen updF
  by_cases c0 : j < 4096
  · simp only [if_pos c0]
    rw [if_neg (by omega)]
  simp only [if_neg c0]
  by_cases c1 : j < 8192
  · simp only [if_pos c1]
    by_cases e : j = 4096 + i
    · rw [if_pos e, if_pos (by omega)]
    · rw [if_neg e, if_neg (by omega)]
  simp only [if_neg c1]
  by_cases c2 : j < 12288
  · simp only [if_pos c2]
    rw [if_neg (by omega)]
  simp only [if_neg c2]
  by_cases c3 : j < 16384
  · simp only [if_pos c3]
    rw [if_neg (by omega)]
  simp only [if_neg c3]
  by_cases c4 : j = 16384
  · simp only [if_pos c4]
    rw [if_neg (by omega)]
  simp only [if_neg c4]
  by_cases c5 : j = 16385
  · simp only [if_pos c5]
    rw [if_neg (by omega)]
  simp only [if_neg c5]
  by_cases c6 : j = 16386
  · simp only [if_pos c6]
    rw [if_neg (by omega)]
  simp only [if_neg c6]
  by_cases c7 : j = 16387
  · simp only [if_pos c7]
    rw [if_neg (by omega)]
  simp only [if_neg c7]
  by_cases c8 : j = 16388
  · simp only [if_pos c8]
    rw [if_neg (by omega)]
  simp only [if_neg c8]
  by_cases c9 : j = 16389
  · simp only [if_pos c9]
    rw [if_neg (by omega)]
  simp only [if_neg c9]
  rw [if_neg (by omega)]

theorem ld_live (m : MS) (i : Nat) (h : i < 4096) : (arrL 16391 (encM m))[0 + 8192 + i * 1]? = some (.bool (m.live i)) := by
  rw [show 0 + 8192 + i * 1 = 8192 + i by omega, arrL_get (by omega)]
  unfold encM
  (repeat (first | rw [if_pos (by omega)] | rw [if_neg (by omega)]))
  rw [show 8192 + i - 8192 = i by omega]
theorem st_live (m : MS) (i : Nat) (x : Bool) (h : i < 4096) : setL (arrL 16391 (encM m)) (0 + 8192 + i * 1) [.bool (x)] = arrL 16391 (encM (m.s_live i x)) := by
  rw [show 0 + 8192 + i * 1 = 8192 + i by omega, arrL_set (by omega)]
  refine arrL_congr fun j hj => ?_
  unfold updV encM MS.s_live updF
  by_cases c0 : j < 4096
  · simp only [if_pos c0]
    rw [if_neg (by omega)]
  simp only [if_neg c0]
  by_cases c1 : j < 8192
  · simp only [if_pos c1]
    rw [if_neg (by omega)]
  simp only [if_neg c1]
  by_cases c2 : j < 12288
  · simp only [if_pos c2]
    by_cases e : j = 8192 + i
    · rw [if_pos e, if_pos (by omega)]
    · rw [if_neg e, if_neg (by omega)]
  simp only [if_neg c2]
  by_cases c3 : j < 16384
  · simp only [if_pos c3]
    rw [if_neg (by omega)]
  simp only [if_neg c3]
  by_cases c4 : j = 16384
  · simp only [if_pos c4]
    rw [if_neg (by omega)]
  simp only [if_neg c4]
  by_cases c5 : j = 16385
  · simp only [if_pos c5]
    rw [if_neg (by omega)]
  simp only [if_neg c5]
  by_cases c6 : j = 16386
  · simp only [if_pos c6]
    rw [if_neg (by omega)]
  simp only [if_neg c6]
  by_cases c7 : j = 16387
  · simp only [if_pos c7]
    rw [if_neg (by omega)]
  simp only [if_neg c7]
  by_cases c8 : j = 16388
  · simp only [if_pos c8]
    rw [if_neg (by omega)]
  simp only [if_neg c8]
  by_cases c9 : j = 16389
  · simp only [if_pos c9]
    rw [if_neg (by omega)]
  simp only [if_neg c9]
  rw [if_neg (by omega)]

theorem ld_size (m : MS) (i : Nat) (h : i < 4096) : (arrL 16391 (encM m))[0 + 12288 + i * 1]? = some (.int .i64 (m.size i)) := by
  rw [show 0 + 12288 + i * 1 = 12288 + i by omega, arrL_get (by omega)]
  unfold encM
  (repeat (first | rw [if_pos (by omega)] | rw [if_neg (by omega)]))
  rw [show 12288 + i - 12288 = i by omega]
theorem st_size (m : MS) (i : Nat) (x : Int) (h : i < 4096) : setL (arrL 16391 (encM m)) (0 + 12288 + i * 1) [.int .i64 (x)] = arrL 16391 (encM (m.s_size i x)) := by
  rw [show 0 + 12288 + i * 1 = 12288 + i by omega, arrL_set (by omega)]
  refine arrL_congr fun j hj => ?_
  unfold updV encM MS.s_size updF
  by_cases c0 : j < 4096
  · simp only [if_pos c0]
    rw [if_neg (by omega)]
  simp only [if_neg c0]
  by_cases c1 : j < 8192
  · simp only [if_pos c1]
    rw [if_neg (by omega)]
  simp only [if_neg c1]
  by_cases c2 : j < 12288
  · simp only [if_pos c2]
    rw [if_neg (by omega)]
  simp only [if_neg c2]
  by_cases c3 : j < 16384
  · simp only [if_pos c3]
    by_cases e : j = 12288 + i
    · rw [if_pos e, if_pos (by omega)]
    · rw [if_neg e, if_neg (by omega)]
  simp only [if_neg c3]
  by_cases c4 : j = 16384
  · simp only [if_pos c4]
    rw [if_neg (by omega)]
  simp only [if_neg c4]
  by_cases c5 : j = 16385
  · simp only [if_pos c5]
    rw [if_neg (by omega)]
  simp only [if_neg c5]
  by_cases c6 : j = 16386
  · simp only [if_pos c6]
    rw [if_neg (by omega)]
  simp only [if_neg c6]
  by_cases c7 : j = 16387
  · simp only [if_pos c7]
    rw [if_neg (by omega)]
  simp only [if_neg c7]
  by_cases c8 : j = 16388
  · simp only [if_pos c8]
    rw [if_neg (by omega)]
  simp only [if_neg c8]
  by_cases c9 : j = 16389
  · simp only [if_pos c9]
    rw [if_neg (by omega)]
  simp only [if_neg c9]
  rw [if_neg (by omega)]

theorem ld_cnt (m : MS)   : (arrL 16391 (encM m))[0 + 16384]? = some (.int .i64 (m.cnt)) := by
  rw [show 0 + 16384 = 16384 by omega, arrL_get (by omega)]
  unfold encM
  (repeat (first | rw [if_pos (by omega)] | rw [if_neg (by omega)]))
theorem st_cnt (m : MS)  (x : Int)  : setL (arrL 16391 (encM m)) (0 + 16384) [.int .i64 (x)] = arrL 16391 (encM (m.s_cnt x)) := by
  rw [show 0 + 16384 = 16384 by omega, arrL_set (by omega)]
  refine arrL_congr fun j hj => ?_
  unfold updV encM MS.s_cnt
  by_cases c0 : j < 4096
  · simp only [if_pos c0]
    rw [if_neg (by omega)]
  simp only [if_neg c0]
  by_cases c1 : j < 8192
  · simp only [if_pos c1]
    rw [if_neg (by omega)]
  simp only [if_neg c1]
  by_cases c2 : j < 12288
  · simp only [if_pos c2]
    rw [if_neg (by omega)]
  simp only [if_neg c2]
  by_cases c3 : j < 16384
  · simp only [if_pos c3]
    rw [if_neg (by omega)]
  simp only [if_neg c3]
  by_cases c4 : j = 16384
  · simp only [if_pos c4]
  · simp only [if_neg c4]

theorem ld_lk (m : MS)   : (arrL 16391 (encM m))[0 + 16385 + 0]? = some (.int .u8 (m.lk)) := by
  rw [show 0 + 16385 + 0 = 16385 by omega, arrL_get (by omega)]
  unfold encM
  (repeat (first | rw [if_pos (by omega)] | rw [if_neg (by omega)]))
theorem st_lk (m : MS)  (x : Int)  : setL (arrL 16391 (encM m)) (0 + 16385 + 0) [.int .u8 (x)] = arrL 16391 (encM (m.s_lk x)) := by
  rw [show 0 + 16385 + 0 = 16385 by omega, arrL_set (by omega)]
  refine arrL_congr fun j hj => ?_
  unfold updV encM MS.s_lk
  by_cases c0 : j < 4096
  · simp only [if_pos c0]
    rw [if_neg (by omega)]
  simp only [if_neg c0]
  by_cases c1 : j < 8192
  · simp only [if_pos c1]
    rw [if_neg (by omega)]
  simp only [if_neg c1]
  by_cases c2 : j < 12288
  · simp only [if_pos c2]
    rw [if_neg (by omega)]
  simp only [if_neg c2]
  by_cases c3 : j < 16384
  · simp only [if_pos c3]
    rw [if_neg (by omega)]
  simp only [if_neg c3]
  by_cases c4 : j = 16384
  · simp only [if_pos c4]
    rw [if_neg (by omega)]
  simp only [if_neg c4]
  by_cases c5 : j = 16385
  · simp only [if_pos c5]
  · simp only [if_neg c5]

theorem ld_la (m : MS)   : (arrL 16391 (encM m))[0 + 16385 + 1]? = some (.int .u32 (m.la)) := by
  rw [show 0 + 16385 + 1 = 16386 by omega, arrL_get (by omega)]
  unfold encM
  (repeat (first | rw [if_pos (by omega)] | rw [if_neg (by omega)]))
theorem st_la (m : MS)  (x : Int)  : setL (arrL 16391 (encM m)) (0 + 16385 + 1) [.int .u32 (x)] = arrL 16391 (encM (m.s_la x)) := by
  rw [show 0 + 16385 + 1 = 16386 by omega, arrL_set (by omega)]
  refine arrL_congr fun j hj => ?_
  unfold updV encM MS.s_la
  by_cases c0 : j < 4096
  · simp only [if_pos c0]
    rw [if_neg (by omega)]
  simp only [if_neg c0]
  by_cases c1 : j < 8192
  · simp only [if_pos c1]
    rw [if_neg (by omega)]
  simp only [if_neg c1]
  by_cases c2 : j < 12288
  · simp only [if_pos c2]
    rw [if_neg (by omega)]
  simp only [if_neg c2]
  by_cases c3 : j < 16384
  · simp only [if_pos c3]
    rw [if_neg (by omega)]
  simp only [if_neg c3]
  by_cases c4 : j = 16384
  · simp only [if_pos c4]
    rw [if_neg (by omega)]
  simp only [if_neg c4]
  by_cases c5 : j = 16385
  · simp only [if_pos c5]
    rw [if_neg (by omega)]
  simp only [if_neg c5]
  by_cases c6 : j = 16386
  · simp only [if_pos c6]
  · simp only [if_neg c6]

theorem ld_ls (m : MS)   : (arrL 16391 (encM m))[0 + 16385 + 2]? = some (.int .u8 (m.ls)) := by
  rw [show 0 + 16385 + 2 = 16387 by omega, arrL_get (by omega)]
  unfold encM
  (repeat (first | rw [if_pos (by omega)] | rw [if_neg (by omega)]))
theorem st_ls (m : MS)  (x : Int)  : setL (arrL 16391 (encM m)) (0 + 16385 + 2) [.int .u8 (x)] = arrL 16391 (encM (m.s_ls x)) := by
  rw [show 0 + 16385 + 2 = 16387 by omega, arrL_set (by omega)]
  refine arrL_congr fun j hj => ?_
  unfold updV encM MS.s_ls
  by_cases c0 : j < 4096
  · simp only [if_pos c0]
    rw [if_neg (by omega)]
  simp only [if_neg c0]
  by_cases c1 : j < 8192
  · simp only [if_pos c1]
    rw [if_neg (by omega)]
  simp only [if_neg c1]
  by_cases c2 : j < 12288
  · simp only [if_pos c2]
    rw [if_neg (by omega)]
  simp only [if_neg c2]
  by_cases c3 : j < 16384
  · simp only [if_pos c3]
    rw [if_neg (by omega)]
  simp only [if_neg c3]
  by_cases c4 : j = 16384
  · simp only [if_pos c4]
    rw [if_neg (by omega)]
  simp only [if_neg c4]
  by_cases c5 : j = 16385
  · simp only [if_pos c5]
    rw [if_neg (by omega)]
  simp only [if_neg c5]
  by_cases c6 : j = 16386
  · simp only [if_pos c6]
    rw [if_neg (by omega)]
  simp only [if_neg c6]
  by_cases c7 : j = 16387
  · simp only [if_pos c7]
  · simp only [if_neg c7]

theorem ld_ld (m : MS)   : (arrL 16391 (encM m))[0 + 16385 + 3]? = some (.bool (m.ld)) := by
  rw [show 0 + 16385 + 3 = 16388 by omega, arrL_get (by omega)]
  unfold encM
  (repeat (first | rw [if_pos (by omega)] | rw [if_neg (by omega)]))
theorem st_ld (m : MS)  (x : Bool)  : setL (arrL 16391 (encM m)) (0 + 16385 + 3) [.bool (x)] = arrL 16391 (encM (m.s_ld x)) := by
  rw [show 0 + 16385 + 3 = 16388 by omega, arrL_set (by omega)]
  refine arrL_congr fun j hj => ?_
  unfold updV encM MS.s_ld
  by_cases c0 : j < 4096
  · simp only [if_pos c0]
    rw [if_neg (by omega)]
  simp only [if_neg c0]
  by_cases c1 : j < 8192
  · simp only [if_pos c1]
    rw [if_neg (by omega)]
  simp only [if_neg c1]
  by_cases c2 : j < 12288
  · simp only [if_pos c2]
    rw [if_neg (by omega)]
  simp only [if_neg c2]
  by_cases c3 : j < 16384
  · simp only [if_pos c3]
    rw [if_neg (by omega)]
  simp only [if_neg c3]
  by_cases c4 : j = 16384
  · simp only [if_pos c4]
    rw [if_neg (by omega)]
  simp only [if_neg c4]
  by_cases c5 : j = 16385
  · simp only [if_pos c5]
    rw [if_neg (by omega)]
  simp only [if_neg c5]
  by_cases c6 : j = 16386
  · simp only [if_pos c6]
    rw [if_neg (by omega)]
  simp only [if_neg c6]
  by_cases c7 : j = 16387
  · simp only [if_pos c7]
    rw [if_neg (by omega)]
  simp only [if_neg c7]
  by_cases c8 : j = 16388
  · simp only [if_pos c8]
  · simp only [if_neg c8]

theorem ld_lb (m : MS)   : (arrL 16391 (encM m))[0 + 16385 + 4]? = some (.int .u64 (m.lb)) := by
  rw [show 0 + 16385 + 4 = 16389 by omega, arrL_get (by omega)]
  unfold encM
  (repeat (first | rw [if_pos (by omega)] | rw [if_neg (by omega)]))
theorem st_lb (m : MS)  (x : Int)  : setL (arrL 16391 (encM m)) (0 + 16385 + 4) [.int .u64 (x)] = arrL 16391 (encM (m.s_lb x)) := by
  rw [show 0 + 16385 + 4 = 16389 by omega, arrL_set (by omega)]
  refine arrL_congr fun j hj => ?_
  unfold updV encM MS.s_lb
  by_cases c0 : j < 4096
  · simp only [if_pos c0]
    rw [if_neg (by omega)]
  simp only [if_neg c0]
  by_cases c1 : j < 8192
  · simp only [if_pos c1]
    rw [if_neg (by omega)]
  simp only [if_neg c1]
  by_cases c2 : j < 12288
  · simp only [if_pos c2]
    rw [if_neg (by omega)]
  simp only [if_neg c2]
  by_cases c3 : j < 16384
  · simp only [if_pos c3]
    rw [if_neg (by omega)]
  simp only [if_neg c3]
  by_cases c4 : j = 16384
  · simp only [if_pos c4]
    rw [if_neg (by omega)]
  simp only [if_neg c4]
  by_cases c5 : j = 16385
  · simp only [if_pos c5]
    rw [if_neg (by omega)]
  simp only [if_neg c5]
  by_cases c6 : j = 16386
  · simp only [if_pos c6]
    rw [if_neg (by omega)]
  simp only [if_neg c6]
  by_cases c7 : j = 16387
  · simp only [if_pos c7]
    rw [if_neg (by omega)]
  simp only [if_neg c7]
  by_cases c8 : j = 16388
  · simp only [if_pos c8]
    rw [if_neg (by omega)]
  simp only [if_neg c8]
  by_cases c9 : j = 16389
  · simp only [if_pos c9]
  · simp only [if_neg c9]

theorem ld_lf (m : MS)   : (arrL 16391 (encM m))[0 + 16385 + 5]? = some (.int .u64 (m.lf)) := by
  rw [show 0 + 16385 + 5 = 16390 by omega, arrL_get (by omega)]
  unfold encM
  (repeat (first | rw [if_pos (by omega)] | rw [if_neg (by omega)]))
theorem st_lf (m : MS)  (x : Int)  : setL (arrL 16391 (encM m)) (0 + 16385 + 5) [.int .u64 (x)] = arrL 16391 (encM (m.s_lf x)) := by
  rw [show 0 + 16385 + 5 = 16390 by omega, arrL_set (by omega)]
  refine arrL_congr fun j hj => ?_
  unfold updV encM MS.s_lf
  by_cases c0 : j < 4096
  · simp only [if_pos c0]
    rw [if_neg (by omega)]
  simp only [if_neg c0]
  by_cases c1 : j < 8192
  · simp only [if_pos c1]
    rw [if_neg (by omega)]
  simp only [if_neg c1]
  by_cases c2 : j < 12288
  · simp only [if_pos c2]
    rw [if_neg (by omega)]
  simp only [if_neg c2]
  by_cases c3 : j < 16384
  · simp only [if_pos c3]
    rw [if_neg (by omega)]
  simp only [if_neg c3]
  by_cases c4 : j = 16384
  · simp only [if_pos c4]
    rw [if_neg (by omega)]
  simp only [if_neg c4]
  by_cases c5 : j = 16385
  · simp only [if_pos c5]
    rw [if_neg (by omega)]
  simp only [if_neg c5]
  by_cases c6 : j = 16386
  · simp only [if_pos c6]
    rw [if_neg (by omega)]
  simp only [if_neg c6]
  by_cases c7 : j = 16387
  · simp only [if_pos c7]
    rw [if_neg (by omega)]
  simp only [if_neg c7]
  by_cases c8 : j = 16388
  · simp only [if_pos c8]
    rw [if_neg (by omega)]
  simp only [if_neg c8]
  by_cases c9 : j = 16389
  · simp only [if_pos c9]
    rw [if_neg (by omega)]
  simp only [if_neg c9]
  rw [if_pos (by omega)]

def MS.setLast (m : MS) (k a s : Int) (d : Bool) (x y : Int) : MS := { m with lk := k, la := a, ls := s, ld := d, lb := x, lf := y }
theorem st_last (m : MS) (k a s : Int) (d : Bool) (x y : Int) : setL (arrL 16391 (encM m)) (0 + 16385) [.int .u8 k, .int .u32 a, .int .u8 s, .bool d, .int .u64 x, .int .u64 y] = arrL 16391 (encM (m.setLast k a s d x y)) := by
  unfold MS.setLast
  apply List.ext_getElem?
  intro j
  have hl := arrL_length 16391 (encM m)
  simp only [setL, List.length_cons, List.length_nil, Nat.zero_add, Nat.reduceAdd]
  by_cases h1 : j < 16385
  · rw [List.append_assoc, List.getElem?_append_left (by simp [hl]; omega), List.getElem?_take, if_pos h1, arrL_get (by omega), arrL_get (by omega)]
    unfold encM
    (repeat' split) <;> first | rfl | omega
  · rw [List.append_assoc, List.getElem?_append_right (by simp [hl]; omega)]
    simp only [List.length_take, hl, show min 16385 16391 = 16385 from rfl]
    by_cases h2 : j < 16391
    · rw [arrL_get h2]
      unfold encM
      obtain ⟨d, rfl⟩ : ∃ d, j = 16385 + d := ⟨j - 16385, by omega⟩
      have hd : d < 6 := by omega
      rw [Nat.add_sub_cancel_left]
      rw [List.getElem?_append_left (by simpa using hd)]
      match d, hd with
      | 0, _ => rfl
      | 1, _ => rfl
      | 2, _ => rfl
      | 3, _ => rfl
      | 4, _ => rfl
      | 5, _ => rfl
    · rw [List.getElem?_eq_none (by simp [hl]; omega), List.getElem?_eq_none (by rw [arrL_length]; omega)]
theorem encM_one (m : MS) (i : Nat) : (encM m i).oneCell' = true := by
  unfold encM
  (repeat' split) <;> rfl

attribute [local irreducible] encM

def beginF (m : MS) (k : Int) (ad : Nat) : MS := { m with cnt := IntKind.i64.wrap (m.cnt + 1), lk := k, la := ad, ls := 0, ld := false, lb := m.word ad, lf := m.word ad }
def putF (m : MS) (x : Int) (ad : Nat) : MS := { m with word := updF m.word ad x, lf := x, ld := true }

set_option maxHeartbeats 1000000 in
theorem begin_spec (b : Nat) (m : MS) (k : Int) (ad : Nat) (h : 2 ≤ ad ∧ ad < 4096) : Sp Tryz.prog 81 #[.pointer (some ⟨b, 0, none⟩), .int .u8 k, .int .u32 ad] [(b, C (arrL 16391 (encM m)) 116)] (fun v F' => v = .bool true ∧ F' = [(b, C (arrL 16391 (encM (beginF m k ad))) 116)]) := by
  refine f_enter (args := [.pointer (some ⟨b, 0, none⟩), .int .u8 k, .int .u32 ad]) Tryz.func81 rfl Tryz.ntmps81 rfl ?_
  intro w0 w a hpre hl hh
  simp only [slotsFrom, Nat.reduceAdd] at hl
  refine c_seq ?_
  refine c_region ?_
  refine wl (wl_val hl rfl trivial (r_assign hl rfl) ?_)
  clear hl a; intro a hl
  refine w_nil ?_
  have hl2 := hl.add (t := 0) (hl.add (t := 1) (hl.add (t := 2) (hl.nil) rfl) rfl) rfl; clear hl; have hl := hl2; clear hl2
  refine then_normal ?_
  refine c_seq ?_
  refine c_region ?_
  refine wl (wl_val hl rfl trivial (r_move hl rfl) ?_)
  clear hl a; intro a hl
  refine wl (wl_val hl rfl trivial (r_nilCheck hl rfl) ?_)
  clear hl a; intro a hl
  refine wl (wl_val hl rfl trivial (r_field hl rfl fld116_4) ?_)
  clear hl a; intro a hl
  refine wl (w_load hl hh rfl trivial one3 rfl (by repeat (first | exact find_head | apply find_tail)) (by exact ld_cnt _) ?_)
  clear hl a; intro a hl
  refine wl (wl_val hl rfl trivial (r_addW hl rfl rfl) ?_)
  clear hl a; intro a hl
  refine wl (wl_val hl rfl trivial (r_nilCheck hl rfl) ?_)
  clear hl a; intro a hl
  refine wl (wl_val hl rfl trivial (r_field hl rfl fld116_4) ?_)
  clear hl a; intro a hl
  refine wl (w_store hl hh trivial one3 rfl rfl (by repeat (first | exact find_head | apply find_tail)) (by rw [arrL_length]; omega) (by first | rfl | assumption | (apply Row.one; assumption)) (by exact st_cnt _ _) ?_)
  clear hh w; intro w hh
  refine w_nil ?_
  have hl2 := hl.add (t := 0) (hl.add (t := 1) (hl.add (t := 2) (hl.nil) rfl) rfl) rfl; clear hl; have hl := hl2; clear hl2
  refine then_normal ?_
  refine c_seq ?_
  refine c_region ?_
  refine wl (wl_val hl rfl trivial (r_move hl rfl) ?_)
  clear hl a; intro a hl
  refine wl (wl_val hl rfl trivial (r_move hl rfl) ?_)
  clear hl a; intro a hl
  refine wl (wl_val hl rfl trivial (r_move hl rfl) ?_)
  clear hl a; intro a hl
  refine wl (wl_val hl rfl trivial (r_build hl rfl zero114 bld114 (by simp only [fillL, setL, List.getElem?_cons_zero, List.getElem?_cons_succ, Value.cells, List.take_zero, List.take_succ_cons, List.take_nil, List.drop_zero, List.drop_succ_cons, List.drop_nil, List.length_cons, List.length_nil, List.cons_append, List.nil_append, List.append_nil, Nat.zero_add, Nat.add_zero, Nat.reduceAdd, Nat.reduceBEq, Nat.reduceEqDiff, Nat.ble, BEq.rfl, Bool.and_true, Bool.and_self, cond_true, beq_self_eq_true]; rfl)) ?_)
  clear hl a; intro a hl
  refine wl (wl_val hl rfl trivial (r_nilCheck hl rfl) ?_)
  clear hl a; intro a hl
  refine wl (wl_val hl rfl trivial (r_field hl rfl fld116_5) ?_)
  clear hl a; intro a hl
  refine wl (w_storeA hl hh trivial agg114 rfl rfl (by repeat (first | exact find_head | apply find_tail)) (by first | rfl | (simp; done)) (by rw [arrL_length]; decide) (by first | rfl | (simp; done)) (by exact st_last _ _ _ _ _ _ _) ?_)
  clear hh w; intro w hh
  refine w_nil ?_
  have hl2 := hl.add (t := 0) (hl.add (t := 2) (hl.nil) rfl) rfl; clear hl; have hl := hl2; clear hl2
  refine then_normal ?_
  refine c_seq ?_
  refine c_seq ?_
  refine c_region ?_
  refine wl (wl_val hl rfl trivial (r_move hl rfl) ?_)
  clear hl a; intro a hl
  refine wl (wl_val hl rfl trivial (r_lss hl rfl rfl) ?_)
  clear hl a; intro a hl
  refine wl (wl_val hl rfl trivial (r_move hl rfl) ?_)
  clear hl a; intro a hl
  refine sl_split (t := 22) hl rfl ?_ ?_
  · intro hg1; clear hl; intro hl
    try simp only [decide_eq_true_eq, decide_eq_false_iff_not, Bool.not_eq_true', Bool.not_eq_false', Bool.not_eq_true, Bool.not_eq_false, Bool.and_eq_true, Bool.or_eq_true, Bool.and_eq_false_iff, Bool.or_eq_false_iff, Bool.not_not, ne_eq, Int.not_lt, Int.not_le, Decidable.not_not, beq_iff_eq, bne_iff_ne] at hg1
    exfalso; first | omega | (simp at *; done) | (simp at *; omega)
  · intro hg1; clear hl; intro hl
    try simp only [decide_eq_true_eq, decide_eq_false_iff_not, Bool.not_eq_true', Bool.not_eq_false', Bool.not_eq_true, Bool.not_eq_false, Bool.and_eq_true, Bool.or_eq_true, Bool.and_eq_false_iff, Bool.or_eq_false_iff, Bool.not_not, ne_eq, Int.not_lt, Int.not_le, Decidable.not_not, beq_iff_eq, bne_iff_ne] at hg1
    refine wl (wl_val hl rfl ⟨_, _, rfl, rfl, rfl⟩ (r_move hl rfl) ?_)
    clear hl a; intro a hl
    refine wl (wl_val hl rfl ⟨_, _, rfl, rfl, rfl⟩ (r_geq hl rfl rfl) ?_)
    clear hl a; intro a hl
    refine wl (wl_val hl rfl trivial (r_pickF hl rfl rfl) ?_)
    clear hl a; intro a hl
    refine w_nil ?_
    have hl2 := hl.add (t := 0) (hl.add (t := 2) (hl.add (t := 25) (hl.nil) rfl) rfl) rfl; clear hl; have hl := hl2; clear hl2
    refine then_normal ?_
    refine c_cond hl rfl ?_ ?_
    · intro hc0
      try simp only [decide_eq_true_eq, decide_eq_false_iff_not, Bool.not_eq_true', Bool.not_eq_false', Bool.not_eq_true, Bool.not_eq_false, Bool.and_eq_true, Bool.or_eq_true, Bool.and_eq_false_iff, Bool.or_eq_false_iff, Bool.not_not, ne_eq, Int.not_lt, Int.not_le, Decidable.not_not, beq_iff_eq, bne_iff_ne] at hc0
      exfalso; first | omega | (simp at *; done) | (simp at *; omega)
    · intro hc0
      try simp only [decide_eq_true_eq, decide_eq_false_iff_not, Bool.not_eq_true', Bool.not_eq_false', Bool.not_eq_true, Bool.not_eq_false, Bool.and_eq_true, Bool.or_eq_true, Bool.and_eq_false_iff, Bool.or_eq_false_iff, Bool.not_not, ne_eq, Int.not_lt, Int.not_le, Decidable.not_not, beq_iff_eq, bne_iff_ne] at hc0
      refine wp_skip ?_
      refine then_normal ?_
      refine c_seq ?_
      refine c_draw [] [18, 19, 20, 21] mixed hh ?_
      clear hh w; intro w hh
      have hM : Mem [] w := Mem.nil
      refine d_take (i := 0) hl rfl (by kernel_rfl) (by kernel_rfl) (by kernel_rfl) (by kernel_rfl) (by kernel_rfl) rfl trivial (fun _ _ _ h => h) hM (fun w hC => r_move hl rfl) rfl ?_
      clear hl a; intro a hl
      refine d_take (i := 1) hl rfl (by kernel_rfl) (by kernel_rfl) (by kernel_rfl) (by kernel_rfl) (by kernel_rfl) rfl trivial (fun _ _ _ h => h) hM (fun w hC => r_move hl rfl) rfl ?_
      clear hl a; intro a hl
      refine d_take (i := 2) hl rfl (by kernel_rfl) (by kernel_rfl) (by kernel_rfl) (by kernel_rfl) (by kernel_rfl) rfl trivial (fun _ _ _ h => h) hM (fun w hC => r_move hl rfl) rfl ?_
      clear hl a; intro a hl
      refine d_take (i := 3) hl rfl (by kernel_rfl) (by kernel_rfl) (by kernel_rfl) (by kernel_rfl) (by kernel_rfl) rfl trivial (fun _ _ _ h => h) hM (fun w hC => r_move hl rfl) rfl ?_
      clear hl a; intro a hl
      refine d_take (i := 4) hl rfl (by kernel_rfl) (by kernel_rfl) (by kernel_rfl) (by kernel_rfl) (by kernel_rfl) rfl trivial (fun _ _ _ h => h) hM (fun w hC => r_nilCheck hl rfl) rfl ?_
      clear hl a; intro a hl
      refine d_take (i := 5) hl rfl (by kernel_rfl) (by kernel_rfl) (by kernel_rfl) (by kernel_rfl) (by kernel_rfl) rfl trivial (fun _ _ _ h => h) hM (fun w hC => r_field hl rfl fld116_0) rfl ?_
      clear hl a; intro a hl
      refine d_take (i := 6) hl rfl (by kernel_rfl) (by kernel_rfl) (by kernel_rfl) (by kernel_rfl) (by kernel_rfl) rfl trivial (fun _ _ _ h => h) hM (fun w hC => r_indexA hl rfl rfl arr106 (by omega) (by omega) (by first | (simp only [Int.reduceToNat]; rfl) | exact toNat_add1 _ | exact toNat_add2 _ _ | exact toNat_emod _ _ | exact Int.toNat_natCast _ | rfl)) rfl ?_
      clear hl a; intro a hl
      refine d_take (i := 8) hl rfl (by kernel_rfl) (by kernel_rfl) (by kernel_rfl) (by kernel_rfl) (by kernel_rfl) rfl trivial (fun _ _ _ h => h) hM (fun w hC => r_move hl rfl) rfl ?_
      clear hl a; intro a hl
      refine d_take (i := 9) hl rfl (by kernel_rfl) (by kernel_rfl) (by kernel_rfl) (by kernel_rfl) (by kernel_rfl) rfl trivial (fun _ _ _ h => h) hM (fun w hC => r_move hl rfl) rfl ?_
      clear hl a; intro a hl
      refine d_take (i := 10) hl rfl (by kernel_rfl) (by kernel_rfl) (by kernel_rfl) (by kernel_rfl) (by kernel_rfl) rfl trivial (fun _ _ _ h => h) hM (fun w hC => r_nilCheck hl rfl) rfl ?_
      clear hl a; intro a hl
      refine d_take (i := 11) hl rfl (by kernel_rfl) (by kernel_rfl) (by kernel_rfl) (by kernel_rfl) (by kernel_rfl) rfl trivial (fun _ _ _ h => h) hM (fun w hC => r_field hl rfl fld116_0) rfl ?_
      clear hl a; intro a hl
      refine d_take (i := 12) hl rfl (by kernel_rfl) (by kernel_rfl) (by kernel_rfl) (by kernel_rfl) (by kernel_rfl) rfl trivial (fun _ _ _ h => h) hM (fun w hC => r_indexA hl rfl rfl arr106 (by omega) (by omega) (by first | (simp only [Int.reduceToNat]; rfl) | exact toNat_add1 _ | exact toNat_add2 _ _ | exact toNat_emod _ _ | exact Int.toNat_natCast _ | rfl)) rfl ?_
      clear hl a; intro a hl
      refine d_two (i := 7) (j := 13) (by kernel_rfl) rfl rfl ?_ ?_
      ·
        try clear hM
        refine id (w_load hl hh rfl trivial one37 rfl (by repeat (first | exact find_head | apply find_tail)) (by exact ld_word _ _ (by omega)) ?_)
        clear hl a; intro a hl
        have hM : Mem [] w := Mem.nil
        refine d_step (fun _ => hM) ?_
        refine d_one (i := 13) (by kernel_rfl) rfl ?_
        try clear hM
        refine id (w_load hl hh rfl trivial one37 rfl (by repeat (first | exact find_head | apply find_tail)) (by exact ld_word _ _ (by omega)) ?_)
        clear hl a; intro a hl
        have hM : Mem [] w := Mem.nil
        refine d_step (fun _ => hM) ?_
        refine d_take (i := 14) hl rfl (by kernel_rfl) (by kernel_rfl) (by kernel_rfl) (by kernel_rfl) (by kernel_rfl) rfl trivial (fun _ _ _ h => h) hM (fun w hC => r_nilCheck hl rfl) rfl ?_
        clear hl a; intro a hl
        refine d_take (i := 15) hl rfl (by kernel_rfl) (by kernel_rfl) (by kernel_rfl) (by kernel_rfl) (by kernel_rfl) rfl trivial (fun _ _ _ h => h) hM (fun w hC => r_field hl rfl fld116_5) rfl ?_
        clear hl a; intro a hl
        refine d_take (i := 16) hl rfl (by kernel_rfl) (by kernel_rfl) (by kernel_rfl) (by kernel_rfl) (by kernel_rfl) rfl trivial (fun _ _ _ h => h) hM (fun w hC => r_field hl rfl fld114_4) rfl ?_
        clear hl a; intro a hl
        refine d_one (i := 17) (by kernel_rfl) rfl ?_
        try clear hM
        refine id (w_store hl hh trivial one37 rfl rfl (by repeat (first | exact find_head | apply find_tail)) (by rw [arrL_length]; omega) (by first | rfl | assumption | (apply Row.one; assumption)) (by exact st_lb _ _) ?_)
        clear hh w; intro w hh
        have hM : Mem [] w := Mem.nil
        refine d_step (fun _ => hM) ?_
        refine d_takeL (i := 18) hl rfl (by kernel_rfl) (by kernel_rfl) (by kernel_rfl) (by kernel_rfl) (by kernel_rfl) rfl trivial (fun _ _ _ h => h) (fun w => r_nilCheck hl rfl) rfl ?_
        clear hl a; intro a hl
        refine d_takeL (i := 19) hl rfl (by kernel_rfl) (by kernel_rfl) (by kernel_rfl) (by kernel_rfl) (by kernel_rfl) rfl trivial (fun _ _ _ h => h) (fun w => r_field hl rfl fld116_5) rfl ?_
        clear hl a; intro a hl
        refine d_takeL (i := 20) hl rfl (by kernel_rfl) (by kernel_rfl) (by kernel_rfl) (by kernel_rfl) (by kernel_rfl) rfl trivial (fun _ _ _ h => h) (fun w => r_field hl rfl fld114_5) rfl ?_
        clear hl a; intro a hl
        refine d_one (i := 21) (by kernel_rfl) rfl ?_
        try clear hM
        refine id (w_store hl hh trivial one37 rfl rfl (by repeat (first | exact find_head | apply find_tail)) (by rw [arrL_length]; omega) (by first | rfl | assumption | (apply Row.one; assumption)) (by exact st_lf _ _) ?_)
        clear hh w; intro w hh
        refine d_step (fun h => absurd h (by decide)) ?_
        refine d_done (by kernel_rfl) ?_
        try clear hM
        have hl2 := hl.nil; clear hl; have hl := hl2; clear hl2
        refine then_normal ?_
        refine c_seq ?_
        refine c_region ?_
        refine wl (wl_val hl rfl trivial (r_assign hl rfl) ?_)
        clear hl a; intro a hl
        refine w_nil ?_
        have hl2 := hl.add (t := 6) (hl.nil) rfl; clear hl; have hl := hl2; clear hl2
        refine then_normal ?_
        refine wp_ret ?_
        refine f_ret1 (F' := [(b, C (arrL 16391 (encM (beginF m k ad))) 116)]) hl hh rfl rfl (by repeat (first | exact keeps_nil | apply keeps_cons (by repeat (first | exact find_head | apply find_tail)) (by first  | rfl) | exact keeps_self | apply keeps_mv)) ?_
        exact ⟨rfl, rfl⟩
      ·
        try clear hM
        refine id (w_load hl hh rfl trivial one37 rfl (by repeat (first | exact find_head | apply find_tail)) (by exact ld_word _ _ (by omega)) ?_)
        clear hl a; intro a hl
        have hM : Mem [] w := Mem.nil
        refine d_step (fun _ => hM) ?_
        refine d_one (i := 7) (by kernel_rfl) rfl ?_
        try clear hM
        refine id (w_load hl hh rfl trivial one37 rfl (by repeat (first | exact find_head | apply find_tail)) (by exact ld_word _ _ (by omega)) ?_)
        clear hl a; intro a hl
        have hM : Mem [] w := Mem.nil
        refine d_step (fun _ => hM) ?_
        refine d_take (i := 14) hl rfl (by kernel_rfl) (by kernel_rfl) (by kernel_rfl) (by kernel_rfl) (by kernel_rfl) rfl trivial (fun _ _ _ h => h) hM (fun w hC => r_nilCheck hl rfl) rfl ?_
        clear hl a; intro a hl
        refine d_take (i := 15) hl rfl (by kernel_rfl) (by kernel_rfl) (by kernel_rfl) (by kernel_rfl) (by kernel_rfl) rfl trivial (fun _ _ _ h => h) hM (fun w hC => r_field hl rfl fld116_5) rfl ?_
        clear hl a; intro a hl
        refine d_take (i := 16) hl rfl (by kernel_rfl) (by kernel_rfl) (by kernel_rfl) (by kernel_rfl) (by kernel_rfl) rfl trivial (fun _ _ _ h => h) hM (fun w hC => r_field hl rfl fld114_4) rfl ?_
        clear hl a; intro a hl
        refine d_one (i := 17) (by kernel_rfl) rfl ?_
        try clear hM
        refine id (w_store hl hh trivial one37 rfl rfl (by repeat (first | exact find_head | apply find_tail)) (by rw [arrL_length]; omega) (by first | rfl | assumption | (apply Row.one; assumption)) (by exact st_lb _ _) ?_)
        clear hh w; intro w hh
        have hM : Mem [] w := Mem.nil
        refine d_step (fun _ => hM) ?_
        refine d_takeL (i := 18) hl rfl (by kernel_rfl) (by kernel_rfl) (by kernel_rfl) (by kernel_rfl) (by kernel_rfl) rfl trivial (fun _ _ _ h => h) (fun w => r_nilCheck hl rfl) rfl ?_
        clear hl a; intro a hl
        refine d_takeL (i := 19) hl rfl (by kernel_rfl) (by kernel_rfl) (by kernel_rfl) (by kernel_rfl) (by kernel_rfl) rfl trivial (fun _ _ _ h => h) (fun w => r_field hl rfl fld116_5) rfl ?_
        clear hl a; intro a hl
        refine d_takeL (i := 20) hl rfl (by kernel_rfl) (by kernel_rfl) (by kernel_rfl) (by kernel_rfl) (by kernel_rfl) rfl trivial (fun _ _ _ h => h) (fun w => r_field hl rfl fld114_5) rfl ?_
        clear hl a; intro a hl
        refine d_one (i := 21) (by kernel_rfl) rfl ?_
        try clear hM
        refine id (w_store hl hh trivial one37 rfl rfl (by repeat (first | exact find_head | apply find_tail)) (by rw [arrL_length]; omega) (by first | rfl | assumption | (apply Row.one; assumption)) (by exact st_lf _ _) ?_)
        clear hh w; intro w hh
        refine d_step (fun h => absurd h (by decide)) ?_
        refine d_done (by kernel_rfl) ?_
        try clear hM
        have hl2 := hl.nil; clear hl; have hl := hl2; clear hl2
        refine then_normal ?_
        refine c_seq ?_
        refine c_region ?_
        refine wl (wl_val hl rfl trivial (r_assign hl rfl) ?_)
        clear hl a; intro a hl
        refine w_nil ?_
        have hl2 := hl.add (t := 6) (hl.nil) rfl; clear hl; have hl := hl2; clear hl2
        refine then_normal ?_
        refine wp_ret ?_
        refine f_ret1 (F' := [(b, C (arrL 16391 (encM (beginF m k ad))) 116)]) hl hh rfl rfl (by repeat (first | exact keeps_nil | apply keeps_cons (by repeat (first | exact find_head | apply find_tail)) (by first  | rfl) | exact keeps_self | apply keeps_mv)) ?_
        exact ⟨rfl, rfl⟩

set_option maxHeartbeats 1000000 in
theorem put_spec (b : Nat) (m : MS) (x : Int) (ad : Nat) (h : ad < 4096) (hla : m.la = ad) : Sp Tryz.prog 82 #[.pointer (some ⟨b, 0, none⟩), .int .u64 x] [(b, C (arrL 16391 (encM m)) 116)] (fun v F' => v = .tuple #[] ∧ F' = [(b, C (arrL 16391 (encM (putF m x ad))) 116)]) := by
  refine f_enter (args := [.pointer (some ⟨b, 0, none⟩), .int .u64 x]) Tryz.func82 rfl Tryz.ntmps82 rfl ?_
  intro w0 w a hpre hl hh
  simp only [slotsFrom, Nat.reduceAdd] at hl
  refine c_seq ?_
  refine c_draw [(b, C (arrL 16391 (encM m)) 116)] [9, 10] mixed hh ?_
  clear hh w; intro w hh
  have hM : Mem [(b, C (arrL 16391 (encM m)) 116)] w := (by repeat (first | exact Mem.nil | refine Mem.cons hh.mem (by repeat (first | exact find_head | apply find_tail)) ?_ | refine Mem.consR hh (by assumption) (by simp) ?_))
  refine d_take (i := 0) hl rfl (by kernel_rfl) (by kernel_rfl) (by kernel_rfl) (by kernel_rfl) (by kernel_rfl) rfl trivial (fun _ _ _ h => h) hM (fun w hC => r_move hl rfl) rfl ?_
  clear hl a; intro a hl
  refine d_take (i := 1) hl rfl (by kernel_rfl) (by kernel_rfl) (by kernel_rfl) (by kernel_rfl) (by kernel_rfl) rfl trivial (fun _ _ _ h => h) hM (fun w hC => r_move hl rfl) rfl ?_
  clear hl a; intro a hl
  refine d_take (i := 2) hl rfl (by kernel_rfl) (by kernel_rfl) (by kernel_rfl) (by kernel_rfl) (by kernel_rfl) rfl trivial (fun _ _ _ h => h) hM (fun w hC => r_nilCheck hl rfl) rfl ?_
  clear hl a; intro a hl
  refine d_take (i := 3) hl rfl (by kernel_rfl) (by kernel_rfl) (by kernel_rfl) (by kernel_rfl) (by kernel_rfl) rfl trivial (fun _ _ _ h => h) hM (fun w hC => r_field hl rfl fld116_5) rfl ?_
  clear hl a; intro a hl
  refine d_take (i := 4) hl rfl (by kernel_rfl) (by kernel_rfl) (by kernel_rfl) (by kernel_rfl) (by kernel_rfl) rfl trivial (fun _ _ _ h => h) hM (fun w hC => r_field hl rfl fld114_1) rfl ?_
  clear hl a; intro a hl
  refine d_take (i := 5) hl rfl (by kernel_rfl) (by kernel_rfl) (by kernel_rfl) (by kernel_rfl) (by kernel_rfl) rfl trivial (fun _ _ _ h => h) hM (fun w hC => r_loadC hl rfl one111 hC (by repeat (first | exact find_head | apply find_tail)) (by exact ld_la _)) rfl ?_
  clear hl a; intro a hl
  try rw [hla] at hl
  refine d_take (i := 6) hl rfl (by kernel_rfl) (by kernel_rfl) (by kernel_rfl) (by kernel_rfl) (by kernel_rfl) rfl trivial (fun _ _ _ h => h) hM (fun w hC => r_move hl rfl) rfl ?_
  clear hl a; intro a hl
  refine d_take (i := 7) hl rfl (by kernel_rfl) (by kernel_rfl) (by kernel_rfl) (by kernel_rfl) (by kernel_rfl) rfl trivial (fun _ _ _ h => h) hM (fun w hC => r_nilCheck hl rfl) rfl ?_
  clear hl a; intro a hl
  refine d_take (i := 8) hl rfl (by kernel_rfl) (by kernel_rfl) (by kernel_rfl) (by kernel_rfl) (by kernel_rfl) rfl trivial (fun _ _ _ h => h) hM (fun w hC => r_field hl rfl fld116_0) rfl ?_
  clear hl a; intro a hl
  refine d_takeL (i := 9) hl rfl (by kernel_rfl) (by kernel_rfl) (by kernel_rfl) (by kernel_rfl) (by kernel_rfl) rfl trivial (fun _ _ _ h => h) (fun w => r_indexA hl rfl rfl arr106 (by omega) (by omega) (by first | (simp only [Int.reduceToNat]; rfl) | exact toNat_add1 _ | exact toNat_add2 _ _ | exact toNat_emod _ _ | exact Int.toNat_natCast _ | rfl)) rfl ?_
  clear hl a; intro a hl
  refine d_one (i := 10) (by kernel_rfl) rfl ?_
  try clear hM
  refine id (w_store hl hh trivial one37 rfl rfl (by repeat (first | exact find_head | apply find_tail)) (by rw [arrL_length]; omega) (by first | rfl | assumption | (apply Row.one; assumption)) (by exact st_word _ _ _ (by omega)) ?_)
  clear hh w; intro w hh
  refine d_step (fun h => absurd h (by decide)) ?_
  refine d_done (by kernel_rfl) ?_
  try clear hM
  have hl2 := hl.add (t := 0) (hl.add (t := 1) (hl.nil) rfl) rfl; clear hl; have hl := hl2; clear hl2
  refine then_normal ?_
  refine c_region ?_
  refine wl (wl_val hl rfl trivial (r_move hl rfl) ?_)
  clear hl a; intro a hl
  refine wl (wl_val hl rfl trivial (r_move hl rfl) ?_)
  clear hl a; intro a hl
  refine wl (wl_val hl rfl trivial (r_move hl rfl) ?_)
  clear hl a; intro a hl
  refine wl (wl_val hl rfl trivial (r_nilCheck hl rfl) ?_)
  clear hl a; intro a hl
  refine wl (wl_val hl rfl trivial (r_field hl rfl fld116_5) ?_)
  clear hl a; intro a hl
  refine wl (wl_val hl rfl trivial (r_field hl rfl fld114_5) ?_)
  clear hl a; intro a hl
  refine wl (w_store hl hh trivial one37 rfl rfl (by repeat (first | exact find_head | apply find_tail)) (by rw [arrL_length]; omega) (by first | rfl | assumption | (apply Row.one; assumption)) (by exact st_lf _ _) ?_)
  clear hh w; intro w hh
  refine wl (wl_val hl rfl trivial (r_nilCheck hl rfl) ?_)
  clear hl a; intro a hl
  refine wl (wl_val hl rfl trivial (r_field hl rfl fld116_5) ?_)
  clear hl a; intro a hl
  refine wl (wl_val hl rfl trivial (r_field hl rfl fld114_3) ?_)
  clear hl a; intro a hl
  refine wl (w_store hl hh trivial one4 rfl rfl (by repeat (first | exact find_head | apply find_tail)) (by rw [arrL_length]; omega) (by first | rfl | assumption | (apply Row.one; assumption)) (by exact st_ld _ _) ?_)
  clear hh w; intro w hh
  refine w_nil ?_
  have hl2 := hl.nil; clear hl; have hl := hl2; clear hl2
  refine f_end0 (F' := [(b, C (arrL 16391 (encM (putF m x ad))) 116)]) hl hh rfl (by repeat (first | exact keeps_nil | apply keeps_cons (by repeat (first | exact find_head | apply find_tail)) (by first  | rfl) | exact keeps_self | apply keeps_mv)) ?_
  exact ⟨rfl, rfl⟩

set_option maxHeartbeats 1000000 in
theorem load_spec (b : Nat) (m : MS) (ad : Nat) (h : 2 ≤ ad ∧ ad < 4096) : Sp Tryz.prog 133 #[.pointer (some ⟨b, 0, none⟩), .int .u32 ad] [(b, C (arrL 16391 (encM m)) 116)] (fun v F' => v = .tuple #[.int .u64 (m.word ad), .int .u8 0] ∧ F' = [(b, C (arrL 16391 (encM (beginF m 1 ad))) 116)]) := by
  refine f_enter (args := [.pointer (some ⟨b, 0, none⟩), .int .u32 ad]) Tryz.func133 rfl Tryz.ntmps133 rfl ?_
  intro w0 w a hpre hl hh
  simp only [slotsFrom, Nat.reduceAdd] at hl
  refine c_seq ?_
  refine c_region ?_
  refine wl (wl_val hl rfl trivial (r_assign hl rfl) ?_)
  clear hl a; intro a hl
  refine wl (wl_val hl rfl trivial (r_assign hl rfl) ?_)
  clear hl a; intro a hl
  refine w_nil ?_
  have hl2 := hl.add (t := 0) (hl.add (t := 1) (hl.nil) rfl) rfl; clear hl; have hl := hl2; clear hl2
  refine then_normal ?_
  refine c_seq ?_
  refine c_seq ?_
  refine c_region ?_
  refine wl (wl_val hl rfl trivial (r_move hl rfl) ?_)
  clear hl a; intro a hl
  refine wl (wl_val hl rfl trivial (r_move hl rfl) ?_)
  clear hl a; intro a hl
  refine wl (w_call hl hh rfl trivial rfl cal81 rfl (begin_spec b m 1 ad h) (by repeat (first | exact keeps_nil | apply keeps_cons (by repeat (first | exact find_head | apply find_tail)) (by first  | rfl) | exact keeps_self | apply keeps_mv)) trivial ?_)
  clear hl hh a w; intro vc Fc a w hR hl hh
  obtain ⟨rfl, rfl⟩ := hR
  try simp only [List.cons_append, List.nil_append] at hh
  refine wl (wl_val hl rfl trivial (r_not hl rfl) ?_)
  clear hl a; intro a hl
  refine w_nil ?_
  have hl2 := hl.add (t := 0) (hl.add (t := 1) (hl.add (t := 9) (hl.nil) rfl) rfl) rfl; clear hl; have hl := hl2; clear hl2
  refine then_normal ?_
  refine c_cond hl rfl ?_ ?_
  · intro hc0
    try simp only [decide_eq_true_eq, decide_eq_false_iff_not, Bool.not_eq_true', Bool.not_eq_false', Bool.not_eq_true, Bool.not_eq_false, Bool.and_eq_true, Bool.or_eq_true, Bool.and_eq_false_iff, Bool.or_eq_false_iff, Bool.not_not, ne_eq, Int.not_lt, Int.not_le, Decidable.not_not, beq_iff_eq, bne_iff_ne] at hc0
    exfalso; simp at hc0
  · intro hc0
    try simp only [decide_eq_true_eq, decide_eq_false_iff_not, Bool.not_eq_true', Bool.not_eq_false', Bool.not_eq_true, Bool.not_eq_false, Bool.and_eq_true, Bool.or_eq_true, Bool.and_eq_false_iff, Bool.or_eq_false_iff, Bool.not_not, ne_eq, Int.not_lt, Int.not_le, Decidable.not_not, beq_iff_eq, bne_iff_ne] at hc0
    refine wp_skip ?_
    refine then_normal ?_
    refine c_seq ?_
    refine c_region ?_
    refine wl (wl_val hl rfl trivial (r_move hl rfl) ?_)
    clear hl a; intro a hl
    refine wl (wl_val hl rfl trivial (r_move hl rfl) ?_)
    clear hl a; intro a hl
    refine wl (wl_val hl rfl trivial (r_nilCheck hl rfl) ?_)
    clear hl a; intro a hl
    refine wl (wl_val hl rfl trivial (r_field hl rfl fld116_0) ?_)
    clear hl a; intro a hl
    refine wl (wl_val hl rfl trivial (r_indexA hl rfl rfl arr106 (by omega) (by omega) (by first | (simp only [Int.reduceToNat]; rfl) | exact toNat_add1 _ | exact toNat_add2 _ _ | exact toNat_emod _ _ | exact Int.toNat_natCast _ | rfl)) ?_)
    clear hl a; intro a hl
    refine wl (w_load hl hh rfl trivial one37 rfl (by repeat (first | exact find_head | apply find_tail)) (by exact ld_word _ _ (by omega)) ?_)
    clear hl a; intro a hl
    refine wl (wl_val hl rfl trivial (r_assign hl rfl) ?_)
    clear hl a; intro a hl
    refine wl (wl_val hl rfl trivial (r_assign hl rfl) ?_)
    clear hl a; intro a hl
    refine w_nil ?_
    have hl2 := hl.add (t := 4) (hl.add (t := 5) (hl.nil) rfl) rfl; clear hl; have hl := hl2; clear hl2
    refine then_normal ?_
    refine wp_ret ?_
    refine f_ret2 (F' := [(b, C (arrL 16391 (encM (beginF m 1 ad))) 116)]) hl hh rfl rfl rfl (by repeat (first | exact keeps_nil | apply keeps_cons (by repeat (first | exact find_head | apply find_tail)) (by first  | rfl) | exact keeps_self | apply keeps_mv)) ?_
    exact ⟨rfl, rfl⟩

set_option maxHeartbeats 1000000 in
theorem store_spec (b : Nat) (m : MS) (ad : Nat) (x : Int) (h : 2 ≤ ad ∧ ad < 4096) : Sp Tryz.prog 55 #[.pointer (some ⟨b, 0, none⟩), .int .u32 ad, .int .u64 x] [(b, C (arrL 16391 (encM m)) 116)] (fun v F' => v = .int .u8 0 ∧ F' = [(b, C (arrL 16391 (encM (putF (beginF m 2 ad) x ad))) 116)]) := by
  refine f_enter (args := [.pointer (some ⟨b, 0, none⟩), .int .u32 ad, .int .u64 x]) Tryz.func55 rfl Tryz.ntmps55 rfl ?_
  intro w0 w a hpre hl hh
  simp only [slotsFrom, Nat.reduceAdd] at hl
  refine c_seq ?_
  refine c_region ?_
  refine wl (wl_val hl rfl trivial (r_assign hl rfl) ?_)
  clear hl a; intro a hl
  refine w_nil ?_
  have hl2 := hl.add (t := 0) (hl.add (t := 1) (hl.add (t := 2) (hl.nil) rfl) rfl) rfl; clear hl; have hl := hl2; clear hl2
  refine then_normal ?_
  refine c_seq ?_
  refine c_seq ?_
  refine c_region ?_
  refine wl (wl_val hl rfl trivial (r_move hl rfl) ?_)
  clear hl a; intro a hl
  refine wl (wl_val hl rfl trivial (r_move hl rfl) ?_)
  clear hl a; intro a hl
  refine wl (w_call hl hh rfl trivial rfl cal81 rfl (begin_spec b m 2 ad h) (by repeat (first | exact keeps_nil | apply keeps_cons (by repeat (first | exact find_head | apply find_tail)) (by first  | rfl) | exact keeps_self | apply keeps_mv)) trivial ?_)
  clear hl hh a w; intro vc Fc a w hR hl hh
  obtain ⟨rfl, rfl⟩ := hR
  try simp only [List.cons_append, List.nil_append] at hh
  refine wl (wl_val hl rfl trivial (r_not hl rfl) ?_)
  clear hl a; intro a hl
  refine w_nil ?_
  have hl2 := hl.add (t := 0) (hl.add (t := 2) (hl.add (t := 10) (hl.nil) rfl) rfl) rfl; clear hl; have hl := hl2; clear hl2
  refine then_normal ?_
  refine c_cond hl rfl ?_ ?_
  · intro hc0
    try simp only [decide_eq_true_eq, decide_eq_false_iff_not, Bool.not_eq_true', Bool.not_eq_false', Bool.not_eq_true, Bool.not_eq_false, Bool.and_eq_true, Bool.or_eq_true, Bool.and_eq_false_iff, Bool.or_eq_false_iff, Bool.not_not, ne_eq, Int.not_lt, Int.not_le, Decidable.not_not, beq_iff_eq, bne_iff_ne] at hc0
    exfalso; simp at hc0
  · intro hc0
    try simp only [decide_eq_true_eq, decide_eq_false_iff_not, Bool.not_eq_true', Bool.not_eq_false', Bool.not_eq_true, Bool.not_eq_false, Bool.and_eq_true, Bool.or_eq_true, Bool.and_eq_false_iff, Bool.or_eq_false_iff, Bool.not_not, ne_eq, Int.not_lt, Int.not_le, Decidable.not_not, beq_iff_eq, bne_iff_ne] at hc0
    refine wp_skip ?_
    refine then_normal ?_
    refine c_seq ?_
    refine c_region ?_
    refine wl (wl_val hl rfl trivial (r_move hl rfl) ?_)
    clear hl a; intro a hl
    refine wl (wl_val hl rfl trivial (r_move hl rfl) ?_)
    clear hl a; intro a hl
    refine wl (w_call hl hh rfl trivial rfl cal82 rfl (put_spec b (beginF m 2 ad) x ad h.2 rfl) (by repeat (first | exact keeps_nil | apply keeps_cons (by repeat (first | exact find_head | apply find_tail)) (by first  | rfl) | exact keeps_self | apply keeps_mv)) trivial ?_)
    clear hl hh a w; intro vc Fc a w hR hl hh
    obtain ⟨rfl, rfl⟩ := hR
    try simp only [List.cons_append, List.nil_append] at hh
    refine w_nil ?_
    have hl2 := hl.nil; clear hl; have hl := hl2; clear hl2
    refine then_normal ?_
    refine c_seq ?_
    refine c_region ?_
    refine wl (wl_val hl rfl trivial (r_assign hl rfl) ?_)
    clear hl a; intro a hl
    refine w_nil ?_
    have hl2 := hl.add (t := 6) (hl.nil) rfl; clear hl; have hl := hl2; clear hl2
    refine then_normal ?_
    refine wp_ret ?_
    refine f_ret1 (F' := [(b, C (arrL 16391 (encM (putF (beginF m 2 ad) x ad))) 116)]) hl hh rfl rfl (by repeat (first | exact keeps_nil | apply keeps_cons (by repeat (first | exact find_head | apply find_tail)) (by first  | rfl) | exact keeps_self | apply keeps_mv)) ?_
    exact ⟨rfl, rfl⟩

def casF (m : MS) (ad : Nat) (x y : Int) : MS := if m.word ad = x then putF (beginF m 3 ad) y ad else beginF m 3 ad

set_option maxHeartbeats 1000000 in
theorem cas_spec (b : Nat) (m : MS) (ad : Nat) (x y : Int) (h : 2 ≤ ad ∧ ad < 4096) : Sp Tryz.prog 137 #[.pointer (some ⟨b, 0, none⟩), .int .u32 ad, .int .u64 x, .int .u64 y] [(b, C (arrL 16391 (encM m)) 116)] (fun v F' => v = .tuple #[.int .u64 (m.word ad), .bool (decide (m.word ad = x)), .int .u8 0] ∧ F' = [(b, C (arrL 16391 (encM (casF m ad x y))) 116)]) := by
  refine f_enter (args := [.pointer (some ⟨b, 0, none⟩), .int .u32 ad, .int .u64 x, .int .u64 y]) Tryz.func137 rfl Tryz.ntmps137 rfl ?_
  intro w0 w a hpre hl hh
  simp only [slotsFrom, Nat.reduceAdd] at hl
  refine c_seq ?_
  refine c_region ?_
  refine wl (wl_val hl rfl trivial (r_assign hl rfl) ?_)
  clear hl a; intro a hl
  refine wl (wl_val hl rfl trivial (r_assign hl rfl) ?_)
  clear hl a; intro a hl
  refine wl (wl_val hl rfl trivial (r_assign hl rfl) ?_)
  clear hl a; intro a hl
  refine w_nil ?_
  have hl2 := hl.add (t := 0) (hl.add (t := 1) (hl.add (t := 2) (hl.add (t := 3) (hl.nil) rfl) rfl) rfl) rfl; clear hl; have hl := hl2; clear hl2
  refine then_normal ?_
  refine c_seq ?_
  refine c_seq ?_
  refine c_region ?_
  refine wl (wl_val hl rfl trivial (r_move hl rfl) ?_)
  clear hl a; intro a hl
  refine wl (wl_val hl rfl trivial (r_move hl rfl) ?_)
  clear hl a; intro a hl
  refine wl (w_call hl hh rfl trivial rfl cal81 rfl (begin_spec b m 3 ad h) (by repeat (first | exact keeps_nil | apply keeps_cons (by repeat (first | exact find_head | apply find_tail)) (by first  | rfl) | exact keeps_self | apply keeps_mv)) trivial ?_)
  clear hl hh a w; intro vc Fc a w hR hl hh
  obtain ⟨rfl, rfl⟩ := hR
  try simp only [List.cons_append, List.nil_append] at hh
  refine wl (wl_val hl rfl trivial (r_not hl rfl) ?_)
  clear hl a; intro a hl
  refine w_nil ?_
  have hl2 := hl.add (t := 0) (hl.add (t := 1) (hl.add (t := 2) (hl.add (t := 3) (hl.add (t := 15) (hl.nil) rfl) rfl) rfl) rfl) rfl; clear hl; have hl := hl2; clear hl2
  refine then_normal ?_
  refine c_cond hl rfl ?_ ?_
  · intro hc0
    try simp only [decide_eq_true_eq, decide_eq_false_iff_not, Bool.not_eq_true', Bool.not_eq_false', Bool.not_eq_true, Bool.not_eq_false, Bool.and_eq_true, Bool.or_eq_true, Bool.and_eq_false_iff, Bool.or_eq_false_iff, Bool.not_not, ne_eq, Int.not_lt, Int.not_le, Decidable.not_not, beq_iff_eq, bne_iff_ne] at hc0
    exfalso; simp at hc0
  · intro hc0
    try simp only [decide_eq_true_eq, decide_eq_false_iff_not, Bool.not_eq_true', Bool.not_eq_false', Bool.not_eq_true, Bool.not_eq_false, Bool.and_eq_true, Bool.or_eq_true, Bool.and_eq_false_iff, Bool.or_eq_false_iff, Bool.not_not, ne_eq, Int.not_lt, Int.not_le, Decidable.not_not, beq_iff_eq, bne_iff_ne] at hc0
    refine wp_skip ?_
    refine then_normal ?_
    refine c_seq ?_
    refine c_region ?_
    refine wl (wl_val hl rfl trivial (r_move hl rfl) ?_)
    clear hl a; intro a hl
    refine wl (wl_val hl rfl trivial (r_move hl rfl) ?_)
    clear hl a; intro a hl
    refine wl (wl_val hl rfl trivial (r_nilCheck hl rfl) ?_)
    clear hl a; intro a hl
    refine wl (wl_val hl rfl trivial (r_field hl rfl fld116_0) ?_)
    clear hl a; intro a hl
    refine wl (wl_val hl rfl trivial (r_indexA hl rfl rfl arr106 (by omega) (by omega) (by first | (simp only [Int.reduceToNat]; rfl) | exact toNat_add1 _ | exact toNat_add2 _ _ | exact toNat_emod _ _ | exact Int.toNat_natCast _ | rfl)) ?_)
    clear hl a; intro a hl
    refine wl (w_load hl hh rfl trivial one37 rfl (by repeat (first | exact find_head | apply find_tail)) (by exact ld_word _ _ (by omega)) ?_)
    clear hl a; intro a hl
    refine wl (wl_val hl rfl trivial (r_assign hl rfl) ?_)
    clear hl a; intro a hl
    refine w_nil ?_
    have hl2 := hl.add (t := 0) (hl.add (t := 2) (hl.add (t := 3) (hl.add (t := 11) (hl.nil) rfl) rfl) rfl) rfl; clear hl; have hl := hl2; clear hl2
    refine then_normal ?_
    refine c_seq ?_
    refine c_seq ?_
    refine c_region ?_
    refine wl (wl_val hl rfl trivial (r_move hl rfl) ?_)
    clear hl a; intro a hl
    refine wl (wl_val hl rfl trivial (r_move hl rfl) ?_)
    clear hl a; intro a hl
    refine wl (wl_val hl rfl trivial (r_eql hl rfl rfl) ?_)
    clear hl a; intro a hl
    refine w_nil ?_
    have hl2 := hl.add (t := 0) (hl.add (t := 2) (hl.add (t := 3) (hl.add (t := 11) (hl.add (t := 24) (hl.nil) rfl) rfl) rfl) rfl) rfl; clear hl; have hl := hl2; clear hl2
    refine then_normal ?_
    refine c_cond hl rfl ?_ ?_
    · intro hc1
      try simp only [decide_eq_true_eq, decide_eq_false_iff_not, Bool.not_eq_true', Bool.not_eq_false', Bool.not_eq_true, Bool.not_eq_false, Bool.and_eq_true, Bool.or_eq_true, Bool.and_eq_false_iff, Bool.or_eq_false_iff, Bool.not_not, ne_eq, Int.not_lt, Int.not_le, Decidable.not_not, beq_iff_eq, bne_iff_ne] at hc1
      have hcs : casF m ad x y = putF (beginF m 3 ad) y ad := if_pos hc1
      refine c_region ?_
      refine wl (wl_val hl rfl trivial (r_move hl rfl) ?_)
      clear hl a; intro a hl
      refine wl (wl_val hl rfl trivial (r_move hl rfl) ?_)
      clear hl a; intro a hl
      refine wl (w_call hl hh rfl trivial rfl cal82 rfl (put_spec b (beginF m 3 ad) y ad h.2 rfl) (by repeat (first | exact keeps_nil | apply keeps_cons (by repeat (first | exact find_head | apply find_tail)) (by first  | rfl) | exact keeps_self | apply keeps_mv)) trivial ?_)
      clear hl hh a w; intro vc Fc a w hR hl hh
      obtain ⟨rfl, rfl⟩ := hR
      try simp only [List.cons_append, List.nil_append] at hh
      refine w_nil ?_
      have hl2 := hl.add (t := 2) (hl.add (t := 11) (hl.nil) rfl) rfl; clear hl; have hl := hl2; clear hl2
      refine then_normal ?_
      refine c_seq ?_
      refine c_region ?_
      refine wl (wl_val hl rfl trivial (r_move hl rfl) ?_)
      clear hl a; intro a hl
      refine wl (wl_val hl rfl trivial (r_move hl rfl) ?_)
      clear hl a; intro a hl
      refine wl (wl_val hl rfl trivial (r_move hl rfl) ?_)
      clear hl a; intro a hl
      refine wl (wl_val hl rfl trivial (r_eql hl rfl rfl) ?_)
      clear hl a; intro a hl
      refine wl (wl_val hl rfl trivial (r_assign hl rfl) ?_)
      clear hl a; intro a hl
      refine wl (wl_val hl rfl trivial (r_assign hl rfl) ?_)
      clear hl a; intro a hl
      refine wl (wl_val hl rfl trivial (r_assign hl rfl) ?_)
      clear hl a; intro a hl
      refine w_nil ?_
      have hl2 := hl.add (t := 8) (hl.add (t := 9) (hl.add (t := 10) (hl.nil) rfl) rfl) rfl; clear hl; have hl := hl2; clear hl2
      refine then_normal ?_
      refine wp_ret ?_
      refine f_ret3 (F' := [(b, C (arrL 16391 (encM (casF m ad x y))) 116)]) hl hh rfl rfl rfl rfl (by repeat (first | exact keeps_nil | apply keeps_cons (by repeat (first | exact find_head | apply find_tail)) (by first  | rw [hcs] | rfl) | exact keeps_self | apply keeps_mv)) ?_
      exact ⟨rfl, rfl⟩
    · intro hc1
      try simp only [decide_eq_true_eq, decide_eq_false_iff_not, Bool.not_eq_true', Bool.not_eq_false', Bool.not_eq_true, Bool.not_eq_false, Bool.and_eq_true, Bool.or_eq_true, Bool.and_eq_false_iff, Bool.or_eq_false_iff, Bool.not_not, ne_eq, Int.not_lt, Int.not_le, Decidable.not_not, beq_iff_eq, bne_iff_ne] at hc1
      have hcs : casF m ad x y = beginF m 3 ad := if_neg hc1
      refine wp_skip ?_
      refine then_normal ?_
      refine c_seq ?_
      refine c_region ?_
      refine wl (wl_val hl rfl trivial (r_move hl rfl) ?_)
      clear hl a; intro a hl
      refine wl (wl_val hl rfl trivial (r_move hl rfl) ?_)
      clear hl a; intro a hl
      refine wl (wl_val hl rfl trivial (r_move hl rfl) ?_)
      clear hl a; intro a hl
      refine wl (wl_val hl rfl trivial (r_eql hl rfl rfl) ?_)
      clear hl a; intro a hl
      refine wl (wl_val hl rfl trivial (r_assign hl rfl) ?_)
      clear hl a; intro a hl
      refine wl (wl_val hl rfl trivial (r_assign hl rfl) ?_)
      clear hl a; intro a hl
      refine wl (wl_val hl rfl trivial (r_assign hl rfl) ?_)
      clear hl a; intro a hl
      refine w_nil ?_
      have hl2 := hl.add (t := 8) (hl.add (t := 9) (hl.add (t := 10) (hl.nil) rfl) rfl) rfl; clear hl; have hl := hl2; clear hl2
      refine then_normal ?_
      refine wp_ret ?_
      refine f_ret3 (F' := [(b, C (arrL 16391 (encM (casF m ad x y))) 116)]) hl hh rfl rfl rfl rfl (by repeat (first | exact keeps_nil | apply keeps_cons (by repeat (first | exact find_head | apply find_tail)) (by first  | rw [hcs] | rfl) | exact keeps_self | apply keeps_mv)) ?_
      exact ⟨rfl, rfl⟩
end Go.Proofs.Qxb6500914aGreat

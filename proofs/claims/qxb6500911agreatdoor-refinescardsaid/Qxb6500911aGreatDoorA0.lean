import Derived.Test.Qxb6500911aGreatDoorRows
import Derived.Test.Qxb6500911aGreatDoorStr
import Derived.Test.Qxb6500911aGreatDoorFun
import Derived.Test.Qxb6500911aGreatDoorCpy
import Derived.Test.Qxb6500911aGreatDoorMks
import Derived.Test.Qxb6500911aGreatDoorUmd
import Derived.KernelRfl
namespace Go.Proofs.Qxb6500911aGreatDoor
open Go.Eng
set_option linter.unusedVariables false
set_option linter.unusedSimpArgs false
theorem cal32 : callable Tryz.prog 32 = true := by kernel_rfl
/-! ## tasks, sets of tasks -/
theorem wrap16 (n : Nat) (h : n < 65536) : IntKind.u16.wrap (n : Int) = (n : Int) := wrap_fits (by simp only [Fits]; omega)
/-- a set of tasks as a value -/
abbrev mi (m : BitVec 16) : Int := (m.toNat : Int)
theorem mi_rng (m : BitVec 16) : 0 ≤ mi m ∧ mi m ≤ 65535 := by have := m.isLt; unfold mi; omega
theorem mi_of {z : Int} (h : 0 ≤ z ∧ z ≤ 65535) : ∃ m : BitVec 16, z = mi m := ⟨BitVec.ofNat 16 z.toNat, by unfold mi; rw [BitVec.toNat_ofNat]; omega⟩
theorem ofInt_mi (m : BitVec 16) : BitVec.ofInt 16 (mi m) = m := by
  apply BitVec.eq_of_toNat_eq
  rw [BitVec.toNat_ofInt]; have := m.isLt; unfold mi; omega
theorem and_mi (a b : BitVec 16) : bitsOf .and .u16 (mi a) (mi b) = mi (a &&& b) := by
  show IntKind.u16.wrap ((BitVec.ofInt 16 (mi a) &&& BitVec.ofInt 16 (mi b)).toNat : Int) = _
  rw [ofInt_mi, ofInt_mi]; exact wrap16 _ (BitVec.isLt _)
theorem or_mi (a b : BitVec 16) : bitsOf .or .u16 (mi a) (mi b) = mi (a ||| b) := by
  show IntKind.u16.wrap ((BitVec.ofInt 16 (mi a) ||| BitVec.ofInt 16 (mi b)).toNat : Int) = _
  rw [ofInt_mi, ofInt_mi]; exact wrap16 _ (BitVec.isLt _)
theorem andNot_mi (a b : BitVec 16) : bitsOf .andNot .u16 (mi a) (mi b) = mi (a &&& ~~~ b) := by
  show IntKind.u16.wrap ((BitVec.ofInt 16 (mi a) &&& ~~~ BitVec.ofInt 16 (mi b)).toNat : Int) = _
  rw [ofInt_mi, ofInt_mi]; exact wrap16 _ (BitVec.isLt _)
theorem mi_eq (a b : BitVec 16) : (mi a = mi b) ↔ a = b := ⟨fun h => BitVec.eq_of_toNat_eq (by unfold mi at h; omega), fun h => by rw [h]⟩
theorem mi_zero (a : BitVec 16) : (mi a = 0) ↔ a = 0#16 := by rw [← mi_eq]; rfl
/-- the set of one task -/
def bitB (t : Nat) : BitVec 16 := BitVec.twoPow 16 t
theorem shl_mi (t : Nat) (h : t < 16) : IntKind.u16.wrap (1 * 2 ^ (min (t : Int).toNat IntKind.u16.bits)) = mi (bitB t) := by
  have : ∀ t : Fin 16, IntKind.u16.wrap (1 * 2 ^ (min ((t : Nat) : Int).toNat IntKind.u16.bits)) = mi (bitB t) := by decide
  exact this ⟨t, h⟩
theorem has_mi (m : BitVec 16) (t : Nat) (h : t < 16) : decide (mi (m &&& bitB t) ≠ 0) = m.getLsbD t := by
  have e : (m &&& bitB t = 0#16) ↔ m.getLsbD t = false := by
    constructor
    · intro hz
      have h1 := congrArg (fun z => z.getLsbD t) hz
      simpa [bitB, BitVec.getLsbD_twoPow, h] using h1
    · intro hz
      apply BitVec.eq_of_getLsbD_eq
      intro i hi
      simp only [BitVec.getLsbD_and, bitB, BitVec.getLsbD_twoPow, BitVec.getLsbD_zero]
      by_cases c : t = i
      · subst c; simp [hz]
      · simp [c]
  cases hb : m.getLsbD t
  · exact decide_eq_false fun hn => hn ((mi_zero _).2 (e.2 hb))
  · exact decide_eq_true fun hz => by rw [e.1 ((mi_zero _).1 hz)] at hb; cases hb
def tasksB (m : BitVec 16) : List Nat := (List.range 16).filter (fun t => m.getLsbD t)
/-- the lowest task of a set -/
theorem low_ex {m : BitVec 16} (h : m ≠ 0#16) : ∃ b, b < 16 ∧ m.getLsbD b = true ∧ ∀ j, j < b → m.getLsbD j = false := by
  have hex : ∃ b, m.getLsbD b = true := by
    apply Classical.byContradiction
    intro hn
    apply h
    apply BitVec.eq_of_getLsbD_eq
    intro i _
    rw [BitVec.getLsbD_zero]
    cases hb : m.getLsbD i
    · rfl
    · exact absurd ⟨i, hb⟩ hn
  let p : Nat → Prop := fun b => m.getLsbD b = true
  have hw : ∃ b, p b ∧ ∀ j, j < b → ¬ p j := by
    obtain ⟨b0, hb0⟩ := hex
    induction b0 using Nat.strongRecOn with
    | ind n ih =>
      by_cases hc : ∃ j, j < n ∧ p j
      · obtain ⟨j, hj, hp⟩ := hc; exact ih j hj hp
      · exact ⟨n, hb0, fun j hj hp => hc ⟨j, hj, hp⟩⟩
  obtain ⟨b, h1, h2⟩ := hw
  refine ⟨b, ?_, h1, fun j hj => ?_⟩
  · apply Classical.byContradiction
    intro hge
    have : m.getLsbD b = false := BitVec.getLsbD_of_ge m b (by omega)
    exact Bool.noConfusion (this.symm.trans h1)
  · cases hb : m.getLsbD j
    · rfl
    · exact absurd hb (h2 j hj)
theorem low_split {m : BitVec 16} {b : Nat} (hb : b < 16) (h1 : m.getLsbD b = true) (h2 : ∀ j, j < b → m.getLsbD j = false) : ∃ k, m.toNat = 2 ^ b * (2 * k + 1) := by
  have ht : ∀ j, j < b → m.toNat.testBit j = false := fun j hj => by have := h2 j hj; rwa [BitVec.getLsbD] at this
  have h3 : m.toNat % 2 ^ b = 0 := by
    apply Nat.eq_of_testBit_eq
    intro i
    rw [Nat.testBit_mod_two_pow, Nat.zero_testBit]
    by_cases hi : i < b
    · simp [hi, ht i hi]
    · simp [hi]
  have h4 : m.toNat / 2 ^ b % 2 = 1 := by
    have := h1
    rw [BitVec.getLsbD, Nat.testBit_eq_decide_div_mod_eq] at this
    simpa using this
  refine ⟨m.toNat / 2 ^ b / 2, ?_⟩
  have h5 := Nat.div_add_mod (m.toNat / 2 ^ b) 2
  have h6 := Nat.div_add_mod m.toNat (2 ^ b)
  rw [h4] at h5
  rw [h5]
  omega
theorem bits_low {m : BitVec 16} {b : Nat} (hb : b < 16) (h1 : m.getLsbD b = true) (h2 : ∀ j, j < b → m.getLsbD j = false) (j : Nat) (hj : j < 16) : (m - 1#16).getLsbD j = if j < b then true else if j = b then false else m.getLsbD j := by
  obtain ⟨k, hk⟩ := low_split hb h1 h2
  have hp : 0 < 2 ^ b := Nat.pow_pos (by decide)
  have hm := m.isLt
  have hs : (m - 1#16).toNat = 2 ^ b * (2 * k) + (2 ^ b - 1) := by
    have e : 2 ^ b * (2 * k + 1) = 2 ^ b * (2 * k) + 2 ^ b := by rw [Nat.mul_add, Nat.mul_one]
    rw [BitVec.toNat_sub]
    have e1 : (1#16).toNat = 1 := rfl
    rw [e1, hk, e]
    have : 2 ^ b * (2 * k) + 2 ^ b < 65536 := by rw [← e, ← hk]; exact hm
    omega
  rw [BitVec.getLsbD, hs, Nat.testBit_eq_decide_div_mod_eq]
  rcases Nat.lt_trichotomy j b with h | h | h
  · rw [if_pos h]
    have e2 : 2 ^ b = 2 ^ j * (2 * 2 ^ (b - j - 1)) := by rw [← Nat.pow_succ', ← Nat.pow_add]; congr 1; omega
    have hq : 0 < 2 ^ j := Nat.pow_pos (by decide)
    have hr : 0 < 2 ^ (b - j - 1) := Nat.pow_pos (by decide)
    have e3 : 2 ^ b * (2 * k) + (2 ^ b - 1) = 2 ^ j * (2 * (2 ^ (b - j - 1) * (2 * k)) + 2 * 2 ^ (b - j - 1) - 1) + (2 ^ j - 1) := by
      rw [e2]
      generalize 2 ^ (b - j - 1) = r at hr
      generalize 2 ^ j = q at hq
      have : q * (2 * (r * (2 * k)) + 2 * r - 1) = q * (2 * (r * (2 * k)) + 2 * r) - q := by rw [Nat.mul_sub, Nat.mul_one]
      rw [this, Nat.mul_add]
      have e4 : q * (2 * r) * (2 * k) = q * (2 * (r * (2 * k))) := by simp only [Nat.mul_assoc]
      rw [e4]
      have : q ≤ q * (2 * r) := Nat.le_mul_of_pos_right q (by omega)
      omega
    rw [e3, Nat.mul_add_div hq, Nat.div_eq_of_lt (by omega : 2 ^ j - 1 < 2 ^ j)]
    simp only [Nat.add_zero, decide_eq_true_eq]
    generalize 2 ^ (b - j - 1) * (2 * k) = z
    omega
  · subst h
    rw [if_neg (Nat.lt_irrefl _), if_pos rfl, Nat.mul_add_div hp, Nat.div_eq_of_lt (by omega : 2 ^ j - 1 < 2 ^ j)]
    simp
  · rw [if_neg (by omega), if_neg (by omega)]
    rw [BitVec.getLsbD, Nat.testBit_eq_decide_div_mod_eq, hk]
    have e2 : 2 ^ j = 2 ^ b * 2 ^ (j - b) := by rw [← Nat.pow_add]; congr 1; omega
    have e5 : 2 ^ (j - b) = 2 * 2 ^ (j - b - 1) := by rw [← Nat.pow_succ']; congr 1; omega
    rw [e2, ← Nat.div_div_eq_div_mul, ← Nat.div_div_eq_div_mul, Nat.mul_add_div hp, Nat.div_eq_of_lt (by omega : 2 ^ b - 1 < 2 ^ b), Nat.mul_div_cancel_left _ hp, e5, ← Nat.div_div_eq_div_mul, ← Nat.div_div_eq_div_mul]
    rw [Nat.add_zero, show 2 * k / 2 = k by omega, show (2 * k + 1) / 2 = k by omega]
theorem clear_low {m : BitVec 16} {b : Nat} (hb : b < 16) (h1 : m.getLsbD b = true) (h2 : ∀ j, j < b → m.getLsbD j = false) : m &&& (m - 1#16) = m &&& ~~~ bitB b := by
  apply BitVec.eq_of_getLsbD_eq
  intro i hi
  rw [BitVec.getLsbD_and, bits_low hb h1 h2 i hi, BitVec.getLsbD_and, BitVec.getLsbD_not, bitB, BitVec.getLsbD_twoPow]
  rcases Nat.lt_trichotomy i b with h | h | h
  · rw [h2 i h]; simp
  · subst h; simp [hi]
  · rw [if_neg (by omega), if_neg (by omega)]
    simp [hi, show ¬ b = i by omega]
theorem neg_low {m : BitVec 16} {b : Nat} (hb : b < 16) (h1 : m.getLsbD b = true) (h2 : ∀ j, j < b → m.getLsbD j = false) : m &&& -m = bitB b := by
  have e : -m = ~~~ (m - 1#16) := by
    rw [BitVec.neg_eq_not_add, BitVec.not_sub_one_eq_not_add_one]
  apply BitVec.eq_of_getLsbD_eq
  intro i hi
  rw [e, BitVec.getLsbD_and, BitVec.getLsbD_not, bits_low hb h1 h2 i hi, bitB, BitVec.getLsbD_twoPow]
  rcases Nat.lt_trichotomy i b with h | h | h
  · rw [h2 i h]; simp; omega
  · subst h; simp [hi, h1]
  · rw [if_neg (by omega), if_neg (by omega)]
    cases m.getLsbD i <;> simp <;> omega
theorem tasks_cons {m : BitVec 16} {b : Nat} (hb : b < 16) (h1 : m.getLsbD b = true) (h2 : ∀ j, j < b → m.getLsbD j = false) : tasksB m = b :: tasksB (m &&& ~~~ bitB b) := by
  unfold tasksB
  have hs : List.range 16 = List.range b ++ b :: (List.range' (b + 1) (15 - b)) := by
    have : ∀ b : Fin 16, List.range 16 = List.range b ++ (b : Nat) :: (List.range' (b + 1) (15 - b)) := by decide
    exact this ⟨b, hb⟩
  rw [hs, List.filter_append, List.filter_append, List.filter_cons, List.filter_cons]
  have e1 : (List.range b).filter (fun t => m.getLsbD t) = [] := by
    rw [List.filter_eq_nil_iff]; intro t ht; rw [List.mem_range] at ht; rw [h2 t ht]; simp
  have e2 : (List.range b).filter (fun t => (m &&& ~~~ bitB b).getLsbD t) = [] := by
    rw [List.filter_eq_nil_iff]; intro t ht; rw [List.mem_range] at ht; rw [BitVec.getLsbD_and, h2 t ht]; simp
  rw [e1, e2, if_pos h1, if_neg (by rw [BitVec.getLsbD_and, BitVec.getLsbD_not, bitB, BitVec.getLsbD_twoPow]; simp [hb])]
  simp only [List.nil_append]
  congr 1
  apply List.filter_congr
  intro t ht
  rw [List.mem_range'_1] at ht
  rw [BitVec.getLsbD_and, BitVec.getLsbD_not, bitB, BitVec.getLsbD_twoPow]
  simp [show t < 16 by omega, show ¬ b = t by omega]


set_option maxHeartbeats 1000000 in
theorem bit_spec (t : Nat) (h : t < 16) : Sp Tryz.prog 32 #[.int .i64 (t : Int)] [] (fun v F' => v = .int .u16 (mi (bitB t)) ∧ F' = []) := by
  refine f_enter (args := [.int .i64 (t : Int)]) Tryz.func32 rfl Tryz.ntmps32 rfl ?_
  intro w0 w a hpre hl hh
  simp only [slotsFrom, Nat.reduceAdd] at hl
  refine c_seq ?_
  refine c_region ?_
  refine wl (wl_val hl rfl trivial (r_assign hl rfl) ?_)
  clear hl a; intro a hl
  refine w_nil ?_
  have hl2 := hl.add (t := 0) (hl.nil) rfl; clear hl; have hl := hl2; clear hl2
  refine then_normal ?_
  refine c_seq ?_
  refine c_region ?_
  refine wl (wl_val hl rfl trivial (r_move hl rfl) ?_)
  clear hl a; intro a hl
  first | refine wl (wl_val hl rfl trivial (r_conv hl rfl Tryz.underlying57 Tryz.underlying136 (by simp only [Fits]; omega)) ?_) | refine wl (wl_val hl rfl trivial (r_convM wm_u64 hl rfl Tryz.underlying57 Tryz.underlying136) ?_)
  clear hl a; intro a hl
  refine wl (wl_val hl rfl trivial (r_shl hl rfl rfl (by omega)) ?_)
  clear hl a; intro a hl
  rw [shl_mi t h] at hl
  refine wl (wl_val hl rfl trivial (r_assign hl rfl) ?_)
  clear hl a; intro a hl
  refine w_nil ?_
  have hl2 := hl.add (t := 2) (hl.nil) rfl; clear hl; have hl := hl2; clear hl2
  refine then_normal ?_
  refine wp_ret ?_
  refine f_ret1 (F' := []) hl hh rfl rfl (by repeat (first | exact keeps_nil | apply keeps_cons (by repeat (first | exact find_head | apply find_tail)) (by first  | rfl) | exact keeps_self | apply keeps_mv)) ?_
  exact ⟨rfl, rfl⟩

set_option maxHeartbeats 1000000 in
theorem has_spec (m : BitVec 16) (t : Nat) (h : t < 16) : Sp Tryz.prog 30 #[.int .u16 (mi m), .int .i64 (t : Int)] [] (fun v F' => v = .bool (m.getLsbD t) ∧ F' = []) := by
  refine f_enter (args := [.int .u16 (mi m), .int .i64 (t : Int)]) Tryz.func30 rfl Tryz.ntmps30 rfl ?_
  intro w0 w a hpre hl hh
  simp only [slotsFrom, Nat.reduceAdd] at hl
  refine c_seq ?_
  refine c_region ?_
  refine wl (wl_val hl rfl trivial (r_assign hl rfl) ?_)
  clear hl a; intro a hl
  refine w_nil ?_
  have hl2 := hl.add (t := 0) (hl.add (t := 1) (hl.nil) rfl) rfl; clear hl; have hl := hl2; clear hl2
  refine then_normal ?_
  refine c_seq ?_
  refine c_region ?_
  refine wl (wl_val hl rfl trivial (r_move hl rfl) ?_)
  clear hl a; intro a hl
  refine wl (wl_val hl rfl trivial (r_move hl rfl) ?_)
  clear hl a; intro a hl
  refine wl (w_call hl hh rfl trivial rfl cal32 rfl (bit_spec _ (by omega)) (by repeat (first | exact keeps_nil | apply keeps_cons (by repeat (first | exact find_head | apply find_tail)) (by first  | rfl) | exact keeps_self | apply keeps_mv)) trivial ?_)
  clear hl hh a w; intro vc Fc a w hR hl hh
  obtain ⟨rfl, rfl⟩ := hR
  try simp only [List.cons_append, List.nil_append] at hh
  refine wl (wl_val hl rfl trivial (r_and hl rfl rfl) ?_)
  clear hl a; intro a hl
  rw [and_mi] at hl
  refine wl (wl_val hl rfl trivial (r_neq hl rfl rfl) ?_)
  clear hl a; intro a hl
  refine wl (wl_val hl rfl trivial (r_assign hl rfl) ?_)
  clear hl a; intro a hl
  refine w_nil ?_
  have hl2 := hl.add (t := 4) (hl.nil) rfl; clear hl; have hl := hl2; clear hl2
  refine then_normal ?_
  refine wp_ret ?_
  refine f_ret1 (F' := []) hl hh rfl rfl (by repeat (first | exact keeps_nil | apply keeps_cons (by repeat (first | exact find_head | apply find_tail)) (by first  | rfl) | exact keeps_self | apply keeps_mv)) ?_
  exact ⟨congrArg Value.bool (has_mi m t h), rfl⟩

set_option maxHeartbeats 1000000 in
theorem home_spec (t : Nat) (h : t < 16) : Sp Tryz.prog 25 #[.int .i64 (t : Int)] [] (fun v F' => v = .int .i64 ((t % 4 : Nat) : Int) ∧ F' = []) := by
  refine f_enter (args := [.int .i64 (t : Int)]) Tryz.func25 rfl Tryz.ntmps25 rfl ?_
  intro w0 w a hpre hl hh
  simp only [slotsFrom, Nat.reduceAdd] at hl
  refine c_seq ?_
  refine c_region ?_
  refine wl (wl_val hl rfl trivial (r_assign hl rfl) ?_)
  clear hl a; intro a hl
  refine w_nil ?_
  have hl2 := hl.add (t := 0) (hl.nil) rfl; clear hl; have hl := hl2; clear hl2
  refine then_normal ?_
  refine c_seq ?_
  refine c_region ?_
  refine wl (wl_val hl rfl trivial (r_move hl rfl) ?_)
  clear hl a; intro a hl
  first | refine wl (wl_val hl rfl trivial (r_rem hl rfl rfl (by omega) (by omega)) ?_) | refine wl (wl_val hl rfl trivial (r_remT hl rfl rfl (by omega)) ?_)
  clear hl a; intro a hl
  refine wl (wl_val hl rfl trivial (r_assign hl rfl) ?_)
  clear hl a; intro a hl
  refine w_nil ?_
  have hl2 := hl.add (t := 2) (hl.nil) rfl; clear hl; have hl := hl2; clear hl2
  refine then_normal ?_
  refine wp_ret ?_
  refine f_ret1 (F' := []) hl hh rfl rfl (by repeat (first | exact keeps_nil | apply keeps_cons (by repeat (first | exact find_head | apply find_tail)) (by first  | rfl) | exact keeps_self | apply keeps_mv)) ?_
  exact ⟨congrArg (Value.int .i64) (by omega), rfl⟩

set_option maxHeartbeats 1000000 in
theorem box_spec (f t : Nat) (h : f < 4) (h2 : t < 4) : Sp Tryz.prog 77 #[.int .i64 (f : Int), .int .i64 (t : Int)] [] (fun v F' => v = .int .i64 ((f * 4 + t : Nat) : Int) ∧ F' = []) := by
  refine f_enter (args := [.int .i64 (f : Int), .int .i64 (t : Int)]) Tryz.func77 rfl Tryz.ntmps77 rfl ?_
  intro w0 w a hpre hl hh
  simp only [slotsFrom, Nat.reduceAdd] at hl
  refine c_seq ?_
  refine c_region ?_
  refine wl (wl_val hl rfl trivial (r_assign hl rfl) ?_)
  clear hl a; intro a hl
  refine w_nil ?_
  have hl2 := hl.add (t := 0) (hl.add (t := 1) (hl.nil) rfl) rfl; clear hl; have hl := hl2; clear hl2
  refine then_normal ?_
  refine c_seq ?_
  refine c_region ?_
  refine wl (wl_val hl rfl trivial (r_move hl rfl) ?_)
  clear hl a; intro a hl
  first | refine wl (wl_val hl rfl trivial (r_mul hl rfl rfl (by simp only [Fits]; omega)) ?_) | refine wl (wl_val hl rfl trivial (r_mulW hl rfl rfl) ?_)
  clear hl a; intro a hl
  refine wl (wl_val hl rfl trivial (r_move hl rfl) ?_)
  clear hl a; intro a hl
  first | refine wl (wl_val hl rfl trivial (r_add hl rfl rfl (by simp only [Fits]; omega)) ?_) | refine wl (wl_val hl rfl trivial (r_addW hl rfl rfl) ?_)
  clear hl a; intro a hl
  refine wl (wl_val hl rfl trivial (r_assign hl rfl) ?_)
  clear hl a; intro a hl
  refine w_nil ?_
  have hl2 := hl.add (t := 4) (hl.nil) rfl; clear hl; have hl := hl2; clear hl2
  refine then_normal ?_
  refine wp_ret ?_
  refine f_ret1 (F' := []) hl hh rfl rfl (by repeat (first | exact keeps_nil | apply keeps_cons (by repeat (first | exact find_head | apply find_tail)) (by first  | rfl) | exact keeps_self | apply keeps_mv)) ?_
  exact ⟨congrArg (Value.int .i64) (by omega), rfl⟩

set_option maxHeartbeats 1000000 in
theorem validTask_spec (z : Int) : Sp Tryz.prog 38 #[.int .i64 z] [] (fun v F' => v = .bool (decide (0 ≤ z ∧ z < 16)) ∧ F' = []) := by
  refine f_enter (args := [.int .i64 z]) Tryz.func38 rfl Tryz.ntmps38 rfl ?_
  intro w0 w a hpre hl hh
  simp only [slotsFrom, Nat.reduceAdd] at hl
  refine c_seq ?_
  refine c_region ?_
  refine wl (wl_val hl rfl trivial (r_assign hl rfl) ?_)
  clear hl a; intro a hl
  refine w_nil ?_
  have hl2 := hl.add (t := 0) (hl.nil) rfl; clear hl; have hl := hl2; clear hl2
  refine then_normal ?_
  refine c_seq ?_
  refine c_region ?_
  refine wl (wl_val hl rfl trivial (r_move hl rfl) ?_)
  clear hl a; intro a hl
  refine wl (wl_val hl rfl trivial (r_geq hl rfl rfl) ?_)
  clear hl a; intro a hl
  refine wl (wl_val hl rfl trivial (r_move hl rfl) ?_)
  clear hl a; intro a hl
  refine sl_split (t := 5) hl rfl ?_ ?_
  · intro hg1; clear hl; intro hl
    try simp only [decide_eq_true_eq, decide_eq_false_iff_not, Bool.not_eq_true', Bool.not_eq_false', Bool.not_eq_true, Bool.not_eq_false, Bool.and_eq_true, Bool.or_eq_true, Bool.and_eq_false_iff, Bool.or_eq_false_iff, Bool.not_not, ne_eq, Int.not_lt, Int.not_le, Decidable.not_not, beq_iff_eq, bne_iff_ne] at hg1
    refine wl (wl_val hl rfl ⟨_, _, rfl, rfl, rfl⟩ (r_move hl rfl) ?_)
    clear hl a; intro a hl
    refine wl (wl_val hl rfl ⟨_, _, rfl, rfl, rfl⟩ (r_lss hl rfl rfl) ?_)
    clear hl a; intro a hl
    refine wl (wl_val hl rfl trivial (r_pickT hl rfl rfl) ?_)
    clear hl a; intro a hl
    refine wl (wl_val hl rfl trivial (r_assign hl rfl) ?_)
    clear hl a; intro a hl
    refine w_nil ?_
    have hl2 := hl.add (t := 2) (hl.nil) rfl; clear hl; have hl := hl2; clear hl2
    refine then_normal ?_
    refine wp_ret ?_
    refine f_ret1 (F' := []) hl hh rfl rfl (by repeat (first | exact keeps_nil | apply keeps_cons (by repeat (first | exact find_head | apply find_tail)) (by first  | rfl) | exact keeps_self | apply keeps_mv)) ?_
    exact ⟨congrArg Value.bool (by first | (rw [decide_eq_decide]; omega) | (symm; rw [decide_eq_false_iff_not]; omega) | (symm; rw [decide_eq_true_eq]; omega)), rfl⟩
  · intro hg1; clear hl; intro hl
    try simp only [decide_eq_true_eq, decide_eq_false_iff_not, Bool.not_eq_true', Bool.not_eq_false', Bool.not_eq_true, Bool.not_eq_false, Bool.and_eq_true, Bool.or_eq_true, Bool.and_eq_false_iff, Bool.or_eq_false_iff, Bool.not_not, ne_eq, Int.not_lt, Int.not_le, Decidable.not_not, beq_iff_eq, bne_iff_ne] at hg1
    refine wl (wl_skip hl rfl ⟨_, _, rfl, rfl, rfl⟩ ?_)
    clear hl a; intro a hl
    refine wl (wl_skip hl rfl ⟨_, _, rfl, rfl, rfl⟩ ?_)
    clear hl a; intro a hl
    refine wl (wl_val hl rfl trivial (r_pickF hl rfl rfl) ?_)
    clear hl a; intro a hl
    refine wl (wl_val hl rfl trivial (r_assign hl rfl) ?_)
    clear hl a; intro a hl
    refine w_nil ?_
    have hl2 := hl.add (t := 2) (hl.nil) rfl; clear hl; have hl := hl2; clear hl2
    refine then_normal ?_
    refine wp_ret ?_
    refine f_ret1 (F' := []) hl hh rfl rfl (by repeat (first | exact keeps_nil | apply keeps_cons (by repeat (first | exact find_head | apply find_tail)) (by first  | rfl) | exact keeps_self | apply keeps_mv)) ?_
    exact ⟨congrArg Value.bool (by first | (rw [decide_eq_decide]; omega) | (symm; rw [decide_eq_false_iff_not]; omega) | (symm; rw [decide_eq_true_eq]; omega)), rfl⟩

set_option maxHeartbeats 1000000 in
theorem validCore_spec (z : Int) : Sp Tryz.prog 57 #[.int .i64 z] [] (fun v F' => v = .bool (decide (0 ≤ z ∧ z < 4)) ∧ F' = []) := by
  refine f_enter (args := [.int .i64 z]) Tryz.func57 rfl Tryz.ntmps57 rfl ?_
  intro w0 w a hpre hl hh
  simp only [slotsFrom, Nat.reduceAdd] at hl
  refine c_seq ?_
  refine c_region ?_
  refine wl (wl_val hl rfl trivial (r_assign hl rfl) ?_)
  clear hl a; intro a hl
  refine w_nil ?_
  have hl2 := hl.add (t := 0) (hl.nil) rfl; clear hl; have hl := hl2; clear hl2
  refine then_normal ?_
  refine c_seq ?_
  refine c_region ?_
  refine wl (wl_val hl rfl trivial (r_move hl rfl) ?_)
  clear hl a; intro a hl
  refine wl (wl_val hl rfl trivial (r_geq hl rfl rfl) ?_)
  clear hl a; intro a hl
  refine wl (wl_val hl rfl trivial (r_move hl rfl) ?_)
  clear hl a; intro a hl
  refine sl_split (t := 5) hl rfl ?_ ?_
  · intro hg1; clear hl; intro hl
    try simp only [decide_eq_true_eq, decide_eq_false_iff_not, Bool.not_eq_true', Bool.not_eq_false', Bool.not_eq_true, Bool.not_eq_false, Bool.and_eq_true, Bool.or_eq_true, Bool.and_eq_false_iff, Bool.or_eq_false_iff, Bool.not_not, ne_eq, Int.not_lt, Int.not_le, Decidable.not_not, beq_iff_eq, bne_iff_ne] at hg1
    refine wl (wl_val hl rfl ⟨_, _, rfl, rfl, rfl⟩ (r_move hl rfl) ?_)
    clear hl a; intro a hl
    refine wl (wl_val hl rfl ⟨_, _, rfl, rfl, rfl⟩ (r_lss hl rfl rfl) ?_)
    clear hl a; intro a hl
    refine wl (wl_val hl rfl trivial (r_pickT hl rfl rfl) ?_)
    clear hl a; intro a hl
    refine wl (wl_val hl rfl trivial (r_assign hl rfl) ?_)
    clear hl a; intro a hl
    refine w_nil ?_
    have hl2 := hl.add (t := 2) (hl.nil) rfl; clear hl; have hl := hl2; clear hl2
    refine then_normal ?_
    refine wp_ret ?_
    refine f_ret1 (F' := []) hl hh rfl rfl (by repeat (first | exact keeps_nil | apply keeps_cons (by repeat (first | exact find_head | apply find_tail)) (by first  | rfl) | exact keeps_self | apply keeps_mv)) ?_
    exact ⟨congrArg Value.bool (by first | (rw [decide_eq_decide]; omega) | (symm; rw [decide_eq_false_iff_not]; omega) | (symm; rw [decide_eq_true_eq]; omega)), rfl⟩
  · intro hg1; clear hl; intro hl
    try simp only [decide_eq_true_eq, decide_eq_false_iff_not, Bool.not_eq_true', Bool.not_eq_false', Bool.not_eq_true, Bool.not_eq_false, Bool.and_eq_true, Bool.or_eq_true, Bool.and_eq_false_iff, Bool.or_eq_false_iff, Bool.not_not, ne_eq, Int.not_lt, Int.not_le, Decidable.not_not, beq_iff_eq, bne_iff_ne] at hg1
    refine wl (wl_skip hl rfl ⟨_, _, rfl, rfl, rfl⟩ ?_)
    clear hl a; intro a hl
    refine wl (wl_skip hl rfl ⟨_, _, rfl, rfl, rfl⟩ ?_)
    clear hl a; intro a hl
    refine wl (wl_val hl rfl trivial (r_pickF hl rfl rfl) ?_)
    clear hl a; intro a hl
    refine wl (wl_val hl rfl trivial (r_assign hl rfl) ?_)
    clear hl a; intro a hl
    refine w_nil ?_
    have hl2 := hl.add (t := 2) (hl.nil) rfl; clear hl; have hl := hl2; clear hl2
    refine then_normal ?_
    refine wp_ret ?_
    refine f_ret1 (F' := []) hl hh rfl rfl (by repeat (first | exact keeps_nil | apply keeps_cons (by repeat (first | exact find_head | apply find_tail)) (by first  | rfl) | exact keeps_self | apply keeps_mv)) ?_
    exact ⟨congrArg Value.bool (by first | (rw [decide_eq_decide]; omega) | (symm; rw [decide_eq_false_iff_not]; omega) | (symm; rw [decide_eq_true_eq]; omega)), rfl⟩

set_option maxHeartbeats 1000000 in
theorem okTask_spec (z : Int) : Sp Tryz.prog 65 #[.int .i64 z] [] (fun v F' => v = .bool (decide (0 ≤ z ∧ z < 16)) ∧ F' = []) := by
  refine f_enter (args := [.int .i64 z]) Tryz.func65 rfl Tryz.ntmps65 rfl ?_
  intro w0 w a hpre hl hh
  simp only [slotsFrom, Nat.reduceAdd] at hl
  refine c_seq ?_
  refine c_region ?_
  refine wl (wl_val hl rfl trivial (r_assign hl rfl) ?_)
  clear hl a; intro a hl
  refine w_nil ?_
  have hl2 := hl.add (t := 0) (hl.nil) rfl; clear hl; have hl := hl2; clear hl2
  refine then_normal ?_
  refine c_seq ?_
  refine c_region ?_
  refine wl (wl_val hl rfl trivial (r_move hl rfl) ?_)
  clear hl a; intro a hl
  refine wl (wl_val hl rfl trivial (r_geq hl rfl rfl) ?_)
  clear hl a; intro a hl
  refine wl (wl_val hl rfl trivial (r_move hl rfl) ?_)
  clear hl a; intro a hl
  refine sl_split (t := 5) hl rfl ?_ ?_
  · intro hg1; clear hl; intro hl
    try simp only [decide_eq_true_eq, decide_eq_false_iff_not, Bool.not_eq_true', Bool.not_eq_false', Bool.not_eq_true, Bool.not_eq_false, Bool.and_eq_true, Bool.or_eq_true, Bool.and_eq_false_iff, Bool.or_eq_false_iff, Bool.not_not, ne_eq, Int.not_lt, Int.not_le, Decidable.not_not, beq_iff_eq, bne_iff_ne] at hg1
    refine wl (wl_val hl rfl ⟨_, _, rfl, rfl, rfl⟩ (r_move hl rfl) ?_)
    clear hl a; intro a hl
    refine wl (wl_val hl rfl ⟨_, _, rfl, rfl, rfl⟩ (r_lss hl rfl rfl) ?_)
    clear hl a; intro a hl
    refine wl (wl_val hl rfl trivial (r_pickT hl rfl rfl) ?_)
    clear hl a; intro a hl
    refine wl (wl_val hl rfl trivial (r_assign hl rfl) ?_)
    clear hl a; intro a hl
    refine w_nil ?_
    have hl2 := hl.add (t := 2) (hl.nil) rfl; clear hl; have hl := hl2; clear hl2
    refine then_normal ?_
    refine wp_ret ?_
    refine f_ret1 (F' := []) hl hh rfl rfl (by repeat (first | exact keeps_nil | apply keeps_cons (by repeat (first | exact find_head | apply find_tail)) (by first  | rfl) | exact keeps_self | apply keeps_mv)) ?_
    exact ⟨congrArg Value.bool (by first | (rw [decide_eq_decide]; omega) | (symm; rw [decide_eq_false_iff_not]; omega) | (symm; rw [decide_eq_true_eq]; omega)), rfl⟩
  · intro hg1; clear hl; intro hl
    try simp only [decide_eq_true_eq, decide_eq_false_iff_not, Bool.not_eq_true', Bool.not_eq_false', Bool.not_eq_true, Bool.not_eq_false, Bool.and_eq_true, Bool.or_eq_true, Bool.and_eq_false_iff, Bool.or_eq_false_iff, Bool.not_not, ne_eq, Int.not_lt, Int.not_le, Decidable.not_not, beq_iff_eq, bne_iff_ne] at hg1
    refine wl (wl_skip hl rfl ⟨_, _, rfl, rfl, rfl⟩ ?_)
    clear hl a; intro a hl
    refine wl (wl_skip hl rfl ⟨_, _, rfl, rfl, rfl⟩ ?_)
    clear hl a; intro a hl
    refine wl (wl_val hl rfl trivial (r_pickF hl rfl rfl) ?_)
    clear hl a; intro a hl
    refine wl (wl_val hl rfl trivial (r_assign hl rfl) ?_)
    clear hl a; intro a hl
    refine w_nil ?_
    have hl2 := hl.add (t := 2) (hl.nil) rfl; clear hl; have hl := hl2; clear hl2
    refine then_normal ?_
    refine wp_ret ?_
    refine f_ret1 (F' := []) hl hh rfl rfl (by repeat (first | exact keeps_nil | apply keeps_cons (by repeat (first | exact find_head | apply find_tail)) (by first  | rfl) | exact keeps_self | apply keeps_mv)) ?_
    exact ⟨congrArg Value.bool (by first | (rw [decide_eq_decide]; omega) | (symm; rw [decide_eq_false_iff_not]; omega) | (symm; rw [decide_eq_true_eq]; omega)), rfl⟩

set_option maxHeartbeats 1000000 in
theorem okRes_spec (z : Int) : Sp Tryz.prog 66 #[.int .i64 z] [] (fun v F' => v = .bool (decide (0 ≤ z ∧ z < 20)) ∧ F' = []) := by
  refine f_enter (args := [.int .i64 z]) Tryz.func66 rfl Tryz.ntmps66 rfl ?_
  intro w0 w a hpre hl hh
  simp only [slotsFrom, Nat.reduceAdd] at hl
  refine c_seq ?_
  refine c_region ?_
  refine wl (wl_val hl rfl trivial (r_assign hl rfl) ?_)
  clear hl a; intro a hl
  refine w_nil ?_
  have hl2 := hl.add (t := 0) (hl.nil) rfl; clear hl; have hl := hl2; clear hl2
  refine then_normal ?_
  refine c_seq ?_
  refine c_region ?_
  refine wl (wl_val hl rfl trivial (r_move hl rfl) ?_)
  clear hl a; intro a hl
  refine wl (wl_val hl rfl trivial (r_geq hl rfl rfl) ?_)
  clear hl a; intro a hl
  refine wl (wl_val hl rfl trivial (r_move hl rfl) ?_)
  clear hl a; intro a hl
  refine sl_split (t := 5) hl rfl ?_ ?_
  · intro hg1; clear hl; intro hl
    try simp only [decide_eq_true_eq, decide_eq_false_iff_not, Bool.not_eq_true', Bool.not_eq_false', Bool.not_eq_true, Bool.not_eq_false, Bool.and_eq_true, Bool.or_eq_true, Bool.and_eq_false_iff, Bool.or_eq_false_iff, Bool.not_not, ne_eq, Int.not_lt, Int.not_le, Decidable.not_not, beq_iff_eq, bne_iff_ne] at hg1
    refine wl (wl_val hl rfl ⟨_, _, rfl, rfl, rfl⟩ (r_move hl rfl) ?_)
    clear hl a; intro a hl
    refine wl (wl_val hl rfl ⟨_, _, rfl, rfl, rfl⟩ (r_lss hl rfl rfl) ?_)
    clear hl a; intro a hl
    refine wl (wl_val hl rfl trivial (r_pickT hl rfl rfl) ?_)
    clear hl a; intro a hl
    refine wl (wl_val hl rfl trivial (r_assign hl rfl) ?_)
    clear hl a; intro a hl
    refine w_nil ?_
    have hl2 := hl.add (t := 2) (hl.nil) rfl; clear hl; have hl := hl2; clear hl2
    refine then_normal ?_
    refine wp_ret ?_
    refine f_ret1 (F' := []) hl hh rfl rfl (by repeat (first | exact keeps_nil | apply keeps_cons (by repeat (first | exact find_head | apply find_tail)) (by first  | rfl) | exact keeps_self | apply keeps_mv)) ?_
    exact ⟨congrArg Value.bool (by first | (rw [decide_eq_decide]; omega) | (symm; rw [decide_eq_false_iff_not]; omega) | (symm; rw [decide_eq_true_eq]; omega)), rfl⟩
  · intro hg1; clear hl; intro hl
    try simp only [decide_eq_true_eq, decide_eq_false_iff_not, Bool.not_eq_true', Bool.not_eq_false', Bool.not_eq_true, Bool.not_eq_false, Bool.and_eq_true, Bool.or_eq_true, Bool.and_eq_false_iff, Bool.or_eq_false_iff, Bool.not_not, ne_eq, Int.not_lt, Int.not_le, Decidable.not_not, beq_iff_eq, bne_iff_ne] at hg1
    refine wl (wl_skip hl rfl ⟨_, _, rfl, rfl, rfl⟩ ?_)
    clear hl a; intro a hl
    refine wl (wl_skip hl rfl ⟨_, _, rfl, rfl, rfl⟩ ?_)
    clear hl a; intro a hl
    refine wl (wl_val hl rfl trivial (r_pickF hl rfl rfl) ?_)
    clear hl a; intro a hl
    refine wl (wl_val hl rfl trivial (r_assign hl rfl) ?_)
    clear hl a; intro a hl
    refine w_nil ?_
    have hl2 := hl.add (t := 2) (hl.nil) rfl; clear hl; have hl := hl2; clear hl2
    refine then_normal ?_
    refine wp_ret ?_
    refine f_ret1 (F' := []) hl hh rfl rfl (by repeat (first | exact keeps_nil | apply keeps_cons (by repeat (first | exact find_head | apply find_tail)) (by first  | rfl) | exact keeps_self | apply keeps_mv)) ?_
    exact ⟨congrArg Value.bool (by first | (rw [decide_eq_decide]; omega) | (symm; rw [decide_eq_false_iff_not]; omega) | (symm; rw [decide_eq_true_eq]; omega)), rfl⟩
end Go.Proofs.Qxb6500911aGreatDoor

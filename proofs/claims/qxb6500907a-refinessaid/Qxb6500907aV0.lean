import Derived.Test.Qxb6500907aN3
namespace Go.Proofs.Qxb6500907a
open Go.Eng
set_option linter.unusedVariables false
set_option linter.unusedSimpArgs false

/-- bits of a mask -/
def bv (m : Int) : BitVec 16 := BitVec.ofInt 16 m
theorem bv_nat (n : Nat) : bv (n : Int) = BitVec.ofNat 16 n := by
  apply BitVec.eq_of_toNat_eq
  unfold bv
  rw [BitVec.toNat_ofInt, BitVec.toNat_ofNat]
  omega
theorem bv_back {m : Int} (h : 0 ≤ m ∧ m ≤ 65535) : ((bv m).toNat : Int) = m := by
  unfold bv
  rw [BitVec.toNat_ofInt]
  omega
theorem wrap16 (n : Nat) (h : n < 65536) : IntKind.u16.wrap (n : Int) = (n : Int) := wrap_fits (by simp only [Fits]; omega)
theorem bv_toNat (x : BitVec 16) : bv (x.toNat : Int) = x := by
  rw [bv_nat]; simp
theorem shl_bv (b : Nat) (h : b < 16) : bv (shlB (b : Int)) = BitVec.twoPow 16 b := by
  have : ∀ b : Fin 16, bv (shlB ((b : Nat) : Int)) = BitVec.twoPow 16 b := by decide
  exact this ⟨b, h⟩
theorem setF_bv (m : Int) (b : Nat) (h : b < 16) (up : Bool) : setF m b up = (((if up then bv m ||| BitVec.twoPow 16 b else bv m &&& ~~~ BitVec.twoPow 16 b) : BitVec 16).toNat : Int) := by
  unfold setF
  cases up
  · simp only [Bool.false_eq_true, if_false]
    show IntKind.u16.wrap ((bv m &&& ~~~ bv (shlB b)).toNat : Int) = _
    rw [shl_bv b h]
    exact wrap16 _ (BitVec.isLt _)
  · simp only [if_true]
    show IntKind.u16.wrap ((bv m ||| bv (shlB b)).toNat : Int) = _
    rw [shl_bv b h]
    exact wrap16 _ (BitVec.isLt _)
theorem bitF_bv {m : Int} (hm : 0 ≤ m ∧ m ≤ 65535) (b : Nat) (h : b < 16) : bitF m b = (bv m).getLsbD b := by
  obtain ⟨n, rfl⟩ := Int.eq_ofNat_of_zero_le hm.1
  have hn : n < 65536 := by omega
  rw [bv_nat, BitVec.getLsbD_ofNat, Nat.testBit_eq_decide_div_mod_eq]
  unfold bitF
  have e1 : Int.fdiv (n : Int) (2 ^ (min (b : Int).toNat IntKind.u16.bits)) = ((n / 2 ^ b : Nat) : Int) := by
    have : min (b : Int).toNat IntKind.u16.bits = b := by
      rw [Int.toNat_natCast]; show min b 16 = b; omega
    rw [this, Int.fdiv_eq_ediv_of_nonneg _ (by exact Int.le_of_lt (Int.pow_pos (by omega)))]
    rw [Int.natCast_ediv]; simp
  have e2 : bitsOf .and .u16 (Int.fdiv (n : Int) (2 ^ (min (b : Int).toNat IntKind.u16.bits))) 1 = ((n / 2 ^ b % 2 : Nat) : Int) := by
    rw [e1]
    show IntKind.u16.wrap ((bv ((n / 2 ^ b : Nat) : Int) &&& bv 1).toNat : Int) = _
    have : (bv ((n / 2 ^ b : Nat) : Int) &&& bv 1).toNat = n / 2 ^ b % 2 := by
      rw [bv_nat, show bv 1 = BitVec.ofNat 16 1 from rfl, BitVec.toNat_and, BitVec.toNat_ofNat, BitVec.toNat_ofNat]
      rw [show (1 % 2 ^ 16 : Nat) = 1 from rfl, Nat.and_one_is_mod]
      have := Nat.div_le_self n (2 ^ b)
      omega
    rw [this]
    exact wrap16 _ (by omega)
  rw [e2]
  have h2 : n / 2 ^ b % 2 < 2 := Nat.mod_lt _ (by decide)
  by_cases c : n / 2 ^ b % 2 = 1
  · simp [c, h]
  · have : n / 2 ^ b % 2 = 0 := by omega
    simp [this]
theorem setF_bit {m : Int} (b : Nat) (h : b < 16) (up : Bool) (j : Nat) (hj : j < 16) : bitF (setF m b up) j = if j = b then up else (bv m).getLsbD j := by
  rw [bitF_bv (setF_rng m b up) j hj, setF_bv m b h up, bv_toNat]
  cases up
  · simp only [Bool.false_eq_true, if_false, BitVec.getLsbD_and, BitVec.getLsbD_not, BitVec.getLsbD_twoPow]
    by_cases e : j = b
    · subst e; simp [h]
    · simp [e, Ne.symm e, hj]
  · simp only [if_true, BitVec.getLsbD_or, BitVec.getLsbD_twoPow]
    by_cases e : j = b
    · subst e; simp [h]
    · simp [e, Ne.symm e]
/-- a bit set and set back -/
theorem setF_back {m : Int} (hm : 0 ≤ m ∧ m ≤ 65535) (b : Nat) (h : b < 16) (up : Bool) : setF (setF m b up) b (bitF m b) = m := by
  have hr := setF_rng (setF m b up) b (bitF m b)
  have : bv (setF (setF m b up) b (bitF m b)) = bv m := by
    apply BitVec.eq_of_getLsbD_eq
    intro j hj
    rw [← bitF_bv hr j hj, setF_bit b h _ j hj]
    by_cases e : j = b
    · subst e; rw [if_pos rfl, bitF_bv hm j hj]
    · rw [if_neg e, ← bitF_bv (setF_rng m b up) j hj, setF_bit b h _ j hj, if_neg e]
  rw [← bv_back hr, this, bv_back hm]

end Go.Proofs.Qxb6500907a

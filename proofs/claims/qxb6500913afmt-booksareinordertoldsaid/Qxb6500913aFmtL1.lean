import Derived.Test.Qxb6500913aFmtL0
namespace Go.Proofs.Qxb6500913aFmt
open Go.Eng
set_option linter.unusedVariables false
set_option linter.unusedSimpArgs false
theorem cal4 : callable Tryf.prog 4 = true := by kernel_rfl
theorem cal5 : callable Tryf.prog 5 = true := by kernel_rfl
theorem cal7 : callable Tryf.prog 7 = true := by kernel_rfl
theorem cal6 : callable Tryf.prog 6 = true := by kernel_rfl
theorem bld35 : buildOk Tryf.prog 35 [(0, 1), (1, 1), (2, 1), (3, 1)] = true := by kernel_rfl
theorem shp35 : shapeT Tryf.prog 8 35 = some [.int .u8, .bool, .int .u64, .int .u64] := by kernel_rfl
theorem eqf35 : eqOk Tryf.prog 8 35 = true := by kernel_rfl
/-- the state of a law's loop -/
structure LS where
  i : Nat
  f : Nat → Int
  fl : Nat → List Nat
  rs : List Nat
  rv : Value
  Er : List (Nat × Obj)
structure LI (n : Nat) (s : LS) : Prop where
  inv : Inv s.f s.fl s.i
  le : s.i ≤ n
  row : Row s.rv s.rs.length (s.rs.map rv64) 1 53 s.Er
  len : s.rs.length ≤ s.i
  ok : ∀ r, r ∈ s.rs → r < 18446744073709551616
theorem LI.start {n : Nat} (G : Int) (h0 : 0 ≤ G) (h1 : G ≤ 281474976710655) : LI n ⟨0, initF G, fun _ => [], [], .slice none 0 0, []⟩ :=
  ⟨inv_init G h0 h1, Nat.zero_le _, Row.nil _ _, Nat.le_refl _, fun r h => by cases h⟩
theorem LI.next {n : Nat} {s : LS} (h : LI n s) (hi : s.i < n) {o : MOp} (ho : o.ok) {fl2 : Nat → List Nat} (hI : Inv (doF s.f o).f fl2 (s.i + 1)) {rv2 : Value} {E2 : List (Nat × Obj)}
    (hR : Row rv2 (keepF s.rs o (doF s.f o).ans).length ((keepF s.rs o (doF s.f o).ans).map rv64) 1 53 E2) : LI n ⟨s.i + 1, (doF s.f o).f, fl2, keepF s.rs o (doF s.f o).ans, rv2, E2⟩ :=
  ⟨hI, hi, hR, Nat.le_trans (keepF_len ..) (Nat.succ_le_succ h.len), keepF_ok h.inv o h.ok⟩

theorem judge_cases (f : Nat → Int) (r : Nat) : judgeF f r = 0 ∨ judgeF f r = 5 ∨ judgeF f r = 6 := by
  unfold judgeF
  repeat' split
  all_goals simp
theorem doF_refuse (f : Nat → Int) (o : MOp) (h : (doF f o).ans.st ≠ 0) : (doF f o).f = f ∧ (doF f o).ans = ⟨(doF f o).ans.st, false, 0, 0⟩ := by
  unfold doF at h ⊢
  by_cases k0 : o.kd = 0
  · simp only [if_pos k0] at h ⊢
    by_cases c : 2 ≤ o.x ∧ o.x < 4096
    · simp only [if_pos c] at h; exact absurd rfl h
    · simp only [if_neg c]; exact ⟨by first | trivial | rfl, by first | trivial | rfl⟩
  simp only [if_neg k0] at h ⊢
  by_cases k1 : o.kd = 1
  · simp only [if_pos k1] at h ⊢
    by_cases c : 2 ≤ o.x ∧ o.x < 4096
    · simp only [if_pos c] at h; exact absurd rfl h
    · simp only [if_neg c, storeF]; exact ⟨by first | trivial | rfl, by first | trivial | rfl⟩
  simp only [if_neg k1] at h ⊢
  by_cases k2 : o.kd = 2
  · simp only [if_pos k2] at h ⊢
    by_cases c : 2 ≤ o.x ∧ o.x < 4096
    · simp only [if_pos c] at h; exact absurd rfl h
    · simp only [if_neg c, casF]; exact ⟨if_neg (by omega), by first | trivial | rfl⟩
  simp only [if_neg k2] at h ⊢
  by_cases k3 : o.kd = 3
  · simp only [if_pos k3] at h ⊢
    by_cases c : 2 ≤ o.x ∧ o.x < 4096
    · simp only [if_pos c] at h; exact absurd rfl h
    · simp only [if_neg c, addF]; exact ⟨by first | trivial | rfl, by first | trivial | rfl⟩
  simp only [if_neg k3] at h ⊢
  by_cases k4 : o.kd = 4
  · simp only [if_pos k4] at h ⊢
    by_cases c : ¬ (2 ≤ o.x ∧ o.x < 4096)
    · simp only [if_pos c, dcasF]; exact ⟨if_neg (by omega), by first | trivial | rfl⟩
    · simp only [if_neg c] at h ⊢
      by_cases c2 : o.x % 2 ≠ 0
      · simp only [if_pos c2, dcasF]; exact ⟨if_neg (by omega), by first | trivial | rfl⟩
      · simp only [if_neg c2] at h; exact absurd rfl h
  simp only [if_neg k4] at h ⊢
  by_cases k5 : o.kd = 5
  · simp only [if_pos k5] at h ⊢
    by_cases c : 32 < o.a
    · simp only [if_pos c]; exact ⟨by first | trivial | rfl, by first | trivial | rfl⟩
    · simp only [if_neg c] at h ⊢
      unfold allocF at h ⊢
      by_cases c1 : o.a = 0 ∨ 32 < o.a
      · simp only [if_pos c1]; exact ⟨by first | trivial | rfl, by first | trivial | rfl⟩
      · simp only [if_neg c1] at h ⊢
        by_cases c2 : lst f ((o.a + 1) / 2 * 2 / 2 - 1) ≠ 0
        · simp only [if_pos c2] at h; exact absurd rfl h
        · simp only [if_neg c2] at h ⊢
          by_cases c3 : fresh f + (((o.a + 1) / 2 * 2 : Nat) : Int) ≤ 4096 ∧ boot f < 281474976710655
          · simp only [if_pos c3] at h; exact absurd rfl h
          · simp only [if_neg c3]; exact ⟨by first | trivial | rfl, by first | trivial | rfl⟩
  simp only [if_neg k5] at h ⊢
  by_cases k6 : o.kd = 6
  · simp only [if_pos k6] at h ⊢
    unfold freeF at h ⊢
    by_cases c : judgeF f o.a ≠ 0
    · simp only [if_pos c]; exact ⟨by first | trivial | rfl, by first | trivial | rfl⟩
    · simp only [if_neg c] at h
      by_cases c2 : gen f (o.a % 65536) = 281474976710655
      · simp only [if_pos c2] at h; exact absurd rfl h
      · simp only [if_neg c2] at h; exact absurd rfl h
  simp only [if_neg k6]
  exact ⟨by first | trivial | rfl, by first | trivial | rfl⟩
theorem allocF_st (f : Nat → Int) (n : Nat) : (allocF f n).st = 0 ∨ (allocF f n).st = 3 ∨ (allocF f n).st = 4 := by
  unfold allocF
  by_cases c1 : n = 0 ∨ 32 < n
  · rw [if_pos c1]; exact .inr (.inl rfl)
  rw [if_neg c1]
  by_cases c2 : lst f ((n + 1) / 2 * 2 / 2 - 1) ≠ 0
  · simp only [if_pos c2]; exact .inl trivial
  simp only [if_neg c2]
  by_cases c3 : fresh f + (((n + 1) / 2 * 2 : Nat) : Int) ≤ 4096 ∧ boot f < 281474976710655
  · simp only [if_pos c3]; exact .inl trivial
  · simp only [if_neg c3]; exact .inr (.inr trivial)
theorem freeF_st (f : Nat → Int) (n : Nat) : (freeF f n).st = 0 ∨ (freeF f n).st = 5 ∨ (freeF f n).st = 6 := by
  have hj := judge_cases f n
  unfold freeF
  by_cases c : judgeF f n ≠ 0
  · rw [if_pos c]; exact hj
  · rw [if_neg c]
    by_cases c2 : gen f (n % 65536) = 281474976710655
    · simp only [if_pos c2]; exact .inl trivial
    · simp only [if_neg c2]; exact .inl trivial
theorem doF_st (f : Nat → Int) (o : MOp) : 0 ≤ (doF f o).ans.st ∧ (doF f o).ans.st ≤ 7 := by
  have h1 := allocF_st f o.a
  have h2 := freeF_st f o.a
  unfold doF
  by_cases k0 : o.kd = 0
  · simp only [if_pos k0]
    by_cases c : 2 ≤ o.x ∧ o.x < 4096
    · simp only [if_pos c] <;> omega
    · simp only [if_neg c] <;> omega
  simp only [if_neg k0]
  by_cases k1 : o.kd = 1
  · simp only [if_pos k1]
    by_cases c : 2 ≤ o.x ∧ o.x < 4096
    · simp only [if_pos c] <;> omega
    · simp only [if_neg c] <;> omega
  simp only [if_neg k1]
  by_cases k2 : o.kd = 2
  · simp only [if_pos k2]
    by_cases c : 2 ≤ o.x ∧ o.x < 4096
    · simp only [if_pos c] <;> omega
    · simp only [if_neg c] <;> omega
  simp only [if_neg k2]
  by_cases k3 : o.kd = 3
  · simp only [if_pos k3]
    by_cases c : 2 ≤ o.x ∧ o.x < 4096
    · simp only [if_pos c] <;> omega
    · simp only [if_neg c] <;> omega
  simp only [if_neg k3]
  by_cases k4 : o.kd = 4
  · simp only [if_pos k4]
    by_cases c : ¬ (2 ≤ o.x ∧ o.x < 4096)
    · simp only [if_pos c] <;> omega
    · simp only [if_neg c]
      by_cases c2 : o.x % 2 ≠ 0
      · simp only [if_pos c2] <;> omega
      · simp only [if_neg c2] <;> omega
  simp only [if_neg k4]
  by_cases k5 : o.kd = 5
  · simp only [if_pos k5]
    by_cases c : 32 < o.a
    · simp only [if_pos c] <;> omega
    · simp only [if_neg c] <;> omega
  simp only [if_neg k5]
  by_cases k6 : o.kd = 6
  · simp only [if_pos k6]
    omega
  simp only [if_neg k6] <;> omega


end Go.Proofs.Qxb6500913aFmt

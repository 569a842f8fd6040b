import Derived.Test.Qxb6500908aX4
namespace Go.Proofs.Qxb6500908a
open Go.Eng
set_option linter.unusedVariables false
set_option linter.unusedSimpArgs false

attribute [local irreducible] postP

/-! ## bits of a mask -/
theorem bv_sh1 {j : Nat} (hj : j < 16) : bv (sh1 (j : Int)) = BitVec.twoPow 16 j := by
  unfold bv sh1
  rcases (show j = 0 ∨ j = 1 ∨ j = 2 ∨ j = 3 ∨ j = 4 ∨ j = 5 ∨ j = 6 ∨ j = 7 ∨ j = 8 ∨ j = 9 ∨ j = 10 ∨ j = 11 ∨ j = 12 ∨ j = 13 ∨ j = 14 ∨ j = 15 by omega) with rfl | rfl | rfl | rfl | rfl | rfl | rfl | rfl | rfl | rfl | rfl | rfl | rfl | rfl | rfl | rfl <;> decide
theorem bit_iff {x : Int} {j : Nat} (hj : j < 16) : bitIn x j = (bv x).getLsbD j := by
  have h : bitsOf .and .u16 x (sh1 (j : Int)) = ((bv x &&& bv (sh1 (j : Int))).toNat : Int) := by
    unfold bitsOf
    refine wrap_fits (k := .u16) ?_
    have := (BitVec.ofInt 16 x &&& BitVec.ofInt 16 (sh1 (j : Int))).isLt
    show 0 ≤ ((BitVec.ofInt 16 x &&& BitVec.ofInt 16 (sh1 (j : Int))).toNat : Int) ∧ ((BitVec.ofInt 16 x &&& BitVec.ofInt 16 (sh1 (j : Int))).toNat : Int) ≤ 65535
    omega
  unfold bitIn
  rw [h, bv_sh1 hj, BitVec.and_twoPow]
  cases hb : (bv x).getLsbD j with
  | true =>
    rw [if_pos rfl, BitVec.toNat_twoPow]
    rcases (show j = 0 ∨ j = 1 ∨ j = 2 ∨ j = 3 ∨ j = 4 ∨ j = 5 ∨ j = 6 ∨ j = 7 ∨ j = 8 ∨ j = 9 ∨ j = 10 ∨ j = 11 ∨ j = 12 ∨ j = 13 ∨ j = 14 ∨ j = 15 by omega) with rfl | rfl | rfl | rfl | rfl | rfl | rfl | rfl | rfl | rfl | rfl | rfl | rfl | rfl | rfl | rfl <;> rfl
  | false => rw [if_neg (by simp)]; rfl
theorem bit_or {x : Int} {d j : Nat} (hd : d < 16) (hj : j < 16) : bitIn (orB x (sh1 (d : Int))) j = (bitIn x j || decide (j = d)) := by
  rw [bit_iff hj, bit_iff hj, bv_or, BitVec.getLsbD_or, bv_sh1 hd, BitVec.getLsbD_twoPow]
  congr 1
  simp [hd, eq_comm]
theorem bit_all {j : Nat} (hj : j < 16) : bitIn 65535 j = true := by
  rw [bit_iff hj, show bv 65535 = BitVec.allOnes 16 from rfl, BitVec.getLsbD_allOnes]
  simp [hj]
/-! ## honest devices -/
def ldV (s : StP) : Int × NtP := s.vs.getLast?.getD (0, np0)
structure DevI (s : StP) (j : Nat) (D : DeP) : Prop where
  id : D.id = (j : Int)
  ep : D.ep ≤ s.ep
  rn : (D.rn = (ldV s).1 ∧ D.rs = slP (ldV s).2 j) ∨ (s.ph = 2 ∧ D.rn = s.fid ∧ D.rs = slP s.fn j)
  sg : D.sg = 0 ∨ (¬ s.ph = 0 ∧ D.sg = s.fid ∧ D.ss = slP s.fn j)
  fr : D.rn = 0 ∨ D.fin D.rn = true
  fs : ∀ b, D.fin b = true → D.sg = b → b = 0
  p2 : s.ph = 2 → D.sg = s.fid ∨ D.rn = s.fid
def Used (s : StP) (b : Int) : Prop := ¬ b = 0 ∧ ((¬ s.ph = 0 ∧ b = s.fid) ∨ ¬ s.vd b = none)
structure DMs (s : StP) (D : DeP) (m : Ms) : Prop where
  d : 0 ≤ m.d
  e : m.e ≤ s.ep
  u : Used s m.b
  k0 : m.k = 0 → (¬ s.ph = 0 ∧ m.b = s.fid ∧ m.t = slP s.fn m.d.toNat) ∨ D.fin m.b = true ∨ m.e < D.ep
  k1 : m.k = 1 → ¬ s.ph = 0 → m.b = s.fid → s.ph = 2
  k2 : m.k = 2 → ¬ s.ph = 0 → m.b = s.fid → s.ph = 3
structure GMs (s : StP) (D : DeP) (m : Ms) : Prop where
  d : 0 ≤ m.d
  e : m.e ≤ D.ep
  u : Used s m.b
  k4 : m.k = 4 → m.y = true → s.ph = 1 → m.b = s.fid → D.sg = s.fid
  k5 : m.k = 5 → D.fin m.b = true
  k6 : m.k = 6 → m.r = 0 ∨ s.vd m.r = some 3
  k7 : m.k = 6 → s.ph = 2 → m.r = s.fid → D.rn = s.fid
structure GU (s : StP) (dv : List DeP) (A B : Ms → Prop) (au : Bool) (dn ys : Int) : Prop where
  a1 : au = true → ∀ m, A m → m.k = 0 → m.e < s.ep
  a2 : au = true → s.ph = 3 → ∀ m D, B m → dv[m.d.toNat]? = some D → m.k = 6 → m.s = 0 → m.e = s.ep → D.sg = 0
  a3 : ∀ j D, dv[j]? = some D → bitIn dn j = true → s.ph = 3 → D.sg = 0 ∧ ∀ m, A m → m.k = 0 → m.d.toNat = j → m.b = s.fid → D.fin s.fid = true ∨ m.e < D.ep
  b3 : ∀ j D, dv[j]? = some D → bitIn dn j = true → s.ph = 2 → ¬ D.sg = s.fid
  a4 : s.ph = 1 → ∀ j D, dv[j]? = some D → bitIn ys j = true → D.sg = s.fid
structure HS (s : StP) (dv : List DeP) (A B : Ms → Prop) : Prop where
  st : StI s
  dl : dv.length = 16
  sv : ∀ v, v ∈ s.vs → v.1 = 0 ∨ s.vd v.1 = some 3
  sf : ¬ s.ph = 0 → ∀ v, v ∈ s.vs → ¬ v.1 = s.fid
  dev : ∀ j D, dv[j]? = some D → DevI s j D
  dm : ∀ m, A m → ∃ D, dv[m.d.toNat]? = some D ∧ DMs s D m
  gm : ∀ m, B m → ∃ D, dv[m.d.toNat]? = some D ∧ GMs s D m
theorem ldV_mem {s : StP} (h : 0 < s.vs.length) : ldV s ∈ s.vs := by
  unfold ldV
  cases e : s.vs.getLast? with
  | none => rw [List.getLast?_eq_none_iff] at e; rw [e] at h; simp at h
  | some v => exact List.mem_of_getLast? e
/-- what runs is not the batch that may still be stopped -/
theorem HS.rx {s : StP} {dv : List DeP} {A B : Ms → Prop} (h : HS s dv A B) {j : Nat} {D : DeP} (hD : dv[j]? = some D) (hp : ¬ s.ph = 0) (h2 : ¬ s.ph = 2) : ¬ D.rn = s.fid := by
  rcases (h.dev j D hD).rn with h9 | h9
  · rw [h9.1]; exact h.sf hp _ (ldV_mem h.st.vl)
  · omega
theorem HS.rn3 {s : StP} {dv : List DeP} {A B : Ms → Prop} (h : HS s dv A B) {j : Nat} {D : DeP} (hD : dv[j]? = some D) : D.rn = 0 ∨ s.vd D.rn = some 3 := by
  rcases (h.dev j D hD).rn with h9 | h9
  · rw [h9.1]; exact h.sv _ (ldV_mem h.st.vl)
  · rw [h9.2.1]; exact .inr (h.st.v2 h9.1)
/-- a device takes a message: what it may be -/
theorem hand_cs (D : DeP) (m : Ms) (hd : m.d = D.id) : (m.e < D.ep ∧ handP D m = (D, none)) ∨ (¬ m.e < D.ep ∧
    ((m.k = 0 ∧ (m.b = D.sg ∨ m.b = D.rn) ∧ handP D m = ({ D with ep := m.e }, some (rpl D.id m 4 true 0 0))) ∨
     (m.k = 0 ∧ ¬ (m.b = D.sg ∨ m.b = D.rn) ∧ handP D m = ({ D with ep := m.e }, some (rpl D.id m 4 false 0 0))) ∨
     (m.k = 0 ∧ ¬ (m.b = D.sg ∨ m.b = D.rn) ∧ D.sg = 0 ∧ D.fin m.b = false ∧ handP D m = ({ D with ep := m.e, sg := m.b, ss := m.t }, some (rpl D.id m 4 true 0 0))) ∨
     (m.k = 1 ∧ m.b = D.sg ∧ handP D m = ({ D with ep := m.e, rn := D.sg, rs := D.ss, sg := 0, ss := ⟨#[]⟩, fin := finU D.fin m.b }, some (rpl D.id m 5 false 0 0))) ∨
     (m.k = 1 ∧ ¬ m.b = D.sg ∧ m.b = D.rn ∧ handP D m = ({ D with ep := m.e }, some (rpl D.id m 5 false 0 0))) ∨
     (m.k = 2 ∧ m.b = D.sg ∧ handP D m = ({ D with ep := m.e, sg := 0, ss := ⟨#[]⟩, fin := finU D.fin m.b }, some (rpl D.id m 5 false 0 0))) ∨
     (m.k = 2 ∧ ¬ m.b = D.sg ∧ handP D m = ({ D with ep := m.e, fin := finU D.fin m.b }, some (rpl D.id m 5 false 0 0))) ∨
     (m.k = 3 ∧ handP D m = ({ D with ep := m.e }, some (rpl D.id m 6 false D.rn D.sg))) ∨
     (handP D m = ({ D with ep := m.e }, none) ∧ (m.k = 1 → ¬ m.b = D.sg ∧ ¬ m.b = D.rn) ∧ ¬ m.k = 0 ∧ ¬ m.k = 2 ∧ ¬ m.k = 3))) := by
  by_cases he : m.e < D.ep
  · exact .inl ⟨he, hd_n (.inr he)⟩
  · have hn : ¬ (¬ m.d = D.id ∨ m.e < D.ep) := fun h => by
      rcases h with h | h
      · exact h hd
      · exact he h
    refine .inr ⟨he, ?_⟩
    by_cases h0 : m.k = 0
    · by_cases h1 : m.b = D.sg ∨ m.b = D.rn
      · exact .inl ⟨h0, h1, hd_p1 hn h0 h1⟩
      · by_cases h2 : D.sb = true ∨ ¬ D.sg = 0 ∨ D.fin m.b = true
        · exact .inr (.inl ⟨h0, h1, hd_p2 hn h0 h1 h2⟩)
        · refine .inr (.inr (.inl ⟨h0, h1, ?_, ?_, hd_p3 hn h0 h1 h2⟩))
          · exact Decidable.byContradiction fun h => h2 (.inr (.inl h))
          · cases hf : D.fin m.b with
            | false => rfl
            | true => exact absurd (.inr (.inr hf)) h2
    · by_cases h1 : m.k = 1
      · by_cases h2 : m.b = D.sg
        · exact .inr (.inr (.inr (.inl ⟨h1, h2, hd_c1 hn h1 h2⟩)))
        · by_cases h3 : m.b = D.rn
          · exact .inr (.inr (.inr (.inr (.inl ⟨h1, h2, h3, hd_c2 hn h1 h2 h3⟩))))
          · exact .inr (.inr (.inr (.inr (.inr (.inr (.inr (.inr ⟨hd_c0 hn h1 h2 h3, fun _ => ⟨h2, h3⟩, h0, by omega, by omega⟩)))))))
      · by_cases h2 : m.k = 2
        · by_cases h3 : m.b = D.sg
          · exact .inr (.inr (.inr (.inr (.inr (.inl ⟨h2, h3, hd_r1 hn h2 h3⟩)))))
          · exact .inr (.inr (.inr (.inr (.inr (.inr (.inl ⟨h2, h3, hd_r2 hn h2 h3⟩))))))
        · by_cases h3 : m.k = 3
          · exact .inr (.inr (.inr (.inr (.inr (.inr (.inr (.inl ⟨h3, hd_q hn h3⟩)))))))
          · exact .inr (.inr (.inr (.inr (.inr (.inr (.inr (.inr ⟨hd_x hn h0 h1 h2 h3, fun h => absurd h h1, h0, h2, h3⟩)))))))

end Go.Proofs.Qxb6500908a

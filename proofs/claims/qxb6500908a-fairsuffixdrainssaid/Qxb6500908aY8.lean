import Derived.Test.Qxb6500908aY7
namespace Go.Proofs.Qxb6500908a
open Go.Eng
set_option linter.unusedVariables false
set_option linter.unusedSimpArgs false

attribute [local irreducible] postP orB sh1 bitIn handP

/-! ## a fair suffix drains -/
def phV (p : Int) : Nat := if p = 1 then 2 else if p = 0 then 0 else 1
def Phi (W : WoP) (g : GtP) : Nat := 2 * g.q.length + phV W.l.d.ph
def Ask (s : StP) (au : Bool) (d : Nat) (m : Ms) : Prop := m.d = (d : Int) ∧ m.e = s.ep ∧ m.b = s.fid ∧ m.k = (if s.ph = 1 then 0 else if au then 3 else if s.ph = 2 then 1 else 2)
def Outc (s : StP) (d : Nat) (m : Ms) : Prop := m.d = (d : Int) ∧ m.e = s.ep ∧ m.b = s.fid ∧ m.k = (if s.ph = 2 then 1 else 2)
def Setl (s : StP) (D : DeP) : Prop := D.sg = 0 ∧ D.ep = s.ep
def Ans (s : StP) (au : Bool) (d : Nat) (m : Ms) : Prop := m.d = (d : Int) ∧ m.e = s.ep ∧ m.b = s.fid ∧ ((s.ph = 1 ∧ m.k = 4) ∨ (¬ s.ph = 1 ∧ au = false ∧ m.k = 5) ∨ (¬ s.ph = 1 ∧ au = true ∧ m.k = 6 ∧ m.s = 0 ∧ (s.ph = 2 → m.r = s.fid) ∧ (s.ph = 3 → ¬ m.r = s.fid)))
def Bitt (s : StP) (g : GtP) (d : Nat) : Prop := (s.ph = 1 ∧ bitIn g.ys d = true) ∨ (¬ s.ph = 1 ∧ bitIn g.dn d = true)
/-- the question of a device stands in the bag -/
def Pnd (s : StP) (au : Bool) (dv : List DeP) (d : Nat) (xd : List Ms) : Prop := ∃ A m B, xd = A ++ m :: B ∧ Ask s au d m ∧ (¬ s.ph = 1 → au = true → (∃ D, dv[d]? = some D ∧ Setl s D) ∨ ∃ o, o ∈ A ∧ Outc s d o)
section
variable {s : StP} {dv : List DeP} {A B : Ms → Prop}
/-- a question is answered -/
theorem ask_ans (h : HS s dv A B) (hp : ¬ s.ph = 0) {au : Bool} {d : Nat} {m : Ms} {D : DeP} (ha : Ask s au d m) (hD : dv[d]? = some D) (hset : ¬ s.ph = 1 → au = true → Setl s D) : ∃ r, (handP D m).2 = some r ∧ Ans s au d r := by
  obtain ⟨a1, a2, a3, a4⟩ := ha
  have hd := h.dev d D hD
  have f1 := h.st.f1 hp
  have hid : m.d = D.id := by rw [hd.id]; exact a1
  have hep := hd.ep
  have p3 := h.st.p
  rcases hand_cs D m hid with ⟨he, _⟩ | ⟨he, hc⟩
  · omega
  have go : ∀ (k : Int) (y : Bool) (r z : Int), ((s.ph = 1 ∧ k = 4) ∨ (¬ s.ph = 1 ∧ au = false ∧ k = 5) ∨ (¬ s.ph = 1 ∧ au = true ∧ k = 6 ∧ z = 0 ∧ (s.ph = 2 → r = s.fid) ∧ (s.ph = 3 → ¬ r = s.fid))) → Ans s au d (rpl D.id m k y r z) := fun k y r z hk => ⟨hd.id, a2, a3, hk⟩
  by_cases h1 : s.ph = 1
  · rw [if_pos h1] at a4
    rcases hc with ⟨k, c, e⟩ | ⟨k, c, e⟩ | ⟨k, c, c1, c2, e⟩ | ⟨k, c, e⟩ | ⟨k, c, c1, e⟩ | ⟨k, c, e⟩ | ⟨k, c, e⟩ | ⟨k, e⟩ | ⟨e, n1, n0, n2, n3⟩
    · exact ⟨_, by rw [e], go 4 _ _ _ (.inl ⟨h1, rfl⟩)⟩
    · exact ⟨_, by rw [e], go 4 _ _ _ (.inl ⟨h1, rfl⟩)⟩
    · exact ⟨_, by rw [e], go 4 _ _ _ (.inl ⟨h1, rfl⟩)⟩
    · omega
    · omega
    · omega
    · omega
    · omega
    · omega
  · rw [if_neg h1] at a4
    cases au with
    | true =>
      have a4 : m.k = 3 := a4
      obtain ⟨z1, z2⟩ := hset h1 rfl
      rcases hc with ⟨k, c, e⟩ | ⟨k, c, e⟩ | ⟨k, c, c1, c2, e⟩ | ⟨k, c, e⟩ | ⟨k, c, c1, e⟩ | ⟨k, c, e⟩ | ⟨k, c, e⟩ | ⟨k, e⟩ | ⟨e, n1, n0, n2, n3⟩
      · omega
      · omega
      · omega
      · omega
      · omega
      · omega
      · omega
      · exact ⟨_, by rw [e], go 6 _ _ _ (.inr (.inr ⟨h1, rfl, rfl, z1, fun p => (hd.p2 p).resolve_left (by omega), fun p => h.rx hD hp (by omega)⟩))⟩
      · omega
    | false =>
      have a4 : m.k = if s.ph = 2 then 1 else 2 := a4
      have k5 : Ans s false d (rpl D.id m 5 false 0 0) := go 5 _ _ _ (.inr (.inl ⟨h1, rfl, rfl⟩))
      split at a4
      · rename_i h2
        rcases hc with ⟨k, c, e⟩ | ⟨k, c, e⟩ | ⟨k, c, c1, c2, e⟩ | ⟨k, c, e⟩ | ⟨k, c, c1, e⟩ | ⟨k, c, e⟩ | ⟨k, c, e⟩ | ⟨k, e⟩ | ⟨e, n1, n0, n2, n3⟩
        · omega
        · omega
        · omega
        · exact ⟨_, by rw [e], k5⟩
        · exact ⟨_, by rw [e], k5⟩
        · omega
        · omega
        · omega
        · exfalso
          have := n1 a4
          rcases hd.p2 h2 with h9 | h9 <;> omega
      · rcases hc with ⟨k, c, e⟩ | ⟨k, c, e⟩ | ⟨k, c, c1, c2, e⟩ | ⟨k, c, e⟩ | ⟨k, c, c1, e⟩ | ⟨k, c, e⟩ | ⟨k, c, e⟩ | ⟨k, e⟩ | ⟨e, n1, n0, n2, n3⟩
        · omega
        · omega
        · omega
        · omega
        · omega
        · exact ⟨_, by rw [e], k5⟩
        · exact ⟨_, by rw [e], k5⟩
        · omega
        · omega
/-- an outcome settles a device -/
theorem out_set (h : HS s dv A B) (hp : s.ph = 2 ∨ s.ph = 3) {d : Nat} {m : Ms} {D : DeP} (ha : Outc s d m) (hD : dv[d]? = some D) : Setl s (handP D m).1 := by
  obtain ⟨a1, a2, a3, a4⟩ := ha
  have hd := h.dev d D hD
  have f1 := h.st.f1 (by omega)
  have hid : m.d = D.id := by rw [hd.id]; exact a1
  have hep := hd.ep
  have sg0 : ¬ m.b = D.sg → D.sg = 0 := fun e => by
    rcases hd.sg with h9 | h9
    · exact h9
    · exact absurd (a3.trans h9.2.1.symm) e
  rcases hand_cs D m hid with ⟨he, _⟩ | ⟨he, hc⟩
  · omega
  split at a4
  · rename_i h2
    rcases hc with ⟨k, c, e⟩ | ⟨k, c, e⟩ | ⟨k, c, c1, c2, e⟩ | ⟨k, c, e⟩ | ⟨k, c, c1, e⟩ | ⟨k, c, e⟩ | ⟨k, c, e⟩ | ⟨k, e⟩ | ⟨e, n1, n0, n2, n3⟩
    · omega
    · omega
    · omega
    · rw [e]; exact ⟨rfl, a2⟩
    · rw [e]; exact ⟨sg0 c, a2⟩
    · omega
    · omega
    · omega
    · exfalso
      have := n1 a4
      rcases hd.p2 h2 with h9 | h9 <;> omega
  · rcases hc with ⟨k, c, e⟩ | ⟨k, c, e⟩ | ⟨k, c, c1, c2, e⟩ | ⟨k, c, e⟩ | ⟨k, c, c1, e⟩ | ⟨k, c, e⟩ | ⟨k, c, e⟩ | ⟨k, e⟩ | ⟨e, n1, n0, n2, n3⟩
    · omega
    · omega
    · omega
    · omega
    · omega
    · rw [e]; exact ⟨rfl, a2⟩
    · rw [e]; exact ⟨sg0 c, a2⟩
    · omega
    · omega
/-- a settled device stays so -/
theorem set_set (h : HS s dv A B) {dn ys : Int} (hu : GU s dv A B true dn ys) {m : Ms} {D : DeP} (hm : A m) (hD : dv[m.d.toNat]? = some D) (hs : Setl s D) : Setl s (handP D m).1 := by
  have hf := hd_facts h hm hD
  obtain ⟨z1, z2⟩ := hs
  refine ⟨?_, ?_⟩
  · rcases hf.sg0 with h9 | h9 | h9
    · exact h9
    · rw [h9]; exact z1
    · have := hu.a1 rfl m hm h9.1
      exact absurd (show m.e < D.ep by omega) h9.2.2.2.2.2.1
  · have := hf.ep; have := hf.dev.ep; omega
/-- a question in the bag, one message later -/
theorem pnd_next (h : HS s dv A B) (hp : ¬ s.ph = 0) {au : Bool} {dn ys : Int} (hu : GU s dv A B au dn ys) {m : Ms} {r : List Ms} {D : DeP} (hm : A m) (hD : dv[m.d.toNat]? = some D) {d : Nat} (hd : Pnd s au dv d (m :: r)) (hdl : d < 16) :
    (∃ x, (handP D m).2 = some x ∧ Ans s au d x) ∨ Pnd s au (dv.set m.d.toNat (handP D m).1) d r := by
  obtain ⟨A1, m1, B1, e, hk, hs⟩ := hd
  cases A1 with
  | nil =>
    have e : m :: r = m1 :: B1 := e
    injection e with e1 e2
    subst e1
    have hmd : m.d.toNat = d := by have := hk.1; omega
    rw [hmd] at hD
    refine .inl (ask_ans h hp hk hD fun h1 ha => ?_)
    rcases hs h1 ha with ⟨D2, h8, h9⟩ | ⟨o, h9, _⟩
    · rw [hD] at h8; injection h8 with h8; rw [h8]; exact h9
    · cases h9
  | cons a A1 =>
    have e : m :: r = a :: (A1 ++ m1 :: B1) := e
    injection e with e1 e2
    subst e1
    refine .inr ⟨A1, m1, B1, e2, hk, fun h1 ha => ?_⟩
    have h23 : s.ph = 2 ∨ s.ph = 3 := by have := h.st.p; omega
    rcases hs h1 ha with ⟨D2, h8, h9⟩ | ⟨o, h9, h8⟩
    · left
      subst ha
      by_cases e3 : d = m.d.toNat
      · subst e3
        rw [hD] at h8; injection h8 with h8
        subst h8
        exact ⟨_, List.getElem?_set_self (List.getElem?_eq_some_iff.1 hD).1, set_set h hu hm hD h9⟩
      · exact ⟨D2, by rw [List.getElem?_set_ne (fun h => e3 h.symm)]; exact h8, h9⟩
    · rcases List.mem_cons.1 h9 with h9 | h9
      · left
        subst h9
        have hmd : o.d.toNat = d := by have := h8.1; omega
        subst hmd
        exact ⟨_, List.getElem?_set_self (List.getElem?_eq_some_iff.1 hD).1, out_set h h23 h8 hD⟩
      · exact .inr ⟨o, h9, h8⟩
end
theorem postO_keep {bag : List Ms} {o : Option Ms} (h : bag.length + 1 ≤ 160) : (∀ m, m ∈ bag → m ∈ postO bag o) ∧ (∀ m, o = some m → m ∈ postO bag o) ∧ (postO bag o).length ≤ bag.length + 1 := by
  cases o with
  | none => exact ⟨fun m hm => hm, fun m e => (by cases e), Nat.le_succ _⟩
  | some x =>
    have e : postO bag (some x) = bag ++ [x] := by
      show postP bag [x] = _
      unfold postP
      rw [show (bag ++ [x]).length - 160 = 0 by simp; omega, List.drop_zero]
    rw [e]
    exact ⟨fun m hm => List.mem_append_left _ hm, fun m e => by injection e with e; subst e; exact List.mem_append_right _ (List.mem_singleton.2 rfl), by simp⟩
theorem postP_end {bag ms : List Ms} (h : ms.length ≤ 160) : ∃ X, postP bag ms = X ++ ms := by
  unfold postP
  exact ⟨bag.drop ((bag ++ ms).length - 160), by rw [List.drop_append_of_le_length (by simp; omega)]⟩
/-- all bits are set -/
theorem bits_all {x : Int} (hx : 0 ≤ x ∧ x ≤ 65535) (h : ∀ d, d < 16 → bitIn x d = true) : x = 65535 := by
  have h1 : bv x = BitVec.allOnes 16 := by
    apply BitVec.eq_of_getLsbD_eq
    intro i hi
    rw [← bit_iff hi, h i hi, BitVec.getLsbD_allOnes]
    simp [hi]
  have h2 : (bv x).toNat = 65535 := by rw [h1]; rfl
  unfold bv at h2
  rw [BitVec.toNat_ofInt] at h2
  omega

end Go.Proofs.Qxb6500908a

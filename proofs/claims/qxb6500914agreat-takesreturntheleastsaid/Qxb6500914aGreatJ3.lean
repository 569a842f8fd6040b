import Derived.Test.Qxb6500914aGreatJ0
namespace Go.Proofs.Qxb6500914aGreat
open Go.Eng
set_option linter.unusedVariables false
set_option linter.unusedSimpArgs false

/-- what holds after every step -/
structure SG (W : WS) : Prop where
  oi : ∃ x, OI W x
  di : DI W
  ci : CI W
  sc : SC W.m.word
theorem SG.step {W : WS} (h : SG W) (hL : LW W ≤ 1000100) (t : Nat) (hb : (W.run t).isSome = true) : SG (stepW W t) := by
  obtain ⟨x, ho⟩ := h.oi
  obtain ⟨⟨k, p⟩, hx⟩ := Option.isSome_iff_exists.1 hb
  obtain ⟨e1, e2⟩ := stepW_some hx
  have hP := ho.wi.pi t _ hx
  have hm := mv hP ho.wi.mi
  exact ⟨⟨_, ho.step hL t hb⟩, h.di.step t hb, CI.step ho h.ci hL t hb, SC.step ho h.ci h.sc hx (h.di.call t _ hx).1 hm e1⟩
theorem SG.inv {W : WS} (h : SG W) (t : Nat) (ht : t < 6) (hn : W.run t = none) (kd u v : Int) : SG (invokeW W t kd u v) := by
  obtain ⟨x, ho⟩ := h.oi
  exact ⟨⟨_, ho.inv t ht hn kd u v⟩, h.di.inv t kd u v ht, h.ci.inv t kd u v, h.sc⟩
theorem start_SG {m : MS} (h : StartM m) : SG (W0 m) := by
  refine ⟨⟨_, start_OI h⟩, start_DI h, fun t y hy => (by cases hy), ?_⟩
  intro i hi
  exfalso
  have h0 : (W0 m).m.word (nd true (crN (W0 m).m.word true)) = 0 := by
    obtain ⟨st, m1, h1, h2⟩ := h
    have hc : crN m.word true = 0 := (start_words ⟨st, m1, h1, h2⟩).1 true
    show m.word (nd true (crN m.word true)) = 0
    rw [hc, h2.word, if_neg (by decide), if_neg (by decide), if_pos rfl]
  rw [h0] at hi
  omega
def Good3 (W : WS) : Prop := WI W ∧ (LW W ≤ 1000100 → SG W)
theorem Good3.step {W : WS} (h : Good3 W) (t : Nat) (hb : (W.run t).isSome = true) : Good3 (stepW W t) :=
  ⟨h.1.step t, fun hl => by rw [LW_step W t h.1] at hl; exact (h.2 hl).step hl t hb⟩
theorem Good3.inv {W : WS} (h : Good3 W) (t : Nat) (ht : t < 6) (hn : W.run t = none) (kd u v : Int) : Good3 (invokeW W t kd u v) :=
  ⟨h.1.inv t ht kd u v, fun hl => by rw [LW_inv W t kd u v ht hn] at hl; exact (h.2 (by omega)).inv t ht hn kd u v⟩

end Go.Proofs.Qxb6500914aGreat

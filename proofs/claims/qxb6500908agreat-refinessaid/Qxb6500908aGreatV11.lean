import Derived.Test.Qxb6500908aGreatV7
import Derived.Test.Qxb6500908aGreatV8
import Derived.Test.Qxb6500908aGreatV9
import Derived.Test.Qxb6500908aGreatV10
namespace Go.Proofs.Qxb6500908aGreat
open Go.Eng
set_option linter.unusedVariables false
set_option linter.unusedSimpArgs false

/-- a change within its domains -/
structure Ch.dom (c : Ch) : Prop where
  kd : 0 ≤ c.kd ∧ c.kd ≤ 5
  dv : 0 ≤ c.dv ∧ c.dv ≤ 15
  pr : 0 ≤ c.pr ∧ c.pr ≤ 15
  ix : 0 ≤ c.ix ∧ c.ix ≤ 255
  ra : 0 ≤ c.ra ∧ c.ra ≤ 255
  rl : 0 ≤ c.rl ∧ c.rl ≤ 255
  via : 0 ≤ c.via ∧ c.via ≤ 16
  da : 0 ≤ c.da ∧ c.da ≤ 255
  dl : 0 ≤ c.dl ∧ c.dl ≤ 255
  cl : 0 ≤ c.cl ∧ c.cl ≤ 255
theorem step_spec (kN : Nat) (n : NtV) (hn : NtD n) (c : Ch) (hc : c.dom) (d : DvV) (hd : n.dv[c.dv.toNat]? = some d) (RE AE : List (Nat × Obj)) (hS : DvS d RE AE) : Sp Tryz.prog 71 #[.pointer (some ⟨kN, 0, none⟩), .agg ⟨c.vals⟩] ((kN, C n.c 66) :: (RE ++ AE)) (StR kN n c.dv.toNat c) := by
  obtain ⟨kd, dv, pr, ix, up, ra, rl, via, pm, da, dl, cl⟩ := c
  obtain ⟨h1, h2, h3, h4, h5, h6, h7, h8, h9, h10⟩ := hc
  simp only at h1 h2 h3 h4 h5 h6 h7 h8 h9 h10 hd
  obtain ⟨i, rfl⟩ := Int.eq_ofNat_of_zero_le h2.1
  obtain ⟨j, rfl⟩ := Int.eq_ofNat_of_zero_le h3.1
  obtain ⟨x, rfl⟩ := Int.eq_ofNat_of_zero_le h4.1
  have hi : i < 16 := by omega
  have hj : j < 16 := by omega
  have hx : x ≤ 255 := by omega
  rcases (show kd = 0 ∨ kd = 1 ∨ kd = 2 ∨ kd = 3 ∨ kd = 4 ∨ kd = 5 by omega) with rfl | rfl | rfl | rfl | rfl | rfl
  · exact step0 kN n hn i j x hi hj hx up ra rl via pm da dl cl h5 h6 h7 h8 h9 h10 d hd RE AE hS
  · exact step1 kN n hn i j x hi hj hx up ra rl via pm da dl cl h5 h6 h7 h8 h9 h10 d hd RE AE hS
  · exact step2 kN n hn i j x hi hj hx up ra rl via pm da dl cl h5 h6 h7 h8 h9 h10 d hd RE AE hS
  · exact step3 kN n hn i j x hi hj hx up ra rl via pm da dl cl h5 h6 h7 h8 h9 h10 d hd RE AE hS
  · exact step4 kN n hn i j x hi hj hx up ra rl via pm da dl cl h5 h6 h7 h8 h9 h10 d hd RE AE hS
  · exact step5 kN n hn i j x hi hj hx up ra rl via pm da dl cl h5 h6 h7 h8 h9 h10 d hd RE AE hS
end Go.Proofs.Qxb6500908aGreat

import Derived.Test.Qxb6500912aGreatDoorZ18
namespace Go.Proofs.Qxb6500912aGreatDoor
open Go.Eng
set_option linter.unusedVariables false
set_option linter.unusedSimpArgs false

/-! ## the layer's state and the model's -/
structure RelS (s m : CS) (st : Int) : Prop where
  cf : s.init = m.init ∧ s.maxc = m.maxc ∧ s.bn = m.bn ∧ s.bd = m.bd ∧ s.abc = m.abc ∧ s.dupt = m.dupt ∧ s.idle = m.idle ∧ s.mss = m.mss
  una : s.una = seqM st m.una
  nxt : s.nxt = seqM st m.nxt
  high : s.high = seqM st m.high
  win : s.cwnd = m.cwnd ∧ s.ssth = m.ssth ∧ s.credit = m.credit ∧ s.dups = m.dups ∧ s.phase = m.phase
  fl : s.forced = m.forced ∧ s.timed = m.timed ∧ s.resc = m.resc
  rec0 : m.phase = 0 → m.recov ≤ m.una ∧ s.recov = if m.recov < m.una then (s.una - 1) % 4294967296 else s.una
  rec1 : ¬ m.phase = 0 → s.recov = seqM st m.recov ∧ m.una ≤ m.recov
theorem seq_add (st x : Int) (k : Nat) : (seqM st x + (k : Int)) % 4294967296 = seqM st (x + k) := by unfold seqM; omega
theorem RelS.flight {s m : CS} {st : Int} (h : RelS s m st) (hm : Mk m) : flightP s = m.nxt - m.una := by
  have h1 := hm.una; have h2 := hm.fl
  unfold flightP
  rw [h.una, h.nxt]
  unfold seqM
  omega
theorem less_seq {st x y : Int} (h : -2147483648 ≤ x - y ∧ x - y < 2147483648) : lessP (seqM st x) (seqM st y) = decide (x < y) := by
  have e1 : seqM st x = (st + x) % 4294967296 := by unfold seqM; omega
  have e2 : seqM st y = (st + y) % 4294967296 := by unfold seqM; omega
  rw [e1, e2]; exact lessP_off st x y h
/-- a byte that no block covers is judged alike -/
theorem lost_same {s m : CS} {st : Int} (h : RelS s m st) (hm : Mk m) {f : Nat} (hf : m.nxt - m.una = (f : Int)) {os : List Bk} (ho : BInv f os) (hl : os.length ≤ 16) {k : Nat} (hkf : k < f) (hk : ¬ Cov os k) :
    isLostP s ((s.una + (k : Int)) % 4294967296) (os.map (Bk.ab s.una)) = lsG m f (covB os) k := by
  have h1 := hm.una; have h2 := hm.fl; have h3 := hm.recov
  have hfl : f ≤ 2147483647 := by omega
  have hB := abB_le ho hk
  unfold isLostP lsG
  rw [h.win.2.2.2.2]
  by_cases c : m.phase = 2
  · rw [if_pos c, if_pos c, h.una, seq_add, (h.rec1 (by omega)).1]
    have := (h.rec1 (by omega)).2
    exact less_seq (by omega)
  · rw [if_neg c, if_neg c]
    have e := loss_fold (u := s.una) hfl hkf os ho hk 0 0 (by omega) (by omega) (by omega)
    have e2 : lossF ((s.una + (k : Int)) % 4294967296) (os.map (Bk.ab s.una)) = ((abR os k : Int), (abB os k : Int)) := by
      unfold lossF
      simpa using e
    rw [e2, cnt_cov ho hk, cnt_runs ho, h.cf.2.2.2.2.2.1, h.cf.2.2.2.2.2.2.2]

end Go.Proofs.Qxb6500912aGreatDoor

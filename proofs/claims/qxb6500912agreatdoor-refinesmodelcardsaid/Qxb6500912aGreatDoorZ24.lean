import Derived.Test.Qxb6500912aGreatDoorZ23
namespace Go.Proofs.Qxb6500912aGreatDoor
open Go.Eng
set_option linter.unusedVariables false
set_option linter.unusedSimpArgs false

/-! ## every byte is judged alike -/
set_option maxHeartbeats 1000000 in
theorem loss_fold2 {u : Int} {f k : Nat} (hf : f ≤ 2147483647) (hkf : k < f) : ∀ (os : List Bk), BInv f os → ∀ (r0 b0 : Nat), r0 + os.length ≤ 1000 → b0 + cntA (covB os) f (k + 1) ≤ 2147483647 →
    (os.map (Bk.ab u)).foldl (lostStep ((u + (k : Int)) % 4294967296)) ((r0 : Int), (b0 : Int)) = (((r0 + abR os k : Nat) : Int), ((b0 + cntA (covB os) f (k + 1) : Nat) : Int))
  | [], _, r0, b0, _, _ => by
    have : cntA (covB []) f (k + 1) = 0 := cnt_zero f (k + 1) fun j _ => rfl
    rw [this]; rfl
  | x :: os, h, r0, b0, h1, h3 => by
    have hx := h.1.1; have hxe := h.1.2
    rw [List.map_cons, List.foldl_cons]
    have e0 : cntA (covB (x :: os)) f (k + 1) = (x.e - max x.s (k + 1)) + cntA (covB os) f (k + 1) := by
      rw [cov_cons, cnt_or f (k + 1) fun j _ hj => by
        obtain ⟨z, h1, h2, _⟩ := covB_iff.1 hj.2
        have h3 := of_decide_eq_true hj.1
        have := h.2.1 z h1
        omega, cnt_int, show min x.e f = x.e by omega]
    have e1 : lessP ((u + (k : Int)) % 4294967296) (x.ab u).1 = decide (k < x.s) := less_b (by omega) x.h
    have e2 : lessP (((u + (k : Int)) % 4294967296 + 1) % 4294967296) (x.ab u).2 = decide (k + 1 < x.e) := by
      have : ((u + (k : Int)) % 4294967296 + 1) % 4294967296 = (u + ((k + 1 : Nat) : Int)) % 4294967296 := by omega
      rw [this]; exact less_b (x := k + 1) (y := x.e) (by omega) (by omega)
    have hlen : (x :: os).length = os.length + 1 := rfl
    rw [hlen] at h1
    rw [e0] at h3 ⊢
    by_cases c : k < x.s
    · have e4 : abR (x :: os) k = abR os k + 1 := by unfold abR; rw [List.filter_cons, if_pos (decide_eq_true c), List.length_cons]
      have e5 : lostStep ((u + (k : Int)) % 4294967296) ((r0 : Int), (b0 : Int)) (x.ab u) = (((r0 + 1 : Nat) : Int), ((b0 + (x.e - max x.s (k + 1)) : Nat) : Int)) := by
        unfold lostStep
        rw [e1, if_pos (decide_eq_true c)]
        have e6 : ((x.ab u).2 - (x.ab u).1) % 4294967296 = ((x.e - x.s : Nat) : Int) := by unfold Bk.ab; simp only; omega
        rw [e6]
        congr 1
        · simp only; omega
        · simp only; omega
      rw [e5, loss_fold2 hf hkf os h.2.2 (r0 + 1) (b0 + (x.e - max x.s (k + 1))) (by omega) (by omega), e4]
      congr 1 <;> congr 1 <;> omega
    · have e4 : abR (x :: os) k = abR os k := by unfold abR; rw [List.filter_cons, if_neg (by simp; omega)]
      have e5 : lostStep ((u + (k : Int)) % 4294967296) ((r0 : Int), (b0 : Int)) (x.ab u) = ((r0 : Int), ((b0 + (x.e - max x.s (k + 1)) : Nat) : Int)) := by
        unfold lostStep
        rw [e1, e2, if_neg (by simp; omega)]
        by_cases c2 : k + 1 < x.e
        · rw [if_pos (decide_eq_true c2)]
          have e6 : ((x.ab u).2 - ((u + (k : Int)) % 4294967296 + 1) % 4294967296) % 4294967296 = ((x.e - (k + 1) : Nat) : Int) := by unfold Bk.ab; simp only; omega
          rw [e6]
          congr 1
          simp only; omega
        · rw [if_neg (by simp; omega)]
          congr 1
          omega
      rw [e5, loss_fold2 hf hkf os h.2.2 r0 (b0 + (x.e - max x.s (k + 1))) (by omega) (by omega), e4]
      congr 2
      omega
theorem lost_same2 {s m : CS} {st : Int} (h : RelS s m st) (hm : Mk m) {f : Nat} (hf : m.nxt - m.una = (f : Int)) {os : List Bk} (ho : BInv f os) (hl : os.length ≤ 16) {k : Nat} (hkf : k < f) :
    isLostP s ((s.una + (k : Int)) % 4294967296) (os.map (Bk.ab s.una)) = lsG m f (covB os) k := by
  have h1 := hm.una; have h2 := hm.fl; have h3 := hm.recov
  have hfl : f ≤ 2147483647 := by omega
  have hB := cnt_le (covB os) f (k + 1)
  unfold isLostP lsG
  rw [h.win.2.2.2.2]
  by_cases c : m.phase = 2
  · rw [if_pos c, if_pos c, h.una, seq_add, (h.rec1 (by omega)).1]
    have := (h.rec1 (by omega)).2
    exact less_seq (by omega)
  · rw [if_neg c, if_neg c]
    have e := loss_fold2 (u := s.una) hfl hkf os ho 0 0 (by omega) (by omega)
    have e2 : lossF ((s.una + (k : Int)) % 4294967296) (os.map (Bk.ab s.una)) = ((abR os k : Int), (cntA (covB os) f (k + 1) : Int)) := by
      unfold lossF
      simpa using e
    rw [e2, cnt_runs ho, h.cf.2.2.2.2.2.1, h.cf.2.2.2.2.2.2.2]
/-! ## the steps keep the two alike -/
theorem less_pred {x : Int} (hx : U x) : lessP ((x - 1) % 4294967296) x = true ∧ lessP x x = false := by
  have e1 : x = (x + 0) % 4294967296 := by omega
  have a := lessP_off x (-1) 0 (by omega)
  have b := lessP_off x 0 0 (by omega)
  rw [← e1] at a b
  rw [show x + -1 = x - 1 by omega] at a
  exact ⟨a, b⟩
section keep
variable {s m : CS} {st : Int}
theorem RelS.recU (h : RelS s m st) (hU : U s.una) (h0 : m.phase = 0) : lessP s.recov s.una = decide (m.recov < m.una) := by
  obtain ⟨_, h2⟩ := h.rec0 h0
  rw [h2]
  by_cases c : m.recov < m.una
  · rw [if_pos c, (less_pred hU).1, decide_eq_true c]
  · rw [if_neg c, (less_pred hU).2, decide_eq_false c]
theorem seq_U (st x : Int) : U (seqM st x) := by unfold seqM; exact ⟨by omega, by omega⟩
theorem seq_addI (st x d : Int) : (seqM st x + d) % 4294967296 = seqM st (x + d) := by unfold seqM; omega
theorem seq_inj {st x y : Int} (h : -4294967296 < x - y ∧ x - y < 4294967296) : seqM st x = seqM st y ↔ x = y := by unfold seqM; omega
theorem sent_same (h : RelS s m st) (hm : Mk m) {k d n : Int} (hd : -2147483648 ≤ d ∧ d < 2147483648) (hn : U n) : RelS (sentP s k ((s.una + d) % 4294967296) n) (sentM m k (m.una + d) n) st := by
  have h1 := hm.una; have h2 := hm.fl; have h3 := hm.high
  have hfl := h.flight hm
  have hq : (s.una + d) % 4294967296 = seqM st (m.una + d) := by rw [h.una, seq_addI]
  have hat : ((s.una + d) % 4294967296 - s.una) % 4294967296 = d % 4294967296 := by omega
  by_cases k1 : k = 1
  · have e1 : ((s.una + d) % 4294967296 = s.nxt) ↔ m.una + d = m.nxt := by rw [hq, h.nxt]; exact seq_inj (by omega)
    by_cases c : m.una + d = m.nxt ∧ m.nxt - m.una + n ≤ 2147483647
    · rw [sentP_1 k1 (e1.2 c.1) (by rw [hfl]; omega), (sent_1 (st := st) (bn := 0) ⟨k1, c.1, c.2⟩).1]
      exact ⟨h.cf, h.una, by show (s.nxt + n) % 4294967296 = _; rw [h.nxt, seq_addI], h.high, h.win, h.fl, h.rec0, h.rec1⟩
    · have e2 : sentP s k ((s.una + d) % 4294967296) n = s := by
        by_cases c1 : m.una + d = m.nxt
        · exact sentP_2 k1 (by rw [hfl]; omega)
        · exact sentP_3 k1 fun h9 => c1 (e1.1 h9)
      rw [e2, (sent_4 (st := st) (bn := 0) (fun h9 => c h9.2) (by omega) (by omega)).1]
      exact h
  · by_cases c : inF m (m.una + d) n
    · have c' := c
      unfold inF at c'
      have hd0 : d % 4294967296 = d := by omega
      have g1 : ((s.una + d) % 4294967296 - s.una) % 4294967296 < flightP s := by rw [hat, hfl]; omega
      have g2 : n ≤ flightP s - ((s.una + d) % 4294967296 - s.una) % 4294967296 := by rw [hat, hfl]; omega
      by_cases k3 : k = 3
      · rw [sentP_7 (by omega) g1 g2 k3, (sent_2 (st := st) (bn := 0) k3 c).1]
        exact ⟨h.cf, h.una, h.nxt, h.high, h.win, ⟨h.fl.1, h.fl.2.1, rfl⟩, h.rec0, h.rec1⟩
      · by_cases k2 : k = 2
        · rw [sentP_8 (by omega) g1 g2 k2, (sent_3 (st := st) (bn := 0) k2 c).1, hat, hd0]
          have ee : ((s.una + d) % 4294967296 + n) % 4294967296 = seqM st (m.una + d + n) := by rw [hq, seq_addI]
          rw [ee]
          have hls : lessP s.high (seqM st (m.una + d + n)) = decide (m.high < m.una + d + n) := by rw [h.high]; exact less_seq (by omega)
          have key : ∀ (b : Bool), RelS { s with forced := b, high := if m.high < m.una + d + n then seqM st (m.una + d + n) else s.high } { m with forced := b, high := max m.high (m.una + d + n) } st := fun b => by
            refine ⟨h.cf, h.una, h.nxt, ?_, h.win, ⟨rfl, h.fl.2⟩, h.rec0, h.rec1⟩
            show (if m.high < m.una + d + n then seqM st (m.una + d + n) else s.high) = seqM st (max m.high (m.una + d + n))
            split
            · rw [show max m.high (m.una + d + n) = m.una + d + n by omega]
            · rw [show max m.high (m.una + d + n) = m.high by omega]; exact h.high
          by_cases d0 : d = 0
          · have kk := key false
            rw [if_pos (by omega)]
            by_cases c2 : m.high < m.una + d + n
            · rw [rexP_1 d0 (by rw [hls, decide_eq_true c2])]
              rw [if_pos c2] at kk; exact kk
            · rw [rexP_2 d0 (by rw [hls, decide_eq_false c2])]
              rw [if_neg c2] at kk; exact kk
          · have kk := key m.forced
            rw [if_neg (by omega)]
            by_cases c2 : m.high < m.una + d + n
            · rw [rexP_3 d0 (by rw [hls, decide_eq_true c2])]
              rw [if_pos c2, ← h.fl.1] at kk; rw [← h.fl.1]; exact kk
            · rw [rexP_4 d0 (by rw [hls, decide_eq_false c2])]
              rw [if_neg c2, ← h.fl.1] at kk; rw [← h.fl.1]; exact kk
        · rw [sentP_9 k1 k2 k3, (sent_4 (st := st) (bn := 0) (by omega) (by omega) (by omega)).1]
          exact h
    · have e2 : sentP s k ((s.una + d) % 4294967296) n = s := by
        unfold inF at c
        by_cases n0 : n = 0
        · exact sentP_4 k1 n0
        · by_cases c1 : flightP s ≤ ((s.una + d) % 4294967296 - s.una) % 4294967296
          · exact sentP_5 k1 c1
          · refine sentP_6 k1 ?_
            rw [hat, hfl] at c1 ⊢
            omega
      rw [e2, (sent_4 (st := st) (bn := 0) (by omega) (fun h9 => c h9.2) (fun h9 => c h9.2)).1]
      exact h
theorem rto_same (h : RelS s m st) (hm : Mk m) : RelS (rtoP s) (rtoM m) st := by
  have hfl := h.flight hm; have hu := hm.una
  obtain ⟨c1, c2, c3, c4, c5, c6, c7, c8⟩ := h.cf
  by_cases c : m.nxt = m.una
  · rw [rtoP_1 (by rw [hfl]; omega), rto_0 c]; exact h
  · cases ht : m.timed with
    | true =>
      rw [rtoP_2 (by rw [hfl]; omega) (by rw [h.fl.2.1, ht]), rto_2 c ht]
      exact ⟨h.cf, h.una, h.nxt, h.una, ⟨c8, h.win.2.1, rfl, rfl, rfl⟩, ⟨rfl, rfl, h.fl.2.2⟩, fun h9 => absurd h9 (show ¬ (2 : Int) = 0 by decide), fun _ => ⟨h.nxt, hu.2⟩⟩
    | false =>
      rw [rtoP_3 (by rw [hfl]; omega) (by rw [h.fl.2.1, ht]), rto_1 c ht]
      refine ⟨h.cf, h.una, h.nxt, h.una, ⟨c8, ?_, rfl, rfl, rfl⟩, ⟨rfl, rfl, h.fl.2.2⟩, fun h9 => absurd h9 (show ¬ (2 : Int) = 0 by decide), fun _ => ⟨h.nxt, hu.2⟩⟩
      show cutV (flightP s) s.bn s.bd s.mss s.maxc = cutV (m.nxt - m.una) m.bn m.bd m.mss m.maxc
      rw [hfl, c2, c3, c4, c8]
theorem initW_same (h : RelS s m st) : initW s = initW m := by
  obtain ⟨c1, c2, c3, c4, c5, c6, c7, c8⟩ := h.cf
  unfold initW segP
  rw [c1, c2, c8]
theorem idle_same (h : RelS s m st) (hm : Mk m) : RelS (idleP s) (idleM m) st := by
  have hfl := h.flight hm; have hu := hm.una
  obtain ⟨c1, c2, c3, c4, c5, c6, c7, c8⟩ := h.cf
  by_cases c : m.idle = true ∧ m.nxt = m.una
  · rw [idleP_1 (by rw [c7]; exact c.1) (by rw [hfl]; omega), idle_1 c]
    exact ⟨h.cf, h.una, h.nxt, h.high, ⟨by show min s.cwnd (initW s) = min m.cwnd (initW m); rw [h.win.1, initW_same h], h.win.2.1, rfl, h.win.2.2.2⟩, h.fl, h.rec0, h.rec1⟩
  · have e : idleP s = s := by
      unfold idleP
      rw [if_neg fun h9 => c ⟨by rw [← c7]; exact h9.1, by have := h9.2; rw [hfl] at this; omega⟩]
    rw [e, idle_2 c]; exact h
/-! acknowledgements -/
theorem bnd_same (h : RelS s m st) (hm : Mk m) (x : Int) : min (max x s.mss) s.maxc = bndP m x := by
  obtain ⟨c1, c2, c3, c4, c5, c6, c7, c8⟩ := h.cf
  rw [bnd_eq hm.toCf, c2, c8]
/-- all but 'recover' -/
structure RelX (s m : CS) (st : Int) : Prop where
  cf : s.init = m.init ∧ s.maxc = m.maxc ∧ s.bn = m.bn ∧ s.bd = m.bd ∧ s.abc = m.abc ∧ s.dupt = m.dupt ∧ s.idle = m.idle ∧ s.mss = m.mss
  una : s.una = seqM st m.una
  nxt : s.nxt = seqM st m.nxt
  high : s.high = seqM st m.high
  win : s.cwnd = m.cwnd ∧ s.ssth = m.ssth ∧ s.credit = m.credit ∧ s.dups = m.dups ∧ s.phase = m.phase
  fl : s.forced = m.forced ∧ s.timed = m.timed ∧ s.resc = m.resc
theorem bnd_x (h : RelX s m st) (hc : Cf m) (x : Int) : min (max x s.mss) s.maxc = bndP m x := by
  obtain ⟨c1, c2, c3, c4, c5, c6, c7, c8⟩ := h.cf
  rw [bnd_eq hc, c2, c8]
theorem adv1_x (h : RelS s m st) (hm : Mk m) {d : Int} (hd : 0 ≤ d ∧ d ≤ m.nxt - m.una) : RelX (adv1 s (seqM st (m.una + d))) (adv0 m (m.una + d)) st ∧ (adv1 s (seqM st (m.una + d))).recov = s.recov := by
  have h1 := hm.una; have h2 := hm.fl; have h3 := hm.high
  have hls : lessP s.high (seqM st (m.una + d)) = decide (m.high < m.una + d) := by rw [h.high]; exact less_seq (by omega)
  by_cases c : m.high < m.una + d
  · rw [adv1_1 (by rw [hls, decide_eq_true c])]
    refine ⟨⟨h.cf, rfl, h.nxt, ?_, ⟨h.win.1, h.win.2.1, h.win.2.2.1, rfl, h.win.2.2.2.2⟩, ⟨rfl, rfl, h.fl.2.2⟩⟩, rfl⟩
    show seqM st (m.una + d) = seqM st (max m.high (m.una + d))
    rw [show max m.high (m.una + d) = m.una + d by omega]
  · rw [adv1_2 (by rw [hls, decide_eq_false c])]
    refine ⟨⟨h.cf, rfl, h.nxt, ?_, ⟨h.win.1, h.win.2.1, h.win.2.2.1, rfl, h.win.2.2.2.2⟩, ⟨rfl, rfl, h.fl.2.2⟩⟩, rfl⟩
    show s.high = seqM st (max m.high (m.una + d))
    rw [show max m.high (m.una + d) = m.high by omega]; exact h.high
theorem grow_x (h : RelX s m st) (hc : Cf m) (hw : m.cwnd ≤ m.maxc) (hcr : 0 ≤ m.credit ∧ m.credit ≤ 1073741824) {d : Int} (hd : 0 ≤ d ∧ d ≤ 2147483647) : RelX (growP s d) (openM m d) st ∧ (growP s d).recov = s.recov := by
  have o1 := hc.abc; have o2 := hc.mss; have o3 := hc.maxc
  obtain ⟨c1, c2, c3, c4, c5, c6, c7, c8⟩ := h.cf
  obtain ⟨w1, w2, w3, w4, w5⟩ := h.win
  by_cases c : m.cwnd < m.ssth
  · rw [growP_1 (by rw [w1, w2]; exact c), open_1 c]
    exact ⟨⟨h.cf, h.una, h.nxt, h.high, ⟨by show min (max (s.cwnd + min d (s.abc * s.mss)) s.mss) s.maxc = _; rw [bnd_x h hc, w1, c5, c8], w2, w3, w4, w5⟩, h.fl⟩, rfl⟩
  · have ec : (s.credit + d) % 4294967296 = m.credit + d := by rw [w3]; omega
    rw [growP_2 (by rw [w1, w2]; omega)]
    by_cases c2 : m.cwnd ≤ m.credit + d
    · rw [growM_1 (by rw [ec, w1]; exact c2), open_2 c c2]
      refine ⟨⟨h.cf, h.una, h.nxt, h.high, ⟨by show min (max (s.cwnd + s.mss) s.mss) s.maxc = _; rw [bnd_x h hc, w1, c8], w2, ?_, w4, w5⟩, h.fl⟩, rfl⟩
      show min ((s.credit + d) % 4294967296 - s.cwnd) (min (max (s.cwnd + s.mss) s.mss) s.maxc) = min (m.credit + d - m.cwnd) (bndP m (m.cwnd + m.mss))
      rw [ec, bnd_x h hc, w1, c8]
    · rw [growM_2 (by rw [ec, w1]; omega), open_3 c c2]
      refine ⟨⟨h.cf, h.una, h.nxt, h.high, ⟨w1, w2, ?_, w4, w5⟩, h.fl⟩, rfl⟩
      show min ((s.credit + d) % 4294967296) s.cwnd = min (m.credit + d) m.cwnd
      rw [ec, w1]
/-- back to the whole relation: in the open phase 'recover' is guarded -/
theorem guard_same (h : RelX s m st) (hp : m.phase = 0) (hr : m.recov ≤ m.una) (hl : lessP s.recov s.una = decide (m.recov < m.una)) (he : m.recov = m.una → s.recov = s.una) : RelS (guardP s) m st := by
  have hp2 : s.phase = 0 := by rw [h.win.2.2.2.2]; exact hp
  by_cases c : m.recov < m.una
  · rw [guardP_1 hp2 (by rw [hl, decide_eq_true c])]
    exact ⟨h.cf, h.una, h.nxt, h.high, h.win, h.fl, fun _ => ⟨hr, by rw [if_pos c]⟩, fun h9 => absurd hp h9⟩
  · rw [guardP_2 (by rw [hl, decide_eq_false c])]
    exact ⟨h.cf, h.una, h.nxt, h.high, h.win, h.fl, fun _ => ⟨hr, by rw [if_neg c]; exact he (by omega)⟩, fun h9 => absurd hp h9⟩
theorem guard_same1 (h : RelX s m st) (hp : ¬ m.phase = 0) (hr : s.recov = seqM st m.recov) (hu : m.una ≤ m.recov) : RelS (guardP s) m st := by
  rw [guardP_3 (by rw [h.win.2.2.2.2]; exact hp)]
  exact ⟨h.cf, h.una, h.nxt, h.high, h.win, h.fl, fun h9 => absurd h9 hp, fun _ => ⟨hr, hu⟩⟩
theorem open_f {s : CS} {k : Int} : (openM s k).recov = s.recov ∧ (openM s k).una = s.una ∧ (openM s k).phase = s.phase ∧ (openM s k).nxt = s.nxt := by
  unfold openM; split
  · exact ⟨rfl, rfl, rfl, rfl⟩
  · split <;> exact ⟨rfl, rfl, rfl, rfl⟩
theorem adv_same (h : RelS s m st) (hm : Mk m) (hcr : m.credit ≤ 1073741824) (sk : Bool) {d : Int} (hd : 0 < d ∧ d ≤ m.nxt - m.una) : RelS (advP s (!sk) (seqM st (m.una + d)) d) (advM m sk (m.una + d)) st := by
  have h1 := hm.una; have h2 := hm.fl; have h3 := hm.high; have h4 := hm.recov; have hcr0 := hm.credit; have hw := hm.cwnd
  have hcf : Cf (adv0 m (m.una + d)) := ⟨hm.init, hm.maxc, hm.bn, hm.bd, hm.abc, hm.dupt, hm.mss⟩
  obtain ⟨x0, r0⟩ := adv1_x h hm (d := d) (by omega)
  have hgx := grow_x x0 hcf hw.2 ⟨hcr0.1, hcr⟩ (d := d) (by omega)
  obtain ⟨c1, c2, c3, c4, c5, c6, c7, c8⟩ := x0.cf
  obtain ⟨w1, w2, w3, w4, w5⟩ := x0.win
  have hp1 : (adv1 s (seqM st (m.una + d))).phase = m.phase := w5
  have hun1 : (adv1 s (seqM st (m.una + d))).una = seqM st (m.una + d) := x0.una
  have hls : ¬ m.phase = 0 → lessP (seqM st (m.una + d)) s.recov = decide (m.una + d < m.recov) := fun hp => by
    obtain ⟨e1, e2⟩ := h.rec1 hp
    rw [e1]; exact less_seq (by omega)
  unfold advP
  have hao : m.una + d - m.una = d := by omega
  by_cases p0 : m.phase = 0
  · rw [adv2_1 (by rw [hp1]; exact p0), adv_0 p0, hao]
    obtain ⟨e1, e2⟩ := h.rec0 p0
    have hlt : (openM (adv0 m (m.una + d)) d).recov < (openM (adv0 m (m.una + d)) d).una := by rw [open_f.1, open_f.2.1]; show m.recov < m.una + d; omega
    refine guard_same hgx.1 (by rw [open_f.2.2.1]; exact p0) (by omega) ?_ (fun h9 => by omega)
    rw [hgx.2, r0, (growP_un d).1, hun1, decide_eq_true hlt, e2, h.una]
    by_cases c : m.recov < m.una
    · rw [if_pos c, show (seqM st m.una - 1) % 4294967296 = seqM st (m.una - 1) by unfold seqM; omega, less_seq (by omega)]
      exact decide_eq_true (by omega)
    · rw [if_neg c, less_seq (by omega)]
      exact decide_eq_true (by omega)
  · obtain ⟨e1, e2⟩ := h.rec1 p0
    have hl := hls p0
    have hr1 : lessP (seqM st (m.una + d)) (adv1 s (seqM st (m.una + d))).recov = decide (m.una + d < m.recov) := by rw [r0]; exact hl
    have hback : m.recov ≤ m.una + d → lessP (seqM st m.recov) (seqM st (m.una + d)) = decide (m.recov < m.una + d) := fun h9 => less_seq (by omega)
    by_cases p2 : m.phase = 2
    · by_cases c : m.recov ≤ m.una + d
      · rw [adv2_3 (by rw [hp1]; exact p2) (by rw [hr1]; exact decide_eq_false (by omega)), adv_2a p2 c, hao]
        refine guard_same (m := { openM (adv0 m (m.una + d)) d with phase := 0 }) (s := { growP (adv1 s (seqM st (m.una + d))) d with phase := 0 }) ⟨hgx.1.cf, hgx.1.una, hgx.1.nxt, hgx.1.high, ⟨hgx.1.win.1, hgx.1.win.2.1, hgx.1.win.2.2.1, hgx.1.win.2.2.2.1, rfl⟩, hgx.1.fl⟩ rfl (by show (openM _ _).recov ≤ (openM _ _).una; rw [open_f.1, open_f.2.1]; exact c) ?_ (fun h9 => ?_)
        · show lessP (growP _ _).recov (growP _ _).una = decide ((openM _ _).recov < (openM _ _).una)
          rw [hgx.2, r0, (growP_un d).1, hun1, open_f.1, open_f.2.1, e1]
          exact hback c
        · show (growP _ _).recov = (growP _ _).una
          rw [hgx.2, r0, (growP_un d).1, hun1, e1]
          have h8 : (openM (adv0 m (m.una + d)) d).recov = (openM (adv0 m (m.una + d)) d).una := h9
          rw [open_f.1, open_f.2.1] at h8
          exact congrArg (seqM st) h8
      · rw [adv2_2 (by rw [hp1]; exact p2) (by rw [hr1]; exact decide_eq_true (by omega)), adv_2b p2 c, hao]
        exact guard_same1 hgx.1 (by rw [open_f.2.2.1]; exact p0) (by rw [hgx.2, r0, open_f.1]; exact e1) (by rw [open_f.1, open_f.2.1]; show m.una + d ≤ m.recov; omega)
    · have p1 : m.phase = 1 := by have := hm.phase; omega
      by_cases c : m.recov ≤ m.una + d
      · rw [adv2_4 (by rw [hp1]; exact p1) (by rw [hr1]; exact decide_eq_false (by omega)), adv_1a p0 p2 c]
        have hrc : (leaveP (adv1 s (seqM st (m.una + d))) (!sk)).recov = s.recov ∧ (leaveP (adv1 s (seqM st (m.una + d))) (!sk)).una = seqM st (m.una + d) := ⟨by rw [← r0]; unfold leaveP; split <;> rfl, leaveP_un.1.trans hun1⟩
        refine guard_same ?_ rfl c ?_ (fun h9 => ?_)
        · cases sk with
          | true =>
            rw [leaveP_2 (ns := !true) rfl]
            exact ⟨x0.cf, x0.una, x0.nxt, x0.high, ⟨w1, w2, rfl, w4, rfl⟩, x0.fl⟩
          | false =>
            rw [leaveP_1 (ns := !false) rfl]
            refine ⟨x0.cf, x0.una, x0.nxt, x0.high, ⟨?_, w2, rfl, w4, rfl⟩, x0.fl⟩
            have hfl1 : flightP (adv1 s (seqM st (m.una + d))) = m.nxt - (m.una + d) := by
              unfold flightP; rw [hun1, adv1_un.2, h.nxt]; unfold seqM; omega
            show min (max (min (adv1 s (seqM st (m.una + d))).ssth (max (flightP (adv1 s (seqM st (m.una + d)))) (adv1 s (seqM st (m.una + d))).mss + (adv1 s (seqM st (m.una + d))).mss)) (adv1 s (seqM st (m.una + d))).mss) (adv1 s (seqM st (m.una + d))).maxc = bndP m (min m.ssth (max (m.nxt - (m.una + d)) m.mss + m.mss))
            rw [bnd_x x0 hcf, hfl1, w2, c8]
            rfl
        · rw [hrc.1, hrc.2, e1]
          exact hback c
        · rw [hrc.1, hrc.2, e1]
          exact congrArg (seqM st) (show m.recov = m.una + d from h9)
      · cases sk with
        | true =>
          rw [adv2_6 (ns := !true) (by rw [hp1]; exact p1) (by rw [hr1]; exact decide_eq_true (by omega)) rfl, adv_1c p0 p2 c (by decide)]
          exact guard_same1 x0 p0 (by rw [r0]; exact e1) (by show m.una + d ≤ m.recov; omega)
        | false =>
          rw [adv2_5 (ns := !false) (by rw [hp1]; exact p1) (by rw [hr1]; exact decide_eq_true (by omega)) rfl, adv_1b p0 p2 c rfl]
          refine guard_same1 (s := partP (adv1 s (seqM st (m.una + d))) d) ⟨x0.cf, x0.una, x0.nxt, x0.high, ⟨?_, w2, w3, w4, w5⟩, ⟨rfl, x0.fl.2⟩⟩ p0 (by show (adv1 s (seqM st (m.una + d))).recov = _; rw [r0]; exact e1) (by show m.una + d ≤ m.recov; omega)
          show min (max (partX (adv1 s (seqM st (m.una + d))) d) (adv1 s (seqM st (m.una + d))).mss) (adv1 s (seqM st (m.una + d))).maxc = bndP m (m.cwnd - (m.una + d - m.una) + (if m.mss ≤ m.una + d - m.una then m.mss else 0))
          have hms := hm.mss; have hmx := hm.maxc
          have c8' : (adv1 s (seqM st (m.una + d))).mss = m.mss := c8
          have c2' : (adv1 s (seqM st (m.una + d))).maxc = m.maxc := c2
          have w1' : (adv1 s (seqM st (m.una + d))).cwnd = m.cwnd := w1
          unfold partX
          rw [c8', c2', w1', hao, bnd_eq hm.toCf]
          by_cases c9 : m.mss ≤ d
          · rw [if_pos c9, if_pos c9]; omega
          · rw [if_neg c9, if_neg c9]; omega
theorem dup_same (h : RelS s m st) (hm : Mk m) (hU : U s.una) (hdp : m.dups + 1 < 4294967296) {sk lu : Bool} {bl : List (Int × Int)} (hlu : sk = true → isLostP s s.una bl = lu) : RelS (dupP s (!sk) bl) (dupM m sk lu) st := by
  have hfl := h.flight hm; have hu := hm.una; have hd0 := hm.dups
  obtain ⟨c1, c2, c3, c4, c5, c6, c7, c8⟩ := h.cf
  obtain ⟨w1, w2, w3, w4, w5⟩ := h.win
  have ed : (s.dups + 1) % 4294967296 = m.dups + 1 := by rw [w4]; omega
  have base : RelS { s with dups := (s.dups + 1) % 4294967296 } { m with dups := m.dups + 1 } st := ⟨h.cf, h.una, h.nxt, h.high, ⟨w1, w2, w3, ed, w5⟩, h.fl, h.rec0, h.rec1⟩
  by_cases p1 : m.phase = 1 ∧ sk = false
  · rw [dupP_1 (by rw [w5]; exact p1.1) (by rw [p1.2]; rfl), dup_1 p1.1 p1.2]
    exact ⟨h.cf, h.una, h.nxt, h.high, ⟨by show min (max (s.cwnd + s.mss) s.mss) s.maxc = _; rw [bnd_same h hm, w1, c8], w2, w3, ed, w5⟩, h.fl, h.rec0, h.rec1⟩
  · by_cases p0 : m.phase = 0
    · have hsig : lossP { s with dups := (s.dups + 1) % 4294967296 } (!sk) bl = true ↔ sigM m sk lu := by
        have e1 : lossP { s with dups := (s.dups + 1) % 4294967296 } (!sk) bl = (if (!sk) = true then decide (m.dupt ≤ m.dups + 1) && lessP s.recov s.una else decide (m.dupt ≤ m.dups + 1) || isLostP s s.una bl) := by
          show (if (!sk) = true then decide (s.dupt ≤ (s.dups + 1) % 4294967296) && lessP s.recov s.una else decide (s.dupt ≤ (s.dups + 1) % 4294967296) || isLostP s s.una bl) = _
          rw [ed, c6]
        rw [e1]
        unfold sigM
        cases sk with
        | false =>
          rw [h.recU hU p0]
          simp
        | true =>
          rw [hlu rfl]
          simp
      by_cases c : sigM m sk lu
      · rw [dupP_2 (by rw [w5]; exact p0) (hsig.2 c), dup_3 p0 c]
        have ecut : cutV (flightP s) s.bn s.bd s.mss s.maxc = cutV (m.nxt - m.una) m.bn m.bd m.mss m.maxc := by rw [hfl, c2, c3, c4, c8]
        refine ⟨h.cf, h.una, h.nxt, h.una, ⟨?_, ecut, rfl, ed, rfl⟩, ⟨rfl, h.fl.2.1, rfl⟩, fun h9 => absurd h9 (show ¬ (1 : Int) = 0 by decide), fun _ => ⟨h.nxt, hu.2⟩⟩
        show min (max (entX (cutP { s with dups := (s.dups + 1) % 4294967296 }) (!sk)) s.mss) s.maxc = if sk = true then bndP { m with dups := m.dups + 1 } (cutV (m.nxt - m.una) m.bn m.bd m.mss m.maxc) else bndP { m with dups := m.dups + 1 } (cutV (m.nxt - m.una) m.bn m.bd m.mss m.maxc + m.dupt * m.mss)
        rw [bnd_same h hm]
        cases sk with
        | true =>
          rw [← entX_2 (ns := !true) rfl, if_pos rfl]
          show bndP m (cutV (flightP s) s.bn s.bd s.mss s.maxc) = _
          rw [ecut]; rfl
        | false =>
          rw [← entX_1 (ns := !false) rfl, if_neg (by decide)]
          show bndP m (cutV (flightP s) s.bn s.bd s.mss s.maxc + s.dupt * s.mss) = _
          rw [ecut, c6, c8]; rfl
      · have hsf : lossP { s with dups := (s.dups + 1) % 4294967296 } (!sk) bl = false := by
          cases hq : lossP { s with dups := (s.dups + 1) % 4294967296 } (!sk) bl with
          | false => rfl
          | true => exact absurd (hsig.1 hq) c
        rw [dupP_3 (by rw [w5]; exact p0) hsf, dup_4 p0 c]
        exact base
    · have e : dupP s (!sk) bl = { s with dups := (s.dups + 1) % 4294967296 } := by
        unfold dupP
        rw [if_neg, if_neg]
        · rintro ⟨h9, _⟩; rw [w5] at h9; exact p0 h9
        · rintro ⟨h9, h8⟩; rw [w5] at h9; exact p1 ⟨h9, by cases sk <;> simp_all⟩
      rw [e, dup_2 p1 p0]
      exact base
/-- an acknowledgement -/
theorem ack_same (h : RelS s m st) (hm : Mk m) (hU : U s.una) (hcr : m.credit ≤ 1073741824) (hdp : m.dups + 1 < 4294967296) {sk lu dup : Bool} {bl : List (Int × Int)} {d : Int} (hd : -2147483648 ≤ d ∧ d < 2147483648) (hlu : d = 0 → sk = true → 0 < m.nxt - m.una → isLostP s s.una bl = lu) :
    RelS (ackP s (!sk) ((s.una + d) % 4294967296) dup bl) (ackM m sk (m.una + d) dup lu) st := by
  have h1 := hm.una; have h2 := hm.fl
  have hfl := h.flight hm
  have hq : (s.una + d) % 4294967296 = seqM st (m.una + d) := by rw [h.una, seq_addI]
  have hat : ((s.una + d) % 4294967296 - s.una) % 4294967296 = d % 4294967296 := by omega
  by_cases c : m.una + d < m.una ∨ m.nxt < m.una + d
  · rw [ackP_1 (by rw [hat, hfl]; omega), ack_out c]; exact h
  · have hd0 : d % 4294967296 = d := by omega
    by_cases c2 : d = 0
    · subst c2
      by_cases c3 : dup = true ∧ ¬ m.nxt = m.una
      · rw [ackP_3 (by rw [hat]; omega) c3.1 (by rw [hfl]; omega), ack_dup c (by omega) c3.1 c3.2]
        exact dup_same h hm hU hdp fun h9 => hlu rfl h9 (by omega)
      · have e : ackP s (!sk) ((s.una + 0) % 4294967296) dup bl = s := by
          cases hdup : dup with
          | false => exact ackP_5 (by rw [hat]; omega) rfl
          | true => exact ackP_4 (by rw [hat]; omega) (by rw [hfl]; have : m.nxt = m.una := Decidable.of_not_not fun h9 => c3 ⟨hdup, h9⟩; omega)
        rw [e, ack_no c (by omega) (by cases hdup : dup with | false => exact .inl rfl | true => exact .inr (Decidable.of_not_not fun h9 => c3 ⟨hdup, h9⟩))]
        exact h
    · rw [ackP_2 (by rw [hat, hfl]; omega) (by rw [hat]; omega), ack_adv c (by omega), hat, hd0, hq]
      exact adv_same h hm hcr sk (by omega)
end keep

end Go.Proofs.Qxb6500912aGreatDoor

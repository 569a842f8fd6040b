import Derived.Test.Qxb6500912aGreatDoorZ26
namespace Go.Proofs.Qxb6500912aGreatDoor
open Go.Eng
set_option linter.unusedVariables false
set_option linter.unusedSimpArgs false

/-! ## the model's bounds are kept -/
theorem zc : (0 : Int) ≤ 0 ∧ (0 : Int) ≤ 4611686018427387904 := ⟨by decide, by decide⟩
theorem zd : (0 : Int) ≤ 0 ∧ (0 : Int) ≤ 1152921504606846976 := ⟨by decide, by decide⟩
theorem zr : (0 : Int) ≤ 1073741824 := by decide
theorem zm : (-1 : Int) ≤ -1 ∧ (-1 : Int) ≤ 0 := ⟨by decide, by decide⟩
theorem zn : (0 : Int) ≤ 1152921504606846976 := by decide
theorem zf : (0 : Int) - 0 ≤ 2147483647 := by decide
section mk
variable {s : CS}
theorem mk_sent {k off n : Int} (hs : Mk s) (hn : 0 ≤ n) (h3 : s.nxt + 4294967296 ≤ 1152921504606846976) : Mk (sentM s k off n) := by
  have a1 := hs.una; have a2 := hs.fl; have a3 := hs.high
  unfold sentM
  split
  · rename_i h; exact nxt_mk hs hn h.2.2 h3
  split
  · exact ⟨⟨hs.init, hs.maxc, hs.bn, hs.bd, hs.abc, hs.dupt, hs.mss⟩, hs.cwnd, hs.ssth, hs.credit, hs.una, hs.nxt, hs.fl, hs.phase, hs.recov, hs.high, hs.dups⟩
  split
  · rename_i h
    have h4 := h.2
    unfold inF at h4
    exact ⟨⟨hs.init, hs.maxc, hs.bn, hs.bd, hs.abc, hs.dupt, hs.mss⟩, hs.cwnd, hs.ssth, hs.credit, hs.una, hs.nxt, hs.fl, hs.phase, hs.recov, ⟨by show s.una ≤ max s.high (off + n); omega, by show max s.high (off + n) ≤ s.nxt; omega⟩, hs.dups⟩
  · exact hs
theorem mk_rto (hs : Mk s) : Mk (rtoM s) := by
  have a1 := hs.una; have a4 := hs.maxc; have a5 := hs.mss
  have hc := cutV_bd (f := s.nxt - s.una) (bn := s.bn) (bd := s.bd) (mss := s.mss) (maxc := s.maxc) hs.maxc.1
  unfold rtoM
  split
  · exact hs
  · refine ⟨⟨hs.init, hs.maxc, hs.bn, hs.bd, hs.abc, hs.dupt, hs.mss⟩, ⟨Int.le_refl _, by show s.mss ≤ s.maxc; omega⟩, ?_, zc, hs.una, hs.nxt, hs.fl, p2, ⟨by show -1 ≤ s.nxt; omega, Int.le_refl _⟩, ⟨Int.le_refl _, hs.una.2⟩, zd⟩
    show 2 * s.mss ≤ (if s.timed = false then _ else _) ∧ (if s.timed = false then _ else _) ≤ s.maxc
    split
    · exact hc
    · exact hs.ssth
theorem initW_bd (hs : Cf s) : s.mss ≤ initW s ∧ initW s ≤ s.maxc := by
  rw [← iw_eq hs]; exact bnd_rng hs _
theorem mk_idle (hs : Mk s) : Mk (idleM s) := by
  have a1 := initW_bd hs.toCf; have a2 := hs.cwnd
  unfold idleM
  split
  · exact ⟨⟨hs.init, hs.maxc, hs.bn, hs.bd, hs.abc, hs.dupt, hs.mss⟩, ⟨by show s.mss ≤ min s.cwnd (initW s); omega, by show min s.cwnd (initW s) ≤ s.maxc; omega⟩, hs.ssth, zc, hs.una, hs.nxt, hs.fl, hs.phase, hs.recov, hs.high, hs.dups⟩
  · exact hs
theorem mk_open (hs : Mk s) (hcr : s.credit ≤ 1073741824) {k : Int} (hk : 0 ≤ k) : Mk (openM s k) ∧ (openM s k).credit ≤ 1073741824 := by
  have b1 := bnd_rng hs.toCf (s.cwnd + min k (s.abc * s.mss))
  have b2 := bnd_rng hs.toCf (s.cwnd + s.mss)
  have a1 := hs.credit; have a2 := hs.cwnd; have a3 := hs.maxc; have a4 := hs.mss
  unfold openM
  split
  · exact ⟨⟨⟨hs.init, hs.maxc, hs.bn, hs.bd, hs.abc, hs.dupt, hs.mss⟩, b1, hs.ssth, hs.credit, hs.una, hs.nxt, hs.fl, hs.phase, hs.recov, hs.high, hs.dups⟩, hcr⟩
  split
  · rename_i h
    exact ⟨⟨⟨hs.init, hs.maxc, hs.bn, hs.bd, hs.abc, hs.dupt, hs.mss⟩, b2, hs.ssth, ⟨by show 0 ≤ min (s.credit + k - s.cwnd) (bndP s (s.cwnd + s.mss)); omega, by show min (s.credit + k - s.cwnd) (bndP s (s.cwnd + s.mss)) ≤ _; omega⟩, hs.una, hs.nxt, hs.fl, hs.phase, hs.recov, hs.high, hs.dups⟩, by show min (s.credit + k - s.cwnd) (bndP s (s.cwnd + s.mss)) ≤ _; omega⟩
  · exact ⟨⟨⟨hs.init, hs.maxc, hs.bn, hs.bd, hs.abc, hs.dupt, hs.mss⟩, hs.cwnd, hs.ssth, ⟨by show 0 ≤ min (s.credit + k) s.cwnd; omega, by show min (s.credit + k) s.cwnd ≤ _; omega⟩, hs.una, hs.nxt, hs.fl, hs.phase, hs.recov, hs.high, hs.dups⟩, by show min (s.credit + k) s.cwnd ≤ _; omega⟩
theorem mk_phase (hs : Mk s) {p : Int} (hp : 0 ≤ p ∧ p ≤ 2) : Mk { s with phase := p } :=
  ⟨⟨hs.init, hs.maxc, hs.bn, hs.bd, hs.abc, hs.dupt, hs.mss⟩, hs.cwnd, hs.ssth, hs.credit, hs.una, hs.nxt, hs.fl, hp, hs.recov, hs.high, hs.dups⟩
theorem mk_adv (hs : Mk s) (hcr : s.credit ≤ 1073741824) {sk : Bool} {ack : Int} (h1 : s.una ≤ ack) (h2 : ack ≤ s.nxt) : Mk (advM s sk ack) ∧ (advM s sk ack).credit ≤ 1073741824 := by
  have h0 := adv0_mk hs h1 h2
  have ho := mk_open h0 hcr (k := ack - s.una) (by omega)
  have z : (0 : Int) ≤ 1073741824 := by decide
  unfold advM
  split
  · exact ho
  split
  · split
    · exact ⟨mk_phase ho.1 p0, ho.2⟩
    · exact ho
  split
  · refine ⟨⟨⟨hs.init, hs.maxc, hs.bn, hs.bd, hs.abc, hs.dupt, hs.mss⟩, ?_, hs.ssth, zc, h0.una, h0.nxt, h0.fl, p0, h0.recov, h0.high, h0.dups⟩, z⟩
    show s.mss ≤ (if sk = true then _ else _) ∧ (if sk = true then _ else _) ≤ s.maxc
    split
    · exact hs.cwnd
    · exact bnd_rng hs.toCf _
  split
  · exact ⟨⟨⟨hs.init, hs.maxc, hs.bn, hs.bd, hs.abc, hs.dupt, hs.mss⟩, bnd_rng hs.toCf _, hs.ssth, hs.credit, h0.una, h0.nxt, h0.fl, hs.phase, h0.recov, h0.high, h0.dups⟩, hcr⟩
  · exact ⟨h0, hcr⟩
theorem mk_dup (hs : Mk s) (hcr : s.credit ≤ 1073741824) (hd : s.dups + 1 ≤ 1152921504606846976) {sk lu : Bool} : Mk (dupM s sk lu) ∧ (dupM s sk lu).credit ≤ 1073741824 := by
  have h0 := dups_mk hs hd
  have z : (0 : Int) ≤ 1073741824 := by decide
  have a1 := hs.una
  unfold dupM
  split
  · exact ⟨⟨⟨hs.init, hs.maxc, hs.bn, hs.bd, hs.abc, hs.dupt, hs.mss⟩, bnd_rng hs.toCf _, hs.ssth, hs.credit, hs.una, hs.nxt, hs.fl, hs.phase, hs.recov, hs.high, h0.dups⟩, hcr⟩
  split
  · exact ⟨h0, hcr⟩
  split
  · refine ⟨⟨⟨hs.init, hs.maxc, hs.bn, hs.bd, hs.abc, hs.dupt, hs.mss⟩, ?_, cutV_bd hs.maxc.1, zc, hs.una, hs.nxt, hs.fl, p1, ⟨by show -1 ≤ s.nxt; omega, Int.le_refl _⟩, ⟨Int.le_refl _, hs.una.2⟩, h0.dups⟩, z⟩
    show s.mss ≤ (if sk = true then _ else _) ∧ (if sk = true then _ else _) ≤ s.maxc
    split <;> exact bnd_rng hs.toCf _
  · exact ⟨h0, hcr⟩
theorem mk_ack (hs : Mk s) (hcr : s.credit ≤ 1073741824) (hd : s.dups + 1 ≤ 1152921504606846976) {sk lu dup : Bool} {ack : Int} : Mk (ackM s sk ack dup lu) ∧ (ackM s sk ack dup lu).credit ≤ 1073741824 := by
  unfold ackM
  split
  · exact ⟨hs, hcr⟩
  rename_i h
  split
  · split
    · exact mk_dup hs hcr hd
    · exact ⟨hs, hcr⟩
  · exact mk_adv hs hcr (by omega) (by omega)
theorem sentM_nd {k off n : Int} : (sentM s k off n).dups = s.dups ∧ (sentM s k off n).credit = s.credit ∧ (sentM s k off n).una = s.una := by
  unfold sentM; split
  · exact ⟨rfl, rfl, rfl⟩
  split
  · exact ⟨rfl, rfl, rfl⟩
  split <;> exact ⟨rfl, rfl, rfl⟩
theorem sentM_nx {k off n : Int} (hn : 0 ≤ n) (h : Mk s) : (sentM s k off n).nxt ≤ s.nxt + 2147483648 := by
  have := h.una
  unfold sentM; split
  · rename_i h; show s.nxt + n ≤ _; omega
  split
  · show s.nxt ≤ _; omega
  split <;> (show s.nxt ≤ _; omega)
theorem advM_dups {sk : Bool} {ack : Int} : (advM s sk ack).dups = 0 := by
  have g : (openM (adv0 s ack) (ack - s.una)).dups = 0 := by
    unfold openM; split
    · rfl
    · split <;> rfl
  unfold advM
  split
  · exact g
  split
  · split
    · exact g
    · exact g
  split
  · rfl
  split <;> rfl
theorem ackM_dups {sk lu dup : Bool} {ack : Int} (h : Mk s) : (ackM s sk ack dup lu).dups ≤ s.dups + 1 := by
  have := h.dups
  unfold ackM
  split
  · omega
  split
  · split
    · unfold dupM; split
      · exact Int.le_refl _
      split
      · exact Int.le_refl _
      split <;> exact Int.le_refl _
    · omega
  · rw [advM_dups]; omega
end mk
/-! ## the two sides of a comparison -/
structure PI (B D : Int) (t : St) (m : CS) (st : Int) : Prop where
  si : SI t
  hm : Mk m
  rel : RelS t.s m st
  nx : m.nxt ≤ B
  dp : m.dups ≤ D
  cr : m.credit ≤ 1073741824
theorem PI.fl {B D : Int} {t : St} {m : CS} {st : Int} (h : PI B D t m st) : m.nxt - m.una = (((flightP t.s).toNat : Nat) : Int) := by
  have := h.rel.flight h.hm; have := flightP_U t.s; omega
theorem PI.nb {B D : Int} {t : St} {m : CS} {st : Int} (h : PI B D t m st) {sk : Bool} (hk : sk = t.cfg.sack) : sk = false → t.os = [] := fun h9 => h.si.nb (by rw [← hk]; exact h9)
theorem PI.mono {B D B' D' : Int} {t : St} {m : CS} {st : Int} (h : PI B D t m st) (hb : B ≤ B') (hd : D ≤ D') : PI B' D' t m st := ⟨h.si, h.hm, h.rel, Int.le_trans h.nx hb, Int.le_trans h.dp hd, h.cr⟩
theorem pi_new {c : CF} (hc : CFok c) (hv : CV c) {B D : Int} (hB : 0 ≤ B) (hD : 0 ≤ D) : PI B D ⟨c, newP c, []⟩ (newMP c) c.start := by
  have h1 := cv_cf hc hv
  have hcf : Cf (newMP c) := ⟨h1.init, h1.maxc, h1.bn, h1.bd, h1.abc, h1.dupt, h1.mss⟩
  have hw := initW_bd (newX_cf hc hv 0)
  have hv2 := hv
  obtain ⟨v1, v2, v3, v4, v5, v6⟩ := hv2
  have hs := hc.start
  have e0 : c.start = seqM c.start 0 := by unfold seqM; omega
  refine ⟨si_new hc hv, ⟨hcf, hw, ⟨v2.1, Int.le_refl _⟩, zc, ⟨Int.le_refl _, Int.le_refl _⟩, zn, zf, p0, zm, ⟨Int.le_refl _, Int.le_refl _⟩, zd⟩, ?_, hB, hD, zr⟩
  refine ⟨⟨rfl, rfl, rfl, rfl, rfl, rfl, rfl, rfl⟩, e0, e0, e0, ⟨rfl, rfl, rfl, rfl, rfl⟩, ⟨rfl, rfl, rfl⟩, fun _ => ⟨zm.2, ?_⟩, fun h => absurd rfl h⟩
  show (c.start - 1) % 4294967296 = if (-1 : Int) < 0 then (c.start - 1) % 4294967296 else c.start
  rw [if_pos (by decide)]
theorem pi_sent {B D : Int} {t : St} {m : CS} {st : Int} (h : PI B D t m st) (hB : B + 4294967296 ≤ 1152921504606846976) {k d n : Int} (hd : -2147483648 ≤ d ∧ d < 2147483648) (hn : U n) : PI (B + 2147483648) D { t with s := sentP t.s k ((t.s.una + d) % 4294967296) n } (sentM m k (m.una + d) n) st := by
  have h1 := h.nx; have h2 := sentM_nx (s := m) (k := k) (off := m.una + d) hn.1 h.hm
  have h3 := sentM_nd (s := m) (k := k) (off := m.una + d) (n := n)
  exact ⟨si_sent h.si k _ n hn, mk_sent h.hm hn.1 (by omega), sent_same h.rel h.hm hd hn, by omega, by rw [h3.1]; exact h.dp, by rw [h3.2.1]; exact h.cr⟩
theorem rtoM_nd {s : CS} (h : 0 ≤ s.dups) (h2 : s.credit ≤ 1073741824) : (rtoM s).nxt = s.nxt ∧ (rtoM s).una = s.una ∧ (rtoM s).dups ≤ s.dups ∧ (rtoM s).credit ≤ 1073741824 := by
  unfold rtoM; split
  · exact ⟨rfl, rfl, Int.le_refl _, h2⟩
  · exact ⟨rfl, rfl, h, zr⟩
theorem idleM_nd {s : CS} (h2 : s.credit ≤ 1073741824) : (idleM s).nxt = s.nxt ∧ (idleM s).una = s.una ∧ (idleM s).dups = s.dups ∧ (idleM s).credit ≤ 1073741824 := by
  unfold idleM; split
  · exact ⟨rfl, rfl, rfl, zr⟩
  · exact ⟨rfl, rfl, rfl, h2⟩
theorem pi_rto {B D : Int} {t : St} {m : CS} {st : Int} (h : PI B D t m st) : PI B D { t with s := rtoP t.s } (rtoM m) st := by
  obtain ⟨e1, e2, e3, e4⟩ := rtoM_nd h.hm.dups.1 h.cr
  exact ⟨si_rto h.si, mk_rto h.hm, rto_same h.rel h.hm, by rw [e1]; exact h.nx, Int.le_trans e3 h.dp, e4⟩
theorem pi_idle {B D : Int} {t : St} {m : CS} {st : Int} (h : PI B D t m st) : PI B D { t with s := idleP t.s } (idleM m) st := by
  obtain ⟨e1, e2, e3, e4⟩ := idleM_nd (s := m) h.cr
  exact ⟨si_idle h.si, mk_idle h.hm, idle_same h.rel h.hm, by rw [e1]; exact h.nx, by rw [e3]; exact h.dp, e4⟩
/-- what an acknowledgement does to the model -/
def AckMT (m : CS) (st : Int) (sk : Bool) (f : Nat) (os : List Bk) (ack : Int) (dup : Bool) (bks : List (Int × Int)) (m' : CS) (os' : List Bk) : Prop :=
  (sk = false ∧ os' = os ∧ m' = ackM m false ack dup false) ∨ (sk = true ∧ ∃ n, AckN m st os ack bks os' n ∧ m' = ackM m true ack (decide (0 < n)) (lsG m f (skG true os') 0))
theorem pi_ack {B D : Int} {t t' : St} {m m' : CS} {st : Int} (h : PI B D t m st) (hD : D + 1 ≤ 4294967295) {d : Int} (hd : -2147483648 ≤ d ∧ d < 2147483648) {dup : Bool} {bks : List (Int × Int)} {os' : List Bk} (h1 : AckT t ((t.s.una + d) % 4294967296) dup bks t') (h2 : AckMT m st t.cfg.sack (flightP t.s).toNat t.os (m.una + d) dup bks m' os') : PI B (D + 1) t' m' st ∧ os' = t'.os ∧ t'.cfg = t.cfg := by
  have hU : U ((t.s.una + d) % 4294967296) := ⟨by omega, by omega⟩
  have hsi := ackT_si h1 hU h.si
  have hun := h.si.ok.una; have hfl := h.rel.flight h.hm; have hfu := flightP_U t.s
  have hdp := h.dp; have hm1 := h.hm.una; have hm2 := h.hm.fl; have hm3 := h.hm.nxt
  have hq : (t.s.una + d) % 4294967296 = seqM st (m.una + d) := by rw [h.rel.una, seq_addI]
  have hat : ((t.s.una + d) % 4294967296 - t.s.una) % 4294967296 = d % 4294967296 := by omega
  have fin : ∀ (sk dd lu : Bool), PI B (D + 1) t' (ackM m sk (m.una + d) dd lu) st ↔ SI t' ∧ RelS t'.s (ackM m sk (m.una + d) dd lu) st := fun sk dd lu => ⟨fun h => ⟨h.si, h.rel⟩, fun ⟨h3, h4⟩ => by
    have h5 := mk_ack (s := m) (sk := sk) (lu := lu) (dup := dd) (ack := m.una + d) h.hm h.cr (by omega)
    exact ⟨h3, h5.1, h4, by rw [ackM_nxt]; exact h.nx, Int.le_trans (ackM_dups h.hm) (by omega), h5.2⟩⟩
  rcases h2 with ⟨k0, rfl, rfl⟩ | ⟨k0, n, hA, rfl⟩
  · rcases h1 with ⟨_, rfl⟩ | ⟨k1, _⟩
    · refine ⟨(fin _ _ _).2 ⟨hsi, ?_⟩, rfl, rfl⟩
      have := ack_same (sk := false) (lu := false) (dup := dup) (bl := []) h.rel h.hm hun h.cr (by omega) hd (fun _ h9 => by cases h9)
      exact this
    · rw [k0] at k1; cases k1
  · rcases h1 with ⟨k1, _⟩ | ⟨_, os2, n2, hA2, rfl⟩
    · rw [k0] at k1; cases k1
    · -- the same board behind both
      have hsame : os' = os2 ∧ n = n2 := by
        rcases hA with ⟨a1, rfl, rfl⟩ | ⟨a1, a2⟩
        · rcases hA2 with ⟨b1, rfl, rfl⟩ | ⟨b1, b2⟩
          · exact ⟨rfl, rfl⟩
          · rw [hat, hfl] at b1; omega
        · rcases hA2 with ⟨b1, _⟩ | ⟨b1, b2⟩
          · rw [hat, hfl] at b1; omega
          · have e1 : (m.una + d - m.una).toNat = (((t.s.una + d) % 4294967296 - t.s.una) % 4294967296).toNat := by rw [hat]; omega
            rw [e1, ← hq, ← h.rel.nxt] at a2
            refine a2.fn (f := (flightP t.s).toNat - (((t.s.una + d) % 4294967296 - t.s.una) % 4294967296).toNat) ?_ (advO_inv (by omega) h.si.bi) (Nat.le_trans (advO_len _ _) h.si.l16) b2
            have := h.si.ok.nxt
            unfold flightP at b1 ⊢; omega
      obtain ⟨rfl, rfl⟩ := hsame
      refine ⟨(fin _ _ _).2 ⟨hsi, ?_⟩, rfl, rfl⟩
      refine ack_same (sk := true) h.rel h.hm hun h.cr (by omega) hd fun d0 _ hpos => ?_
      subst d0
      have eu : (t.s.una + 0) % 4294967296 = t.s.una := by omega
      have hbi : BInv (flightP t.s).toNat os' := by
        have := hsi.bi
        have e2 : flightP (ackP t.s false ((t.s.una + 0) % 4294967296) (decide (0 < n)) (os'.map (Bk.ab ((t.s.una + 0) % 4294967296)))) = flightP t.s := by
          unfold flightP; rw [ackP_nxt, ackP_una hun hU (by rw [hat]; omega), eu]
        show BInv _ os'
        have h9 : BInv (flightP (ackP t.s false ((t.s.una + 0) % 4294967296) (decide (0 < n)) (os'.map (Bk.ab ((t.s.una + 0) % 4294967296))))).toNat os' := this
        rw [e2] at h9; exact h9
      have h16 : os'.length ≤ 16 := hsi.l16
      have := lost_same2 (k := 0) h.rel h.hm h.fl hbi h16 (by have := h.fl; omega)
      rw [show (t.s.una + ((0 : Nat) : Int)) % 4294967296 = t.s.una by omega] at this
      rw [eu, this]
      rfl

end Go.Proofs.Qxb6500912aGreatDoor

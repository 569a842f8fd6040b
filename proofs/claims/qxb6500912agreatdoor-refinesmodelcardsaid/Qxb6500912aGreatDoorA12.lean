import Derived.Test.Qxb6500912aGreatDoorA11
namespace Go.Proofs.Qxb6500912aGreatDoor
open Go.Eng
set_option linter.unusedVariables false
set_option linter.unusedSimpArgs false

/-! ## the bench: states and steps -/
structure St where
  cfg : CF
  s : CS
  os : List Bk
def St.ns (t : St) : Bool := !t.cfg.sack
def St.bl (t : St) : List (Int × Int) := t.os.map (Bk.ab t.s.una)
def CE (c : CF) (s : CS) : Prop := s.init = c.init ∧ s.maxc = c.maxc ∧ s.bn = c.bn ∧ s.bd = c.bd ∧ s.abc = c.abc ∧ s.dupt = c.dupt ∧ s.idle = c.idle ∧ s.mss = c.mss
structure SI (t : St) : Prop where
  cf : CFok t.cfg
  cv : CV t.cfg
  ce : CE t.cfg t.s
  ok : Ok t.s
  fl : flightP t.s ≤ 2147483647
  bi : BInv (flightP t.s).toNat t.os
  l16 : t.os.length ≤ 16
  nb : t.cfg.sack = false → t.os = []
  i1 : (t.s.high - t.s.una) % 4294967296 ≤ flightP t.s
  i2 : ¬ t.s.phase = 0 → (t.s.recov - t.s.una) % 4294967296 ≤ flightP t.s
  i3 : t.s.forced = true → 0 < flightP t.s
section ce
variable {c : CF} {s : CS} {ns : Bool}
theorem ce_grow (h : CE c s) (x : Int) : CE c (growP s x) := by
  unfold growP growM; split
  · exact h
  · split <;> exact h
theorem ce_leave (h : CE c s) : CE c (leaveP s ns) := by unfold leaveP; split <;> exact h
theorem ce_guard (h : CE c s) : CE c (guardP s) := by unfold guardP; split <;> exact h
theorem ce_adv1 (h : CE c s) (a : Int) : CE c (adv1 s a) := by unfold adv1; split <;> exact h
theorem ce_adv2 (h : CE c s) (a x : Int) : CE c (adv2 s ns a x) := by
  unfold adv2; split
  · exact ce_grow h x
  split
  · split
    · exact ce_grow h x
    · exact ce_grow h x
  split
  · split
    · split <;> exact h
    · exact ce_leave h
  · exact h
theorem ce_adv (h : CE c s) (a x : Int) : CE c (advP s ns a x) := ce_guard (ce_adv2 (ce_adv1 h a) a x)
theorem ce_dup (h : CE c s) (bl : List (Int × Int)) : CE c (dupP s ns bl) := by
  unfold dupP; split
  · exact h
  split <;> exact h
theorem ce_ack (h : CE c s) (a : Int) (d : Bool) (bl : List (Int × Int)) : CE c (ackP s ns a d bl) := by
  unfold ackP; split
  · exact h
  split
  · exact ce_adv h a _
  split
  · exact ce_dup h bl
  · exact h
theorem ce_rex (h : CE c s) (x y : Int) : CE c (rexP s x y) := by unfold rexP; split <;> split <;> exact h
theorem ce_sent (h : CE c s) (k q n : Int) : CE c (sentP s k q n) := by
  unfold sentP; split
  · split <;> exact h
  split
  · exact h
  split
  · exact h
  split
  · exact ce_rex h _ _
  · exact h
theorem ce_idle (h : CE c s) : CE c (idleP s) := by unfold idleP; split <;> exact h
theorem ce_rto (h : CE c s) : CE c (rtoP s) := by
  unfold rtoP; split
  · exact h
  split <;> exact h
end ce
theorem BInv.mono {f g : Nat} (hfg : f ≤ g) : ∀ {l : List Bk}, BInv f l → BInv g l
  | [], _ => trivial
  | x :: l, h => ⟨⟨h.1.1, Nat.le_trans h.1.2 hfg⟩, h.2.1, BInv.mono hfg h.2.2⟩
theorem si_new {c : CF} (h : CFok c) (hv : CV c) : SI ⟨c, newP c, []⟩ := by
  have hf : flightP (newP c) = 0 := by show (c.start - c.start) % 4294967296 = 0; omega
  refine ⟨h, hv, ⟨rfl, rfl, rfl, rfl, rfl, rfl, rfl, rfl⟩, newP_ok h hv, by rw [hf]; decide, trivial, Nat.zero_le _, fun _ => rfl, ?_, fun h => absurd rfl h, fun h => by cases h⟩
  show (c.start - c.start) % 4294967296 ≤ flightP (newP c)
  rw [hf]; omega
theorem sentP_un (s : CS) (k q n : Int) : (sentP s k q n).una = s.una := by
  unfold sentP rexP; split
  · split <;> rfl
  split
  · rfl
  split
  · rfl
  split
  · split <;> split <;> rfl
  · rfl
theorem si_sent {t : St} (h : SI t) (k q n : Int) (hn : U n) : SI { t with s := sentP t.s k q n } := by
  obtain ⟨c, s, os⟩ := t
  obtain ⟨h1, h2, h3, h4, h5, h6, h7, h8, h9, h10, h11⟩ := h
  simp only at *
  have hfu := flightP_U s
  have ho := h4.nxt; have hu := h4.una; have hq := h4.high
  have hok := sentP_ok h4 k q n
  have hce := ce_sent h3 k q n
  unfold sentP at hok hce ⊢
  split
  · rename_i hk
    rw [if_pos hk] at hok hce
    split
    · rename_i hc
      rw [if_pos hc] at hok hce
      have hf : flightP { s with nxt := (s.nxt + n) % 4294967296 } = flightP s + n := by unfold flightP at hc hfu ⊢; simp only; omega
      refine ⟨h1, h2, hce, hok, by rw [hf]; omega, by rw [hf]; exact h6.mono (by omega), h7, h8, by rw [hf]; simp only; omega, fun hp => by rw [hf]; have := h10 hp; simp only at this ⊢; omega, fun hp => by rw [hf]; have := h11 hp; omega⟩
    · exact ⟨h1, h2, h3, h4, h5, h6, h7, h8, h9, h10, h11⟩
  rename_i hk
  rw [if_neg hk] at hok hce
  split
  · exact ⟨h1, h2, h3, h4, h5, h6, h7, h8, h9, h10, h11⟩
  rename_i hc
  rw [if_neg hc] at hok hce
  split
  · rename_i hk3
    rw [if_pos hk3] at hok hce
    exact ⟨h1, h2, hce, hok, h5, h6, h7, h8, h9, h10, h11⟩
  rename_i hk3
  rw [if_neg hk3] at hok hce
  split
  · rename_i hk2
    rw [if_pos hk2] at hok hce
    have he : ((q + n) % 4294967296 - s.una) % 4294967296 ≤ flightP s := by omega
    unfold rexP at hok hce ⊢
    split
    · rename_i hz
      rw [if_pos hz] at hok hce
      split
      · rename_i hl
        rw [if_pos hl] at hok hce
        exact ⟨h1, h2, hce, hok, h5, h6, h7, h8, he, h10, fun h => by cases h⟩
      · rename_i hl
        rw [if_neg hl] at hok hce
        exact ⟨h1, h2, hce, hok, h5, h6, h7, h8, h9, h10, fun h => by cases h⟩
    · rename_i hz
      rw [if_neg hz] at hok hce
      split
      · rename_i hl
        rw [if_pos hl] at hok hce
        exact ⟨h1, h2, hce, hok, h5, h6, h7, h8, he, h10, h11⟩
      · exact ⟨h1, h2, h3, h4, h5, h6, h7, h8, h9, h10, h11⟩
  · exact ⟨h1, h2, h3, h4, h5, h6, h7, h8, h9, h10, h11⟩
theorem si_rto {t : St} (h : SI t) : SI { t with s := rtoP t.s } := by
  obtain ⟨c, s, os⟩ := t
  obtain ⟨h1, h2, h3, h4, h5, h6, h7, h8, h9, h10, h11⟩ := h
  simp only at *
  have hok := rtoP_ok h4
  have hce := ce_rto h3
  have hfu := flightP_U s
  unfold rtoP at hok hce ⊢
  split
  · exact ⟨h1, h2, h3, h4, h5, h6, h7, h8, h9, h10, h11⟩
  · rename_i hz
    rw [if_neg hz] at hok hce
    have hz0 : 0 < flightP s := by omega
    split
    · rename_i ht
      rw [if_pos ht] at hok hce
      refine ⟨h1, h2, hce, hok, h5, h6, h7, h8, ?_, fun _ => ?_, fun _ => hz0⟩
      · show (s.una - s.una) % 4294967296 ≤ flightP s; omega
      · show (s.nxt - s.una) % 4294967296 ≤ flightP s; unfold flightP; omega
    · rename_i ht
      rw [if_neg ht] at hok hce
      refine ⟨h1, h2, hce, hok, h5, h6, h7, h8, ?_, fun _ => ?_, fun _ => hz0⟩
      · show (s.una - s.una) % 4294967296 ≤ flightP s; omega
      · show (s.nxt - s.una) % 4294967296 ≤ flightP s; unfold flightP; omega
theorem si_idle {t : St} (h : SI t) : SI { t with s := idleP t.s } := by
  obtain ⟨c, s, os⟩ := t
  obtain ⟨h1, h2, h3, h4, h5, h6, h7, h8, h9, h10, h11⟩ := h
  simp only at *
  have hok := idleP_ok h4
  have hce := ce_idle h3
  unfold idleP at hok hce ⊢
  split
  · rename_i hz
    rw [if_pos hz] at hok hce
    exact ⟨h1, h2, hce, hok, h5, h6, h7, h8, h9, h10, h11⟩
  · exact ⟨h1, h2, h3, h4, h5, h6, h7, h8, h9, h10, h11⟩
section advf
variable {s : CS} {ns : Bool} {ack x : Int}
theorem growP_f : (growP s x).high = s.high ∧ (growP s x).recov = s.recov ∧ (growP s x).phase = s.phase ∧ (growP s x).forced = s.forced := by
  unfold growP growM; split
  · exact ⟨rfl, rfl, rfl, rfl⟩
  · split <;> exact ⟨rfl, rfl, rfl, rfl⟩
theorem leaveP_f : (leaveP s ns).high = s.high ∧ (leaveP s ns).phase = 0 ∧ (leaveP s ns).forced = s.forced := by unfold leaveP; split <;> exact ⟨rfl, rfl, rfl⟩
theorem guardP_f : (guardP s).high = s.high ∧ (guardP s).phase = s.phase ∧ (guardP s).forced = s.forced ∧ (¬ s.phase = 0 → (guardP s).recov = s.recov) := by
  unfold guardP; split
  · rename_i h
    exact ⟨rfl, rfl, rfl, fun h2 => absurd h.1 h2⟩
  · exact ⟨rfl, rfl, rfl, fun _ => rfl⟩
theorem adv1_f : (adv1 s ack).high = (if lessP s.high ack = true then ack else s.high) ∧ (adv1 s ack).recov = s.recov ∧ (adv1 s ack).phase = s.phase ∧ (adv1 s ack).forced = false := by
  unfold adv1; split <;> exact ⟨rfl, rfl, rfl, rfl⟩
theorem adv2_f : (adv2 s ns ack x).high = s.high ∧ (¬ (adv2 s ns ack x).phase = 0 → ¬ s.phase = 3 → (s.phase = 0 ∨ s.phase = 1 ∨ s.phase = 2) → (adv2 s ns ack x).recov = s.recov ∧ ¬ s.phase = 0 ∧ lessP ack s.recov = true) ∧ ((adv2 s ns ack x).forced = true → s.forced = false → lessP ack s.recov = true ∧ s.phase = 1) := by
  unfold adv2
  have g := growP_f (s := s) (x := x)
  split
  · rename_i h
    exact ⟨g.1, fun h1 _ _ => absurd (g.2.2.1.trans h) h1, fun h1 h2 => by rw [g.2.2.2, h2] at h1; cases h1⟩
  rename_i h0
  split
  · split
    · rename_i hl
      exact ⟨g.1, fun _ _ _ => ⟨g.2.1, h0, hl⟩, fun h1 h2 => by rw [g.2.2.2, h2] at h1; cases h1⟩
    · exact ⟨g.1, fun h1 => absurd rfl h1, fun h1 h2 => by have h3 : (growP s x).forced = true := h1; rw [g.2.2.2, h2] at h3; cases h3⟩
  rename_i h2
  split
  · rename_i h1
    split
    · rename_i hl
      split
      · exact ⟨rfl, fun _ _ _ => ⟨rfl, h0, hl⟩, fun _ _ => ⟨hl, h1⟩⟩
      · exact ⟨rfl, fun _ _ _ => ⟨rfl, h0, hl⟩, fun h3 h4 => by rw [h4] at h3; cases h3⟩
    · have l := leaveP_f (s := s) (ns := ns)
      exact ⟨l.1, fun h3 => absurd l.2.1 h3, fun h3 h4 => by rw [l.2.2, h4] at h3; cases h3⟩
  · rename_i h1
    exact ⟨rfl, fun _ _ h3 => by rcases h3 with h3 | h3 | h3 <;> contradiction, fun h3 h4 => by rw [h4] at h3; cases h3⟩
theorem advP_f (hp : 0 ≤ s.phase ∧ s.phase ≤ 2) : (advP s ns ack x).high = (if lessP s.high ack = true then ack else s.high) ∧ (¬ (advP s ns ack x).phase = 0 → (advP s ns ack x).recov = s.recov ∧ ¬ s.phase = 0 ∧ lessP ack s.recov = true) ∧ ((advP s ns ack x).forced = true → lessP ack s.recov = true ∧ s.phase = 1) := by
  unfold advP
  have g := guardP_f (s := adv2 (adv1 s ack) ns ack x)
  have a := adv2_f (s := adv1 s ack) (ns := ns) (ack := ack) (x := x)
  have b := adv1_f (s := s) (ack := ack)
  refine ⟨by rw [g.1, a.1, b.1], fun h => ?_, fun h => ?_⟩
  · rw [g.2.1] at h
    have h2 := a.2.1 h (by rw [b.2.2.1]; omega) (by rw [b.2.2.1]; omega)
    rw [g.2.2.2 h, h2.1, b.2.1]
    rw [b.2.2.1] at h2
    exact ⟨rfl, h2.2.1, by have := h2.2.2; rw [b.2.1] at this; exact this⟩
  · rw [g.2.2.1] at h
    have h2 := a.2.2 h b.2.2.2
    rw [b.2.1, b.2.2.1] at h2
    exact h2
end advf
theorem si_ack {t : St} (h : SI t) {ack : Int} (hk : U ack) {dup : Bool} {bl : List (Int × Int)} {os' : List Bk} (hb : (ack - t.s.una) % 4294967296 ≤ flightP t.s → BInv ((flightP t.s).toNat - ((ack - t.s.una) % 4294967296).toNat) os') (hl : os'.length ≤ 16) (hn : t.cfg.sack = false → os' = []) (hig : flightP t.s < (ack - t.s.una) % 4294967296 → os' = t.os) : SI { t with s := ackP t.s t.ns ack dup bl, os := os' } := by
  obtain ⟨c, s, os⟩ := t
  obtain ⟨h1, h2, h3, h4, h5, h6, h7, h8, h9, h10, h11⟩ := h
  simp only [St.ns] at *
  have hok := ackP_ok (ns := !c.sack) (dup := dup) (bl := bl) h4 hk
  have hce := ce_ack (ns := !c.sack) h3 ack dup bl
  have hfu := flightP_U s
  have ho := h4.nxt; have hu := h4.una; have hq := h4.high; have hr := h4.recov; have hp := h4.phase
  unfold ackP at hok hce ⊢
  split
  · rename_i hc
    obtain rfl := hig hc
    exact ⟨h1, h2, h3, h4, h5, h6, h7, h8, h9, h10, h11⟩
  rename_i hc
  rw [if_neg hc] at hok hce
  have hb := hb (by omega)
  split
  · rename_i ha
    rw [if_pos ha] at hok hce
    have hun := advP_un (s := s) (ns := !c.sack) (ack := ack) ((ack - s.una) % 4294967296)
    have hf : flightP (advP s (!c.sack) ack ((ack - s.una) % 4294967296)) = flightP s - (ack - s.una) % 4294967296 := by
      unfold flightP at hc ⊢; rw [hun.1, hun.2]; omega
    have af := advP_f (s := s) (ns := !c.sack) (ack := ack) (x := (ack - s.una) % 4294967296) hp
    have lo : ∀ v : Int, U v → (v - s.una) % 4294967296 ≤ flightP s → lessP v ack = decide ((v - s.una) % 4294967296 < (ack - s.una) % 4294967296) ∧ lessP ack v = decide ((ack - s.una) % 4294967296 < (v - s.una) % 4294967296) := fun v hv hle => by
      have e1 : v = (s.una + (v - s.una) % 4294967296) % 4294967296 := by omega
      have e2 : ack = (s.una + (ack - s.una) % 4294967296) % 4294967296 := by omega
      have p1 := lessP_off s.una ((v - s.una) % 4294967296) ((ack - s.una) % 4294967296) (by omega)
      have p2 := lessP_off s.una ((ack - s.una) % 4294967296) ((v - s.una) % 4294967296) (by omega)
      rw [← e1, ← e2] at p1
      rw [← e1, ← e2] at p2
      exact ⟨p1, p2⟩
    refine ⟨h1, h2, hce, hok, by rw [hf]; omega, ?_, hl, hn, ?_, fun hph => ?_, fun hfo => ?_⟩
    · rw [hf]
      rw [show (flightP s - (ack - s.una) % 4294967296).toNat = (flightP s).toNat - ((ack - s.una) % 4294967296).toNat by omega]
      exact hb
    · rw [hf, af.1, hun.1, (lo s.high hq h9).1]
      by_cases hlt : (s.high - s.una) % 4294967296 < (ack - s.una) % 4294967296
      · rw [if_pos (by simpa using hlt)]; omega
      · rw [if_neg (by simpa using hlt)]; omega
    · obtain ⟨r1, r2, r3⟩ := af.2.1 hph
      rw [(lo s.recov hr (h10 r2)).2] at r3
      have := h10 r2
      simp only [decide_eq_true_eq] at r3
      rw [hf, r1, hun.1]; omega
    · obtain ⟨r3, r2⟩ := af.2.2 hfo
      have r4 := h10 (by omega)
      rw [(lo s.recov hr r4).2] at r3
      simp only [decide_eq_true_eq] at r3
      rw [hf]; omega
  · rename_i ha
    rw [if_neg ha] at hok hce
    have hz : (ack - s.una) % 4294967296 = 0 := by omega
    rw [hz] at hb
    have hb2 : BInv (flightP s).toNat os' := by simpa using hb
    split
    · rename_i hd
      rw [if_pos hd] at hok hce
      have hun := dupP_un (s := s) (ns := !c.sack) (bl := bl)
      have hf : flightP (dupP s (!c.sack) bl) = flightP s := by unfold flightP; rw [hun.1, hun.2]
      refine ⟨h1, h2, hce, hok, by rw [hf]; exact h5, by rw [hf]; exact hb2, hl, hn, ?_, fun hph => ?_, fun hfo => ?_⟩
      · rw [hf, hun.1]
        unfold dupP; split
        · exact h9
        split
        · show (s.una - s.una) % 4294967296 ≤ flightP s; omega
        · exact h9
      · rw [hf, hun.1]
        unfold dupP at hph ⊢; split at hph
        · rename_i hc1; rw [if_pos hc1]; exact h10 (by omega)
        · rename_i hc1; rw [if_neg hc1]
          split at hph
          · rename_i hc2; rw [if_pos hc2]
            show (s.nxt - s.una) % 4294967296 ≤ flightP s; unfold flightP; omega
          · rename_i hc2; rw [if_neg hc2]; exact h10 hph
      · rw [hf]; exact hd.2
    · exact ⟨h1, h2, h3, h4, h5, hb2, hl, hn, h9, h10, h11⟩

end Go.Proofs.Qxb6500912aGreatDoor

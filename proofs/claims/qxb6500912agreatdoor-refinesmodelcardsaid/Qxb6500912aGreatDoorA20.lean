import Derived.Test.Qxb6500912aGreatDoorA14
namespace Go.Proofs.Qxb6500912aGreatDoor
open Go.Eng
set_option linter.unusedVariables false
set_option linter.unusedSimpArgs false

/-! ## what a step does to the window -/
theorem sentP_g (s : CS) (k q n : Int) : (sentP s k q n).cwnd = s.cwnd ∧ (sentP s k q n).ssth = s.ssth ∧ (sentP s k q n).phase = s.phase := by
  unfold sentP rexP; split
  · split <;> exact ⟨rfl, rfl, rfl⟩
  split
  · exact ⟨rfl, rfl, rfl⟩
  split
  · exact ⟨rfl, rfl, rfl⟩
  split
  · split <;> split <;> exact ⟨rfl, rfl, rfl⟩
  · exact ⟨rfl, rfl, rfl⟩
theorem sentC_g {s s' : CS} (h : SentC s s') : s'.cwnd = s.cwnd ∧ s'.ssth = s.ssth ∧ s'.phase = s.phase := by
  induction h with
  | refl => exact ⟨rfl, rfl, rfl⟩
  | step k q n _ ih =>
    obtain ⟨a, b, c⟩ := ih
    exact ⟨(sentP_g _ k q n).1.trans a, (sentP_g _ k q n).2.1.trans b, (sentP_g _ k q n).2.2.trans c⟩
theorem growP_c {s : CS} (h : Ok s) (x : Int) (hx : 0 ≤ x) : (growP s x).ssth = s.ssth ∧ (growP s x).phase = s.phase ∧ s.cwnd ≤ (growP s x).cwnd ∧ (growP s x).cwnd - s.cwnd ≤ s.abc * s.mss := by
  have o1 := h.abc; have o2 := h.mss; have o3 := h.cwnd; have o4 := h.maxc
  have hp := prod_bd (a := s.abc) (b := s.mss) (A := 4) (B := 65535) (by omega) (by omega)
  have hm : s.mss ≤ s.abc * s.mss := by
    have := Int.mul_le_mul_of_nonneg_right o1.1 (show (0 : Int) ≤ s.mss by omega)
    omega
  unfold growP growM setC; split
  · refine ⟨rfl, rfl, ?_, ?_⟩ <;> simp only <;> omega
  · split
    · refine ⟨rfl, rfl, ?_, ?_⟩ <;> simp only <;> omega
    · refine ⟨rfl, rfl, ?_, ?_⟩ <;> simp only <;> omega
theorem adv1_c (s : CS) (ack : Int) : (adv1 s ack).ssth = s.ssth ∧ (adv1 s ack).phase = s.phase ∧ (adv1 s ack).cwnd = s.cwnd ∧ (adv1 s ack).abc = s.abc ∧ (adv1 s ack).mss = s.mss := by
  unfold adv1; split <;> exact ⟨rfl, rfl, rfl, rfl, rfl⟩
theorem guardP_c (s : CS) : (guardP s).ssth = s.ssth ∧ (guardP s).phase = s.phase ∧ (guardP s).cwnd = s.cwnd := by
  unfold guardP; split <;> exact ⟨rfl, rfl, rfl⟩
theorem adv2_c {s : CS} (h : Ok s) (ns : Bool) (ack x : Int) (hx : 0 ≤ x) : (adv2 s ns ack x).ssth = s.ssth ∧ (¬ s.phase = 1 → ¬ (adv2 s ns ack x).phase = 1 ∧ s.cwnd ≤ (adv2 s ns ack x).cwnd ∧ (adv2 s ns ack x).cwnd - s.cwnd ≤ s.abc * s.mss) := by
  have g := growP_c h x hx
  have hp := h.phase
  unfold adv2; split
  · rename_i h0
    exact ⟨g.1, fun _ => ⟨by rw [g.2.1]; omega, g.2.2⟩⟩
  split
  · rename_i h2
    split
    · exact ⟨g.1, fun _ => ⟨by rw [g.2.1]; omega, g.2.2⟩⟩
    · exact ⟨g.1, fun _ => ⟨by simp only; omega, g.2.2⟩⟩
  split
  · rename_i h1
    split
    · split
      · exact ⟨rfl, fun h => absurd h1 h⟩
      · exact ⟨rfl, fun h => absurd h1 h⟩
    · unfold leaveP; split <;> exact ⟨rfl, fun h => absurd h1 h⟩
  · omega
theorem advP_c {s : CS} (h : Ok s) (ns : Bool) {ack : Int} (ha : U ack) (x : Int) (hx : 0 ≤ x) : (advP s ns ack x).ssth = s.ssth ∧ (¬ s.phase = 1 → ¬ (advP s ns ack x).phase = 1 ∧ s.cwnd ≤ (advP s ns ack x).cwnd ∧ (advP s ns ack x).cwnd - s.cwnd ≤ s.abc * s.mss) := by
  unfold advP
  have a := adv2_c (adv1_ok h ha) ns ack x hx
  have b := adv1_c s ack
  have g := guardP_c (adv2 (adv1 s ack) ns ack x)
  rw [g.1, g.2.1, g.2.2]
  rw [b.1, b.2.1, b.2.2.1, b.2.2.2.1, b.2.2.2.2] at a
  exact a
theorem ackP_grow {s : CS} {ns : Bool} {ack : Int} {dup : Bool} {bl : List (Int × Int)} (h : Ok s) (ha : U ack) (hf : flightP s ≤ 2147483647) {s' : CS} (hs' : s' = ackP s ns ack dup bl) :
    (s.phase = 1 → s'.ssth = s.ssth ∧ (flightP s' < flightP s ∨ (s.cwnd ≤ s'.cwnd ∧ s'.cwnd - s.cwnd ≤ s.mss))) ∧
    (¬ s.phase = 1 → ¬ s'.phase = 1 → s'.ssth = s.ssth ∧ s.cwnd ≤ s'.cwnd ∧ s'.cwnd - s.cwnd ≤ s.abc * s.mss ∧ (flightP s' < flightP s ∨ s'.cwnd = s.cwnd)) ∧
    (¬ s.phase = 1 → s'.phase = 1 → s.phase = 0 ∧ s'.ssth = cutV (flightP s) s.bn s.bd s.mss s.maxc ∧ s'.forced = true ∧ s'.cwnd ≤ s'.ssth + s.dupt * s.mss) := by
  have o1 := h.abc; have o2 := h.mss; have o3 := h.cwnd; have o4 := h.maxc; have o5 := h.dupt; have o6 := h.phase; have o7 := h.una; have o8 := h.nxt
  have hp := prod_bd (a := s.abc) (b := s.mss) (A := 4) (B := 65535) (by omega) (by omega)
  have hp2 := prod_bd (a := s.dupt) (b := s.mss) (A := 16) (B := 65535) (by omega) (by omega)
  have hfu := flightP_U s
  have same : ∀ s2 : CS, s2.ssth = s.ssth → s2.cwnd = s.cwnd → s2.phase = s.phase → (s.phase = 1 → s2.ssth = s.ssth ∧ (flightP s2 < flightP s ∨ (s.cwnd ≤ s2.cwnd ∧ s2.cwnd - s.cwnd ≤ s.mss))) ∧
    (¬ s.phase = 1 → ¬ s2.phase = 1 → s2.ssth = s.ssth ∧ s.cwnd ≤ s2.cwnd ∧ s2.cwnd - s.cwnd ≤ s.abc * s.mss ∧ (flightP s2 < flightP s ∨ s2.cwnd = s.cwnd)) ∧
    (¬ s.phase = 1 → s2.phase = 1 → s.phase = 0 ∧ s2.ssth = cutV (flightP s) s.bn s.bd s.mss s.maxc ∧ s2.forced = true ∧ s2.cwnd ≤ s2.ssth + s.dupt * s.mss) := fun s2 e1 e2 e3 =>
    ⟨fun _ => ⟨e1, .inr (by omega)⟩, fun _ _ => ⟨e1, by omega, by omega, .inr e2⟩, fun h1 h2 => absurd (e3 ▸ h2) h1⟩
  subst hs'
  unfold ackP; split
  · exact same s rfl rfl rfl
  split
  · rename_i hc hx
    have un := advP_un (s := s) (ns := ns) (ack := ack) ((ack - s.una) % 4294967296)
    have ad := advP_c h ns ha ((ack - s.una) % 4294967296) (by omega)
    have hfl : flightP (advP s ns ack ((ack - s.una) % 4294967296)) < flightP s := by
      unfold flightP at hc ⊢; rw [un.1, un.2]; omega
    refine ⟨fun _ => ⟨ad.1, .inl hfl⟩, fun h1 _ => ⟨ad.1, (ad.2 h1).2.1, (ad.2 h1).2.2, .inl hfl⟩, fun h1 h2 => absurd h2 (ad.2 h1).1⟩
  split
  · unfold dupP; split
    · rename_i hd
      refine ⟨fun _ => ⟨rfl, .inr ?_⟩, fun h1 => absurd hd.1 h1, fun h1 => absurd hd.1 h1⟩
      unfold setC; simp only; omega
    split
    · rename_i hd
      have hcv := cutV_bd (f := flightP s) (bn := s.bn) (bd := s.bd) (mss := s.mss) (maxc := s.maxc) o4.1
      refine ⟨fun h1 => by omega, fun _ h2 => absurd rfl h2, fun _ _ => ⟨hd.1, rfl, rfl, ?_⟩⟩
      show min (max (entX (cutP { s with dups := (s.dups + 1) % 4294967296 }) ns) s.mss) s.maxc ≤ cutV (flightP s) s.bn s.bd s.mss s.maxc + s.dupt * s.mss
      have he : entX (cutP { s with dups := (s.dups + 1) % 4294967296 }) ns ≤ cutV (flightP s) s.bn s.bd s.mss s.maxc + s.dupt * s.mss := by
        unfold entX; split
        · exact Int.le_refl _
        · show cutV (flightP s) s.bn s.bd s.mss s.maxc ≤ _; omega
      omega
    · exact same _ rfl rfl rfl
  · exact same s rfl rfl rfl
section step
variable {o : DO} {t t' : St}
theorem rto_facts (s : CS) : (¬ flightP s = 0 → (rtoP s).forced = true ∧ (rtoP s).cwnd = s.mss ∧ (rtoP s).phase = 2 ∧ ((rtoP s).ssth = cutV (flightP s) s.bn s.bd s.mss s.maxc ∨ (rtoP s).ssth = s.ssth)) ∧ (flightP s = 0 → rtoP s = s) := by
  refine ⟨fun h => ?_, fun h => rtoP_1 h⟩
  unfold rtoP; rw [if_neg h]; split
  · exact ⟨rfl, rfl, rfl, .inr rfl⟩
  · exact ⟨rfl, rfl, rfl, .inl rfl⟩
theorem idle_facts (s : CS) : (idleP s).cwnd ≤ s.cwnd ∧ (idleP s).ssth = s.ssth := by
  unfold idleP; split
  · exact ⟨by simp only; omega, rfl⟩
  · exact ⟨Int.le_refl _, rfl⟩
end step
theorem next_stall {t : St} (hi : SI t) {fresh : Int} (hf : U fresh) (h1 : pipeP t.s t.ns t.bl = 0) (h2 : 0 < fresh) (h3 : flightP t.s ≤ 2147483647 - t.s.mss) : ¬ (nextP t.s t.ns t.bl fresh).k = 0 := by
  have o1 := hi.ok.mss; have o2 := hi.ok.cwnd; have o3 := flightP_U t.s
  have hc1 : cand1 t.s t.ns t.bl fresh = ⟨1, t.s.nxt, min (min fresh t.s.mss) (2147483647 - flightP t.s)⟩ := (cand1_1 (by omega)).symm
  have hnh : ∀ g, nhP t.s t.bl true = some g → g.k = 2 ∧ g.n ≤ t.s.mss := fun g hg => by
    unfold nhP at hg
    obtain ⟨x, hx, he⟩ := List.exists_of_findSome?_eq_some hg
    unfold nhOk at he
    split at he
    · cases he
    split at he
    · injection he with he; subst he
      exact ⟨rfl, by simp only; omega⟩
    · cases he
  have hc : ¬ (candP t.s t.ns t.bl fresh).k = 0 ∧ (candP t.s t.ns t.bl fresh).n ≤ t.s.mss := by
    unfold candP; split
    · cases h : nhP t.s t.bl true with
      | some g => have := hnh g h; exact ⟨by simp only [Option.getD_some]; omega, this.2⟩
      | none => simp only [Option.getD_none]; rw [hc1]; exact ⟨by simp only; omega, by simp only; omega⟩
    · rw [hc1]; exact ⟨by simp only; omega, by simp only; omega⟩
  unfold nextP; split
  · simp only; omega
  rw [h1, if_neg (by omega)]
  exact hc.1
theorem next_forced {t : St} {fresh : Int} (h : t.s.forced = true) : (nextP t.s t.ns t.bl fresh).k = 2 ∧ (nextP t.s t.ns t.bl fresh).q = t.s.una := by
  rw [← nextP_1 h]; exact ⟨rfl, rfl⟩

end Go.Proofs.Qxb6500912aGreatDoor

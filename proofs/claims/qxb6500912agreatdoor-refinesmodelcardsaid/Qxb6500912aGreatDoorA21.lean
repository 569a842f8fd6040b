import Derived.Test.Qxb6500912aGreatDoorA20
namespace Go.Proofs.Qxb6500912aGreatDoor
open Go.Eng
set_option linter.unusedVariables false
set_option linter.unusedSimpArgs false

/-! ## where the holes lie -/
def HOk (u : Int) (f : Nat) (lo : Nat) (r : List Bk) (h : Hole) : Prop :=
  ∃ hs he : Nat, h.s = (u + (hs : Int)) % 4294967296 ∧ h.e = (u + (he : Int)) % 4294967296 ∧ lo ≤ hs ∧ hs < he ∧ he ≤ f ∧ ∀ y, y ∈ r → he ≤ y.s ∨ y.e ≤ hs
theorem seg_geo {t : St} (hi : SI t) {bl : List (Int × Int)} {f ao eo : Nat} (hf : flightP t.s = (f : Int)) (hae : eo ≤ f) (hal : ao ≤ f) {tl : Bool} : ∀ h, h ∈ hsegP t.s bl ((t.s.una + (ao : Int)) % 4294967296) ((t.s.una + (eo : Int)) % 4294967296) tl →
    ∃ hs he : Nat, h.s = (t.s.una + (hs : Int)) % 4294967296 ∧ h.e = (t.s.una + (he : Int)) % 4294967296 ∧ ao ≤ hs ∧ hs < he ∧ he ≤ eo := fun h hh => by
  have hfl := hi.fl
  have hr := hi.ok.recov; have hu := hi.ok.una
  unfold hsegP at hh
  split at hh
  · rename_i hc
    obtain ⟨hp, h1, h2⟩ := hc
    have hro := hi.i2 (by omega)
    obtain ⟨ro, hro2⟩ : ∃ ro : Nat, (ro : Int) = (t.s.recov - t.s.una) % 4294967296 := ⟨((t.s.recov - t.s.una) % 4294967296).toNat, by omega⟩
    have er : t.s.recov = (t.s.una + (ro : Int)) % 4294967296 := by omega
    rw [er, lessP_off t.s.una (ao : Int) (ro : Int) (by omega)] at h1
    rw [er, lessP_off t.s.una (ro : Int) (eo : Int) (by omega)] at h2
    simp only [decide_eq_true_eq] at h1 h2
    simp only [List.mem_cons, List.not_mem_nil, or_false] at hh
    rcases hh with rfl | rfl
    · exact ⟨ao, ro, rfl, er, Nat.le_refl _, by omega, by omega⟩
    · exact ⟨ro, eo, er, rfl, by omega, by omega, Nat.le_refl _⟩
  split at hh
  · rename_i h1
    rw [lessP_off t.s.una (ao : Int) (eo : Int) (by omega)] at h1
    simp only [decide_eq_true_eq] at h1
    simp only [List.mem_cons, List.not_mem_nil, or_false] at hh
    subst hh
    exact ⟨ao, eo, rfl, rfl, Nat.le_refl _, by omega, Nat.le_refl _⟩
  · cases hh
theorem holes_geo {t : St} (hi : SI t) {bl : List (Int × Int)} {f : Nat} (hf : flightP t.s = (f : Int)) : ∀ (r : List Bk) (ao : Nat), ao ≤ f → BInv f r → (∀ y, y ∈ r → ao ≤ y.s) → ∀ h, h ∈ holesF t.s bl (r.map (Bk.ab t.s.una)) ((t.s.una + (ao : Int)) % 4294967296) → HOk t.s.una f ao r h
  | [], ao, h0, _, _, h, hh => by
    have hn : t.s.nxt = (t.s.una + (f : Int)) % 4294967296 := by
      have := hi.ok.nxt; have := hi.ok.una; unfold flightP at hf; omega
    unfold holesF at hh
    rw [hn] at hh
    obtain ⟨hs, he, e1, e2, h1, h2, h3⟩ := seg_geo hi hf (Nat.le_refl f) h0 h hh
    exact ⟨hs, he, e1, e2, h1, h2, h3, fun y hy => by cases hy⟩
  | b :: r, ao, h0, hB, ha, h, hh => by
    obtain ⟨hb1, hb2, hb3⟩ := hB
    have hb1' : b.s < b.e ∧ b.e ≤ f := hb1
    rw [List.map_cons] at hh
    unfold holesF at hh
    rcases List.mem_append.1 hh with hm | hm
    · obtain ⟨hs, he, e1, e2, h1, h2, h3⟩ := seg_geo hi hf (ao := ao) (eo := b.s) (by omega) h0 h hm
      refine ⟨hs, he, e1, e2, h1, h2, by omega, fun y hy => .inl ?_⟩
      rcases List.mem_cons.1 hy with rfl | hy
      · exact h3
      · have := hb2 y hy; omega
    · obtain ⟨hs, he, e1, e2, h1, h2, h3, h4⟩ := holes_geo hi hf r b.e (by omega) hb3 (fun y hy => by have := hb2 y hy; omega) h hm
      have hle := ha b (by simp)
      refine ⟨hs, he, e1, e2, by omega, h2, h3, fun y hy => ?_⟩
      rcases List.mem_cons.1 hy with rfl | hy
      · exact .inr h1
      · exact h4 y hy
/-- a repair that is apart from what was reported -/
def Fits9 (t : St) (g : Gr) : Prop := (g.q - t.s.una) % 4294967296 + g.n ≤ flightP t.s ∧ ∀ x, x ∈ t.os → (g.q - t.s.una) % 4294967296 + g.n ≤ (x.s : Int) ∨ (x.e : Int) ≤ (g.q - t.s.una) % 4294967296
def CL (t : St) (fresh : Int) (g : Gr) : Prop := g = g0 ∨ (g.k = 1 ∧ g.q = t.s.nxt ∧ 0 < g.n ∧ g.n ≤ t.s.mss ∧ g.n ≤ fresh) ∨ ((g.k = 2 ∨ g.k = 3) ∧ 0 < g.n ∧ g.n ≤ t.s.mss ∧ Fits9 t g)
theorem holes_all {t : St} (hi : SI t) : ∀ h, h ∈ holesP t.s t.bl → HOk t.s.una (flightP t.s).toNat 0 t.os h := fun h hh => by
  have hfu := flightP_U t.s; have hu := hi.ok.una
  have := holes_geo hi (bl := t.bl) (f := (flightP t.s).toNat) (by omega) t.os 0 (Nat.zero_le _) hi.bi (fun _ _ => Nat.zero_le _) h
  refine this ?_
  rw [show (t.s.una + ((0 : Nat) : Int)) % 4294967296 = t.s.una by omega]
  exact hh
theorem in_hole {t : St} (hi : SI t) {h : Hole} (hh : h ∈ holesP t.s t.bl) {k q n : Int} {qo : Nat} (hk : k = 2 ∨ k = 3) (hq : q = (t.s.una + (qo : Int)) % 4294967296) (hn : 0 < n) (hm : n ≤ t.s.mss)
    (hin : ∀ hs he : Nat, h.s = (t.s.una + (hs : Int)) % 4294967296 → h.e = (t.s.una + (he : Int)) % 4294967296 → hs < he → he ≤ (flightP t.s).toNat → hs ≤ qo ∧ (qo : Int) + n ≤ he) (fresh : Int) : CL t fresh ⟨k, q, n⟩ := by
  obtain ⟨hs, he, e1, e2, _, h2, h3, h4⟩ := holes_all hi h hh
  have hfu := flightP_U t.s; have hu := hi.ok.una; have hfl := hi.fl
  obtain ⟨h5, h6⟩ := hin hs he e1 e2 h2 h3
  have hoff : (q - t.s.una) % 4294967296 = (qo : Int) := by rw [hq]; omega
  refine .inr (.inr ⟨hk, hn, hm, ?_, fun x hx => ?_⟩)
  · show (q - t.s.una) % 4294967296 + n ≤ flightP t.s
    rw [hoff]; omega
  · show (q - t.s.una) % 4294967296 + n ≤ (x.s : Int) ∨ (x.e : Int) ≤ (q - t.s.una) % 4294967296
    rw [hoff]
    rcases h4 x hx with h | h
    · exact .inl (by omega)
    · exact .inr (by omega)
theorem nh_CL {t : St} (hi : SI t) {lost : Bool} {g : Gr} (h : nhP t.s t.bl lost = some g) (fresh : Int) : CL t fresh g := by
  have hfu := flightP_U t.s; have hu := hi.ok.una; have hfl := hi.fl; have hm := hi.ok.mss; have hhi := hi.ok.high; have hi1 := hi.i1
  unfold nhP at h
  obtain ⟨x, hx, he⟩ := List.exists_of_findSome?_eq_some h
  obtain ⟨hs, hee, e1, e2, _, h2, h3, h4⟩ := holes_all hi x hx
  obtain ⟨ho, hho⟩ : ∃ ho : Nat, (ho : Int) = (t.s.high - t.s.una) % 4294967296 := ⟨((t.s.high - t.s.una) % 4294967296).toNat, by omega⟩
  have eh : t.s.high = (t.s.una + (ho : Int)) % 4294967296 := by omega
  have hL := lessP_off t.s.una (hs : Int) (ho : Int) (by omega)
  have enh : nhS t.s x = (t.s.una + ((max hs ho : Nat) : Int)) % 4294967296 := by
    unfold nhS
    rw [e1, eh, hL]
    by_cases hc : (hs : Int) < (ho : Int)
    · rw [decide_eq_true hc, if_pos rfl, show max hs ho = ho by omega]
    · rw [decide_eq_false hc, if_neg (by simp), show max hs ho = hs by omega]
  unfold nhOk at he
  split at he
  · cases he
  split at he
  · rename_i hl
    injection he with he; subst he
    rw [enh, e2, lessP_off t.s.una ((max hs ho : Nat) : Int) (hee : Int) (by omega)] at hl
    simp only [decide_eq_true_eq] at hl
    have hd : (x.e - nhS t.s x) % 4294967296 = (hee : Int) - ((max hs ho : Nat) : Int) := by rw [enh, e2]; omega
    refine in_hole hi hx (qo := max hs ho) (.inl rfl) enh (by rw [hd]; omega) (by omega) (fun a b f1 f2 f3 f4 => ?_) fresh
    have ea : a = hs := by rw [e1] at f1; omega
    have eb : b = hee := by rw [e2] at f2; omega
    subst ea; subst eb
    rw [hd]
    exact ⟨by omega, by omega⟩
  · cases he
theorem last_mem {l : List Hole} (h : ¬ l = []) : lastH l ∈ l := by
  rcases List.eq_nil_or_concat l with h1 | ⟨m, x, rfl⟩
  · exact absurd h1 h
  · rw [List.concat_eq_append, lastH_snoc]; simp
theorem res_CL {t : St} (hi : SI t) (h0 : 0 < resN t.s t.bl) (fresh : Int) : CL t fresh (resP t.s t.bl) := by
  have hfu := flightP_U t.s; have hu := hi.ok.una; have hfl := hi.fl; have hm := hi.ok.mss
  have hne : ¬ holesP t.s t.bl = [] := fun e => by
    unfold resN at h0; rw [e] at h0; simp [lastH] at h0; omega
  have hx := last_mem hne
  generalize hxe : lastH (holesP t.s t.bl) = x at hx
  obtain ⟨hs, hee, e1, e2, _, h2, h3, h4⟩ := holes_all hi x hx
  have hN : resN t.s t.bl = min t.s.mss ((hee : Int) - (hs : Int)) := by
    unfold resN; rw [hxe, e1, e2]; congr 1; omega
  unfold resP
  rw [hxe]
  refine in_hole hi hx (qo := hee - (resN t.s t.bl).toNat) (.inr rfl) (by rw [e2]; omega) h0 (by omega) (fun a b f1 f2 f3 f4 => ?_) fresh
  have ea : a = hs := by rw [e1] at f1; omega
  have eb : b = hee := by rw [e2] at f2; omega
  subst ea; subst eb
  exact ⟨by omega, by omega⟩
theorem cand_CL {t : St} (hi : SI t) (fresh : Int) : CL t fresh (candP t.s t.ns t.bl fresh) := by
  have h2 : CL t fresh (cand2 t.s t.ns t.bl) := by
    unfold cand2; split
    · cases h : nhP t.s t.bl false with
      | some g => exact nh_CL hi h fresh
      | none =>
        simp only [Option.getD_none]; split
        · rename_i hc; exact res_CL hi hc.1 fresh
        · exact .inl rfl
    · exact .inl rfl
  have h1 : CL t fresh (cand1 t.s t.ns t.bl fresh) := by
    unfold cand1; split
    · rename_i hc
      exact .inr (.inl ⟨rfl, rfl, hc, by simp only; omega, by simp only; omega⟩)
    · exact h2
  unfold candP; split
  · cases h : nhP t.s t.bl true with
    | some g => exact nh_CL hi h fresh
    | none => exact h1
  · exact h1
theorem next_lim {t : St} (hi : SI t) (fresh : Int) {g : Gr} (hg : g = nextP t.s t.ns t.bl fresh) : (g.k = 0 → g = g0) ∧ (¬ g.k = 0 → 0 < g.n ∧ g.n ≤ t.s.mss) ∧ (t.s.forced = true → g.k = 2 ∧ g.q = t.s.una ∧ g.n ≤ flightP t.s) ∧
    (t.s.forced = false → ¬ g.k = 0 → pipeP t.s t.ns t.bl + g.n ≤ t.s.cwnd) ∧ (t.s.forced = false → g.k = 1 → g.q = t.s.nxt ∧ g.n ≤ fresh) ∧ (t.s.forced = false → ¬ g.k = 0 → ¬ g.k = 1 → Fits9 t g) := by
  have hfu := flightP_U t.s; have hm := hi.ok.mss
  have hc := cand_CL hi fresh
  unfold nextP at hg
  split at hg
  · rename_i hf
    have h3 := hi.i3 hf
    subst hg
    refine ⟨fun h => by simp only at h; omega, fun _ => ⟨by simp only; omega, by simp only; omega⟩, fun _ => ⟨rfl, rfl, by simp only; omega⟩, fun h => ?_, fun h => ?_, fun h => ?_⟩ <;> (rw [hf] at h; cases h)
  rename_i hf
  have hz : ∀ {p : Prop}, t.s.forced = true → p := fun h => absurd h hf
  split at hg
  · subst hg
    exact ⟨fun _ => rfl, fun h => absurd rfl h, fun h => hz h, fun _ h => absurd rfl h, fun _ h => absurd h (by decide), fun _ h => absurd rfl h⟩
  · rename_i hcw
    subst hg
    generalize candP t.s t.ns t.bl fresh = g at hc hcw
    rcases hc with rfl | ⟨k1, q1, n1, n2, n3⟩ | ⟨k1, n1, n2, n3⟩
    · exact ⟨fun _ => rfl, fun h => absurd rfl h, fun h => hz h, fun _ h => absurd rfl h, fun _ h => absurd h (by decide), fun _ h => absurd rfl h⟩
    · exact ⟨fun h => by omega, fun _ => ⟨n1, n2⟩, fun h => hz h, fun _ _ => by omega, fun _ _ => ⟨q1, n3⟩, fun _ _ h => absurd k1 h⟩
    · exact ⟨fun h => by omega, fun _ => ⟨n1, n2⟩, fun h => hz h, fun _ _ => by omega, fun _ h => by omega, fun _ _ _ => n3⟩
theorem bl_off {t : St} (hi : SI t) {i : Nat} {q : Int × Int} (h : t.bl[i]? = some q) : ∃ x, x ∈ t.os ∧ (q.1 - t.s.una) % 4294967296 = (x.s : Int) ∧ (q.2 - t.s.una) % 4294967296 = (x.e : Int) := by
  unfold St.bl at h
  rw [List.getElem?_map] at h
  cases hx : t.os[i]? with
  | none => rw [hx] at h; cases h
  | some x =>
    rw [hx] at h
    injection h with h
    subst h
    have hm := List.mem_of_getElem? hx
    have hb : x.s < x.e ∧ x.e ≤ (flightP t.s).toNat := hi.bi.all x hm
    have := hi.fl; have := hi.ok.una
    refine ⟨x, hm, ?_, ?_⟩ <;> (unfold Bk.ab; simp only; omega)

end Go.Proofs.Qxb6500912aGreatDoor

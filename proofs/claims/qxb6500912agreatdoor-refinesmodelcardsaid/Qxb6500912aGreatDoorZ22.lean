import Derived.Test.Qxb6500912aGreatDoorZ21
namespace Go.Proofs.Qxb6500912aGreatDoor
open Go.Eng
set_option linter.unusedVariables false
set_option linter.unusedSimpArgs false

/-! ## the holes part the flight -/
def Part (ns : Prop) (g l : Nat → Bool) (f : Nat) : List HN → Nat → Prop
  | [], p => ∀ k, p ≤ k → k < f → g k = true
  | x :: r, p => p ≤ x.a ∧ (∀ k, p ≤ k → k < x.a → g k = true) ∧ x.a < x.e ∧ x.e ≤ f ∧ (∀ k, x.a ≤ k → k < x.e → g k = false ∧ l k = x.lost) ∧ (x.e = f ∨ g x.e = true ∨ l x.e = !x.lost) ∧ (x.tail = true → ∀ k, x.a ≤ k → k < f → g k = false) ∧ (x.tail = false → ∃ k, x.e ≤ k ∧ k < f ∧ g k = true) ∧ (ns → x.a = 0 ∨ g (x.a - 1) = true) ∧ Part ns g l f r x.e
theorem Part.down {ns : Prop} {g l : Nat → Bool} {f p p' : Nat} : ∀ {L : List HN}, Part ns g l f L p' → p ≤ p' → (∀ k, p ≤ k → k < p' → g k = true) → Part ns g l f L p
  | [], h, _, h2 => fun k h3 h4 => by
    by_cases c : k < p'
    · exact h2 k h3 c
    · exact h k (by omega) h4
  | x :: r, ⟨h1, h2, h3⟩, h4, h5 => ⟨by omega, fun k h6 h7 => by
    by_cases c : k < p'
    · exact h5 k h6 c
    · exact h2 k (by omega) h7, h3⟩
theorem seg_part {m : CS} {f : Nat} {os : List Bk} (ho : BInv f os) (hr : m.phase = 2 → m.una ≤ m.recov) {a e : Nat} (hae : a ≤ e) (hef : e ≤ f) (hk : ∀ k, a ≤ k → k < e → covB os k = false) (hend : e = f ∨ covB os e = true) {t : Bool} (ht1 : t = true → ∀ k, a ≤ k → k < f → covB os k = false) (ht2 : t = false → ∃ k, e ≤ k ∧ k < f ∧ covB os k = true) (ha : a = 0 ∨ covB os (a - 1) = true) {R : List HN} (hR : Part (¬ m.phase = 2) (covB os) (lsG m f (covB os)) f R e) :
    Part (¬ m.phase = 2) (covB os) (lsG m f (covB os)) f (segN m (lsG m f (covB os)) a e t ++ R) a := by
  have hnc : ∀ k, a ≤ k → k < e → ¬ Cov os k := fun k h1 h2 h3 => by
    have := covB_iff.2 h3; rw [hk k h1 h2] at this; cases this
  have hgap : ∀ k1 k2, a ≤ k1 → k1 < e → a ≤ k2 → k2 < e → ∀ x, x ∈ os → (k1 < x.s ↔ k2 < x.s) := fun k1 k2 h1 h2 h3 h4 x hx => by
    have hb := ho.all x hx
    have hb1 := hb.1
    constructor
    · intro h5
      refine Nat.lt_of_not_le fun h6 => hnc x.s (by omega) (by omega) ⟨x, hx, Nat.le_refl _, hb1⟩
    · intro h5
      refine Nat.lt_of_not_le fun h6 => hnc x.s (by omega) (by omega) ⟨x, hx, Nat.le_refl _, hb1⟩
  unfold segN
  by_cases c : m.phase = 2 ∧ a < rvN m ∧ rvN m < e
  · obtain ⟨c1, c2, c3⟩ := c
    have h0 := hr c1
    rw [if_pos ⟨c1, c2, c3⟩]
    have hrv : (rvN m : Int) = m.recov - m.una := by unfold rvN; omega
    have hl1 : ∀ k : Nat, k < rvN m → lsG m f (covB os) k = true := fun k h1 => by unfold lsG; rw [if_pos c1]; exact decide_eq_true (by omega)
    have hl2 : ∀ k : Nat, rvN m ≤ k → lsG m f (covB os) k = false := fun k h1 => by unfold lsG; rw [if_pos c1]; exact decide_eq_false (by omega)
    refine ⟨Nat.le_refl _, fun k h1 h2 => absurd h2 (by simp only; omega), c2, by simp only; omega, fun k h1 h2 => ⟨hk k h1 (by simp only at h2; omega), hl1 k h2⟩, .inr (.inr (hl2 _ (Nat.le_refl _))), fun h => ht1 h, fun h => ?_, fun h => absurd c1 h, ?_⟩
    · obtain ⟨k, h1, h2, h3⟩ := ht2 h
      exact ⟨k, by simp only; omega, h2, h3⟩
    · refine ⟨Nat.le_refl _, fun k h1 h2 => absurd h2 (by simp only at h1 ⊢; omega), c3, hef, fun k h1 h2 => ⟨hk k (by simp only at h1; omega) h2, ?_⟩, ?_, fun h k h1 h2 => ht1 h k (by simp only at h1; omega) h2, fun h => ht2 h, fun h => absurd c1 h, hR⟩
      · simp only at h1 ⊢
        rw [hl2 k h1, hl2 _ (Nat.le_refl _)]
      · rcases hend with h | h
        · exact .inl h
        · exact .inr (.inl h)
  · rw [if_neg c]
    by_cases c2 : a < e
    · rw [if_pos c2]
      refine ⟨Nat.le_refl _, fun k h1 h2 => absurd h2 (by simp only; omega), c2, hef, fun k h1 h2 => ⟨hk k h1 h2, ?_⟩, ?_, fun h => ht1 h, fun h => ht2 h, fun _ => ha, hR⟩
      · simp only at h1 h2 ⊢
        refine ls_const ho (hnc k h1 h2) (hnc a (Nat.le_refl _) c2) (hgap k a h1 h2 (Nat.le_refl _) c2) fun hp => ?_
        have h0 := hr hp
        have hrv : (rvN m : Int) = m.recov - m.una := by unfold rvN; omega
        have : ¬ (a < rvN m ∧ rvN m < e) := fun h => c ⟨hp, h⟩
        omega
      · rcases hend with h | h
        · exact .inl h
        · exact .inr (.inl h)
    · rw [if_neg c2]
      obtain rfl : a = e := by omega
      exact hR
theorem holes_part {m : CS} {f : Nat} {os : List Bk} (ho : BInv f os) (hr : m.phase = 2 → m.una ≤ m.recov) : ∀ (r : List Bk) (a : Nat), a ≤ f → BInv f r → (∀ y, y ∈ r → a ≤ y.s) → (∀ k, a ≤ k → (covB os k = true ↔ Cov r k)) → (a = 0 ∨ covB os (a - 1) = true) →
    Part (¬ m.phase = 2) (covB os) (lsG m f (covB os)) f (holesN m (lsG m f (covB os)) f r a) a
  | [], a, haf, _, _, hc, ha => by
    have h0 : ∀ k, a ≤ k → covB os k = false := fun k h1 => by
      cases h : covB os k with
      | false => rfl
      | true => obtain ⟨z, hz, _⟩ := (hc k h1).1 h; cases hz
    have := seg_part (m := m) (t := true) (R := []) ho hr haf (Nat.le_refl f) (fun k h1 _ => h0 k h1) (.inl rfl) (fun _ k h1 _ => h0 k h1) (fun h => by cases h) ha (fun k h1 h2 => absurd h2 (by omega))
    rw [List.append_nil] at this
    exact this
  | x :: r, a, haf, hb, hy, hc, ha => by
    have hx1 := hb.1.1; have hx2 := hb.1.2
    have hax := hy x List.mem_cons_self
    have hcx : ∀ k, x.s ≤ k → k < x.e → covB os k = true := fun k h1 h2 => (hc k (by omega)).2 ⟨x, List.mem_cons_self, h1, h2⟩
    have ih := holes_part ho hr r x.e hx2 hb.2.2 (fun y hy2 => by have := hb.2.1 y hy2; omega) (fun k hk => by
      rw [hc k (by omega)]
      constructor
      · rintro ⟨z, hz, h1, h2⟩
        rcases List.mem_cons.1 hz with e | e
        · rw [e] at h2; omega
        · exact ⟨z, e, h1, h2⟩
      · rintro ⟨z, hz, h⟩; exact ⟨z, List.mem_cons_of_mem _ hz, h⟩) (.inr (hcx _ (by omega) (by omega)))
    exact seg_part ho hr hax (by omega) (fun k h1 h2 => by
      cases h : covB os k with
      | false => rfl
      | true =>
        obtain ⟨z, hz, h3, h4⟩ := (hc k h1).1 h
        rcases List.mem_cons.1 hz with e | e
        · rw [e] at h3; omega
        · have := hb.2.1 z e; omega) (.inr (hcx _ (Nat.le_refl _) hx1)) (fun h => by cases h) (fun _ => ⟨x.s, Nat.le_refl _, by omega, hcx _ (Nat.le_refl _) hx1⟩) ha (ih.down (by omega) hcx)
theorem holesN_part {m : CS} {f : Nat} {os : List Bk} (ho : BInv f os) (hr : m.phase = 2 → m.una ≤ m.recov) : Part (¬ m.phase = 2) (covB os) (lsG m f (covB os)) f (holesN m (lsG m f (covB os)) f os 0) 0 :=
  holes_part ho hr os 0 (Nat.zero_le _) ho (fun _ _ => Nat.zero_le _) (fun _ _ => covB_iff) (.inl rfl)
/-! ## the estimate -/
theorem pipe_part {s m : CS} {st : Int} (h : RelS s m st) {hi f : Nat} (hh : m.high - m.una = (hi : Int)) (hf : f ≤ 2147483647) (hhf : hi ≤ f) {ns : Prop} {g l : Nat → Bool} : ∀ (L : List HN) (p : Nat), p ≤ f → Part ns g l f L p → (L.map (HN.ho s.una)).foldl (pipeStep s) (pcn m g l p : Int) = (pcn m g l f : Int)
  | [], p, hp, hL => by rw [List.map_nil, List.foldl_nil, ← pcn_cov hp hL]
  | x :: r, p, hp, ⟨h1, h2, h3, h4, h5, _, _, _, _, h6⟩ => by
    have e1 : pcn m g l x.a = pcn m g l p := pcn_cov h1 h2
    have e2 := pcn_gap (s := m) (l := l) (b := x.lost) hh (Nat.le_of_lt h3) h5
    have e3 := pcn_le m g l x.a
    rw [List.map_cons, List.foldl_cons, ← e1, pstep_same h hh hf hhf ⟨Nat.le_of_lt h3, h4⟩ (by omega), ← e2]
    exact pipe_part h hh hf hhf r x.e h4 h6
theorem skG_cov {sk : Bool} {os : List Bk} (h : sk = false → os = []) : skG sk os = covB os := by
  funext k
  unfold skG
  cases sk with
  | true => rfl
  | false => rw [h rfl]; rfl
/-- the estimate, where the flight is walked -/
theorem pipeH_same {s m : CS} {st : Int} (h : RelS s m st) (hm : Mk m) {f : Nat} (hf : m.nxt - m.una = (f : Int)) {os : List Bk} (ho : BInv f os) (hl : os.length ≤ 16) (hU : U s.una) {sk : Bool} (hsk : sk = false → os = []) : pipeH s (holesP s (os.map (Bk.ab s.una))) = pipeW m sk os f := by
  have h1 := hm.high; have h2 := hm.fl
  obtain ⟨hi, hh⟩ : ∃ hi : Nat, m.high - m.una = (hi : Int) := ⟨(m.high - m.una).toNat, by omega⟩
  unfold pipeH pipeW
  rw [holesP_same h hm hf ho hl hU, skG_cov hsk]
  exact pipe_part h hh (by omega) (by omega) _ 0 (Nat.zero_le _) (holesN_part ho fun hp => (h.rec1 (by omega)).2)
theorem pipeP_same {s m : CS} {st : Int} (h : RelS s m st) (hm : Mk m) {f : Nat} (hf : m.nxt - m.una = (f : Int)) {os : List Bk} (ho : BInv f os) (hl : os.length ≤ 16) (hU : U s.una) {sk : Bool} (hsk : sk = false → os = []) :
    ((sk = true ∨ m.phase = 2) → pipeP s (!sk) (os.map (Bk.ab s.una)) = pipeW m sk os f) ∧ ((sk = false ∧ ¬ m.phase = 2) → pipeP s (!sk) (os.map (Bk.ab s.una)) = pipeN m) := by
  have hp : s.phase = m.phase := h.win.2.2.2.2
  refine ⟨fun hw => ?_, fun ⟨h1, h2⟩ => ?_⟩
  · rw [← pipeH_same h hm hf ho hl hU hsk]
    rcases hw with hw | hw
    · exact (pipeP_3 (by rw [hw]; rfl)).symm
    · exact (pipeP_4 (by rw [hp]; exact hw)).symm
  · have hfl := h.flight hm
    have hd := hm.dupt; have hms := hm.mss; have hdd := hm.dups; have hu := hm.una
    have hp2 := prod_bd (a := min m.dups (m.dupt - 1)) (b := m.mss) (A := 15) (B := 65535) (by omega) (by omega)
    unfold pipeN
    by_cases c : m.phase = 1
    · rw [if_pos c, ← hfl]; exact (pipeP_1 (by rw [h1]; rfl) (by rw [hp]; exact h2) (by rw [hp]; exact c)).symm
    · rw [if_neg c, ← pipeP_2 (by rw [h1]; rfl) (by rw [hp]; exact h2) (by rw [hp]; exact c), hfl, h.win.2.2.2.1, h.cf.2.2.2.2.2.1, h.cf.2.2.2.2.2.2.2]
      omega

end Go.Proofs.Qxb6500912aGreatDoor

import Derived.Test.Qxb6500914aGreatI0
namespace Go.Proofs.Qxb6500914aGreat
open Go.Eng
set_option linter.unusedVariables false
set_option linter.unusedSimpArgs false

/-- steps left if nobody interferes -/
def base (p : PG) : Nat := if p.pc = 0 then 39 else if p.pc = 1 then 38 else if p.pc = 2 then 37 else if p.pc = 3 then 36 - p.at_.toNat else if p.pc = 4 then 20 else if p.pc = 5 then 19 else if p.pc = 6 then 18 - p.at_.toNat else if p.pc = 7 then 2 else 1
/-- and those lost for a root that is no longer current -/
def pen (r : Int) (p : PG) : Nat := if 2 ≤ p.pc ∧ p.pc ≤ 7 ∧ p.root ≠ r then (if p.pc ≤ 4 then 18 else 36) else 0
def rest (k : Bool) (m : MS) (p : PG) : Nat := base p + pen (m.word (hd k)) p
theorem pen_le (r : Int) (p : PG) : pen r p ≤ 36 := by unfold pen; (repeat' split) <;> omega
theorem pen_early (r : Int) (p : PG) (h : p.pc ≤ 4) : pen r p ≤ 18 := by unfold pen; (repeat' split) <;> omega
theorem pen_out (r : Int) (p : PG) (h : p.pc < 2 ∨ 7 < p.pc) : pen r p = 0 := by unfold pen; rw [if_neg (by omega)]
theorem pen_cur (r : Int) (p : PG) (h : p.root = r) : pen r p = 0 := by unfold pen; rw [if_neg (fun q => q.2.2 h)]
theorem pen_stale (r : Int) (p : PG) (h : p.root ≠ r) (h1 : 2 ≤ p.pc) (h2 : p.pc ≤ 7) : pen r p = if p.pc ≤ 4 then 18 else 36 := by unfold pen; rw [if_pos ⟨h1, h2, h⟩]
theorem base_at {p : PG} {c : Int} (h : p.pc = c) : base p = if c = 0 then 39 else if c = 1 then 38 else if c = 2 then 37 else if c = 3 then 36 - p.at_.toNat else if c = 4 then 20 else if c = 5 then 19 else if c = 6 then 18 - p.at_.toNat else if c = 7 then 2 else 1 := by subst h; rfl
theorem at_lt {k : Bool} {t : Nat} {p : PG} (h : PI k t p) (e : p.pc = 3 ∨ p.pc = 6) : 0 ≤ p.at_ ∧ p.at_ < 16 := by
  obtain ⟨j, nn, hj, hn, hn8, hjn⟩ := h.at_ e
  have := (wd_le k).2
  have : nn * wd k ≤ 8 * 2 := Nat.mul_le_mul hn8 this
  omega
theorem base_pos {k : Bool} {t : Nat} {p : PG} (h : PI k t p) : 1 ≤ base p ∧ base p ≤ 39 := by
  unfold base
  (repeat' split) <;> first | omega | skip
  · have := at_lt h (.inl (by assumption)); omega
  · have := at_lt h (.inr (by assumption)); omega
theorem rest_le {k : Bool} {t : Nat} {m : MS} {p : PG} (h : PI k t p) : 1 ≤ rest k m p ∧ rest k m p ≤ 55 := by
  have h1 := base_pos h
  have h2 := pen_le (m.word (hd k)) p
  unfold rest
  refine ⟨by omega, ?_⟩
  by_cases h3 : p.pc ≤ 1
  · rw [pen_out _ _ (.inl (by omega))]; omega
  · by_cases h4 : p.pc ≤ 4
    · have := pen_early (m.word (hd k)) p h4
      have : base p ≤ 37 := by unfold base; (repeat' split) <;> omega
      omega
    · have : base p ≤ 19 := by unfold base; (repeat' split) <;> omega
      omega
theorem pen_eq {r : Int} {p q : PG} (h1 : q.root = p.root) (h2 : (q.pc ≤ 4 ↔ p.pc ≤ 4)) (h3 : 2 ≤ q.pc ∧ q.pc ≤ 7) (h4 : 2 ≤ p.pc ∧ p.pc ≤ 7) : pen r q = pen r p := by
  by_cases h : p.root = r
  · rw [pen_cur r p h, pen_cur r q (h1.trans h)]
  · rw [pen_stale r p h h4.1 h4.2, pen_stale r q (fun e => h (h1.symm.trans e)) h3.1 h3.2]
    by_cases c : p.pc ≤ 4
    · rw [if_pos c, if_pos (h2.2 c)]
    · rw [if_neg c, if_neg (fun e => c (h2.1 e))]
/-- own steps count down; the root word changes only with the swap -/
theorem rest_step {k : Bool} {t : Nat} {m : MS} {p : PG} (h : PI k t p) (hM : MI m) (hret : (stepF k m p).ret = false) :
    (rest k (stepF k m p).m (stepF k m p).p + 1 ≤ rest k m p) ∧ ((∀ k', (stepF k m p).m.word (hd k') = m.word (hd k')) ∧ (p.pc ≤ 7 ∧ (stepF k m p).p.pc ≤ 7) ∨ ((∀ k', k' ≠ k → (stepF k m p).m.word (hd k') = m.word (hd k')) ∧ p.pc = 7 ∧ (stepF k m p).p.pc = 8)) := by
  have hpc := h.pc
  have hself : p.self.toNat = t := by have := h.self; omega
  rcases (show p.pc = 0 ∨ p.pc = 1 ∨ p.pc = 2 ∨ p.pc = 3 ∨ p.pc = 4 ∨ p.pc = 5 ∨ p.pc = 6 ∨ p.pc = 7 ∨ p.pc = 8 by omega) with e | e | e | e | e | e | e | e | e
  · rw [stepF_0 e, hself]
    refine ⟨?_, .inl ⟨fun _ => rfl, by omega, by show (1 : Int) ≤ 7; decide⟩⟩
    show base ((p.s_sp _).s_pc 1) + pen _ ((p.s_sp _).s_pc 1) + 1 ≤ base p + _
    rw [pen_out _ ((p.s_sp _).s_pc 1) (.inl (by show (1 : Int) < 2; decide)), base_at (p := (p.s_sp _).s_pc 1) (c := 1) rfl, base_at e]
    first | (simp; done) | (simp; omega)
  · rw [stepF_1 e]
    refine ⟨?_, .inl ⟨fun _ => rfl, by omega, by show (2 : Int) ≤ 7; decide⟩⟩
    show base ((p.s_root (m.word (hd k))).s_pc 2) + pen (m.word (hd k)) ((p.s_root (m.word (hd k))).s_pc 2) + 1 ≤ base p + _
    rw [pen_cur (m.word (hd k)) ((p.s_root (m.word (hd k))).s_pc 2) rfl, base_at (p := (p.s_root _).s_pc 2) (c := 2) rfl, base_at e]
    first | (simp; done) | (simp; omega)
  · obtain ⟨r, hr, hr1, hr2⟩ := h.root (by omega)
    have hr' : p.root.toNat = r := by omega
    obtain ⟨c, hc, hc8⟩ := hM.cnt k (r % 256) hr2
    rw [stepF_2 e (by rw [hr', hc]; omega), hr', hc]
    obtain ⟨g1, g2, g3, g4⟩ := through_hdr (p.s_n c) 3 4
    generalize throughF (p.s_n (c : Int)) 3 4 = q at g1 g2 g3 g4
    have hq : q.pc = 4 ∨ q.pc = 3 := by rcases g4 with ⟨_, z⟩ | ⟨_, z⟩; exact .inl z; exact .inr z
    refine ⟨?_, .inl ⟨fun _ => rfl, by omega, by show q.pc ≤ 7; omega⟩⟩
    show base q + pen (m.word (hd k)) q + 1 ≤ base p + pen (m.word (hd k)) p
    rw [pen_eq (p := p) (q := q) g1.root (by omega) (by omega) (by omega), base_at e]
    have : base q ≤ 36 := by unfold base; (repeat' split) <;> omega
    first | (simp; done) | (simp; omega)
  · obtain ⟨j, nn, hj, hn, hn8, hjn⟩ := h.at_ (.inl e)
    have hlt := at_lt h (.inl e)
    rw [stepF_3 e]
    generalize m.word (nd k (p.root.toNat % 256) + 1 + p.at_.toNat) = x
    obtain ⟨s1, s2, s3, s4, _⟩ := setCell_hdr k p p.at_.toNat x
    generalize setCell k p p.at_.toNat x = q at s1 s2 s3 s4
    obtain ⟨g1, g2, g3, g4⟩ := walked_hdr q 4
    generalize walkedF q 4 = q2 at g1 g2 g3 g4
    have hq : q2.pc = 4 ∨ q2.pc = 3 := by rcases g4 with ⟨_, z⟩ | ⟨_, z⟩; exact .inl z; exact .inr (by omega)
    refine ⟨?_, .inl ⟨fun _ => rfl, by omega, by show q2.pc ≤ 7; omega⟩⟩
    show base q2 + pen (m.word (hd k)) q2 + 1 ≤ base p + pen (m.word (hd k)) p
    rw [pen_eq (p := p) (q := q2) (g1.root.trans s1.root) (by omega) (by omega) (by omega), base_at e]
    rcases hq with z | z
    · rw [base_at z]; simp; omega
    · rw [base_at z, g3, s4]; simp; omega
  · obtain ⟨nn, hn, hn8⟩ := h.n (by omega)
    have hn' : p.n.toNat = nn := by omega
    by_cases hw : m.word (hd k) = p.root
    · cases hc : (applyF p p.n.toNat p.ck p.cv p.cp).ch
      · rw [stepF_4c e hw hc] at hret; cases hret
      · rw [stepF_4b e hw hc, hn']
        obtain ⟨g1, g2, g3, n', g4, g5⟩ := apply_hdr p nn hn hn8 p.ck p.cv p.cp
        refine ⟨?_, .inl ⟨fun _ => rfl, by omega, by show (5 : Int) ≤ 7; decide⟩⟩
        show base ((ARp (applyF p nn p.ck p.cv p.cp)).s_pc 5) + pen (m.word (hd k)) ((ARp (applyF p nn p.ck p.cv p.cp)).s_pc 5) + 1 ≤ base p + _
        rw [pen_cur _ ((ARp (applyF p nn p.ck p.cv p.cp)).s_pc 5) (g1.root.trans hw.symm), base_at (p := (ARp (applyF p nn p.ck p.cv p.cp)).s_pc 5) (c := 5) rfl, base_at e]
        first | (simp; done) | (simp; omega)
    · rw [stepF_4a e hw]
      refine ⟨?_, .inl ⟨fun _ => rfl, by omega, by show (2 : Int) ≤ 7; decide⟩⟩
      show base ((p.s_root (m.word (hd k))).s_pc 2) + pen (m.word (hd k)) ((p.s_root (m.word (hd k))).s_pc 2) + 1 ≤ base p + pen (m.word (hd k)) p
      have hp := pen_stale (m.word (hd k)) p (fun q => hw q.symm) (by omega) (by omega)
      rw [if_pos (by omega)] at hp
      rw [pen_cur (m.word (hd k)) ((p.s_root (m.word (hd k))).s_pc 2) rfl, base_at (p := (p.s_root _).s_pc 2) (c := 2) rfl, base_at e, hp]
      simp
  · rw [stepF_5 e]
    obtain ⟨s, hs, hs7⟩ := h.sp (by omega)
    obtain ⟨g1, g2, g3, g4⟩ := through_hdr p 6 7
    generalize throughF p 6 7 = q at g1 g2 g3 g4
    have hq : q.pc = 7 ∨ q.pc = 6 := by rcases g4 with ⟨_, z⟩ | ⟨_, z⟩; exact .inl z; exact .inr z
    have hwd : ∀ k', (putF (beginF m 2 (nd k p.sp.toNat)) p.n (nd k p.sp.toNat)).word (hd k') = m.word (hd k') := fun k' => by
      show updF m.word (nd k p.sp.toNat) p.n (hd k') = _
      rw [show p.sp.toNat = s by omega]
      exact updF_ne _ _ (hd_ne_nd k' k s hs7 0 (by omega) 0 (by omega))
    refine ⟨?_, .inl ⟨hwd, by omega, by show q.pc ≤ 7; omega⟩⟩
    show base q + pen ((putF (beginF m 2 (nd k p.sp.toNat)) p.n (nd k p.sp.toNat)).word (hd k)) q + 1 ≤ base p + pen (m.word (hd k)) p
    rw [hwd, pen_eq (p := p) (q := q) g1.root (by omega) (by omega) (by omega), base_at e]
    have : base q ≤ 18 := by unfold base; (repeat' split) <;> omega
    first | (simp; done) | (simp; omega)
  · obtain ⟨s, hs, hs7⟩ := h.sp (by omega)
    obtain ⟨j, nn, hj, hn, hn8, hjn⟩ := h.at_ (.inr e)
    have hj8 : j < 8 * wd k := Nat.lt_of_lt_of_le hjn (Nat.mul_le_mul_right _ hn8)
    have hlt := at_lt h (.inr e)
    rw [stepF_6 e]
    obtain ⟨g1, g2, g3, g4⟩ := walked_hdr p 7
    generalize walkedF p 7 = q at g1 g2 g3 g4
    have hq : q.pc = 7 ∨ q.pc = 6 := by rcases g4 with ⟨_, z⟩ | ⟨_, z⟩; exact .inl z; exact .inr (by omega)
    have hwd : ∀ k', (putF (beginF m 2 (nd k p.sp.toNat + 1 + p.at_.toNat)) (cellV k p p.at_.toNat) (nd k p.sp.toNat + 1 + p.at_.toNat)).word (hd k') = m.word (hd k') := fun k' => by
      show updF m.word (nd k p.sp.toNat + 1 + p.at_.toNat) _ (hd k') = _
      rw [show p.sp.toNat = s by omega, show p.at_.toNat = j by omega]
      exact updF_ne _ _ (by have := hd_ne_nd k' k s hs7 (1 + j) (by omega) 0 (by omega); omega)
    refine ⟨?_, .inl ⟨hwd, by omega, by show q.pc ≤ 7; omega⟩⟩
    show base q + pen ((putF (beginF m 2 (nd k p.sp.toNat + 1 + p.at_.toNat)) (cellV k p p.at_.toNat) (nd k p.sp.toNat + 1 + p.at_.toNat)).word (hd k)) q + 1 ≤ base p + pen (m.word (hd k)) p
    rw [hwd, pen_eq (p := p) (q := q) g1.root (by omega) (by omega) (by omega), base_at e]
    rcases hq with z | z
    · rw [base_at z]; simp; omega
    · rw [base_at z, g3]; simp; omega
  · by_cases hw : m.word (hd k) = p.root
    · rw [stepF_7a e hw]
      refine ⟨?_, .inr ⟨fun k' hk => ?_, e, rfl⟩⟩
      · show base (p.s_pc 8) + pen _ (p.s_pc 8) + 1 ≤ base p + _
        rw [pen_out _ (p.s_pc 8) (.inr (by show (7 : Int) < 8; decide)), base_at (p := p.s_pc 8) (c := 8) rfl, base_at e]
        simp
      · show (casF m (hd k) p.root (succF p.root.toNat p.sp.toNat)).word (hd k') = _
        rw [cas_word, if_pos hw]
        exact updF_ne _ _ (fun q => hk (hd_inj _ _ q))
    · have hwd : (casF m (hd k) p.root (succF p.root.toNat p.sp.toNat)).word = m.word := by rw [cas_word, if_neg hw]
      rw [stepF_7b e hw]
      refine ⟨?_, .inl ⟨fun k' => by show (casF m (hd k) p.root (succF p.root.toNat p.sp.toNat)).word (hd k') = _; rw [hwd], by omega, by show (2 : Int) ≤ 7; decide⟩⟩
      show base ((p.s_root (m.word (hd k))).s_pc 2) + pen ((casF m (hd k) p.root (succF p.root.toNat p.sp.toNat)).word (hd k)) ((p.s_root (m.word (hd k))).s_pc 2) + 1 ≤ base p + pen (m.word (hd k)) p
      have hp := pen_stale (m.word (hd k)) p (fun q => hw q.symm) (by omega) (by omega)
      rw [if_neg (by omega)] at hp
      rw [hwd, pen_cur (m.word (hd k)) ((p.s_root (m.word (hd k))).s_pc 2) rfl, base_at (p := (p.s_root _).s_pc 2) (c := 2) rfl, base_at e, hp]
      simp
  · rw [stepF_8 e] at hret; cases hret
theorem word_ret {k : Bool} {t : Nat} {m : MS} {p : PG} (h : PI k t p) (hret : (stepF k m p).ret = true) (k' : Bool) : (stepF k m p).m.word (hd k') = m.word (hd k') := by
  have hpc := h.pc
  have hself : p.self.toNat = t := by have := h.self; omega
  rcases (show p.pc = 0 ∨ p.pc = 1 ∨ p.pc = 2 ∨ p.pc = 3 ∨ p.pc = 4 ∨ p.pc = 5 ∨ p.pc = 6 ∨ p.pc = 7 ∨ p.pc = 8 by omega) with e | e | e | e | e | e | e | e | e
  · rw [stepF_0 e] at hret; cases hret
  · rw [stepF_1 e] at hret; cases hret
  · by_cases h8 : 8 < m.word (nd k (p.root.toNat % 256))
    · have : stepF k m p = ⟨beginF m 1 (nd k (p.root.toNat % 256)), p.s_pc 1, false⟩ := by unfold stepF; rw [if_neg (by omega), if_neg (by omega), if_pos e, if_pos h8]
      rw [this]; rfl
    · rw [stepF_2 e h8] at hret; cases hret
  · rw [stepF_3 e] at hret; cases hret
  · by_cases hw : m.word (hd k) = p.root
    · cases hc : (applyF p p.n.toNat p.ck p.cv p.cp).ch
      · rw [stepF_4c e hw hc]; rfl
      · rw [stepF_4b e hw hc] at hret; cases hret
    · rw [stepF_4a e hw] at hret; cases hret
  · rw [stepF_5 e] at hret; cases hret
  · rw [stepF_6 e] at hret; cases hret
  · by_cases hw : m.word (hd k) = p.root
    · rw [stepF_7a e hw] at hret; cases hret
    · rw [stepF_7b e hw] at hret; cases hret
  · rw [stepF_8 e, hself]
    exact updF_ne _ _ (hd_ne_sp k' k t h.ht)
/-- a thread's share of the work left -/
def phiT (W : WS) (t : Nat) : Nat := match W.run t with
  | none => 0
  | some x => rest x.1 W.m x.2 + (if x.2.pc ≤ 7 then 180 else 0)
def phi (W : WS) : Nat := phiT W 0 + phiT W 1 + phiT W 2 + phiT W 3 + phiT W 4 + phiT W 5
theorem phiT_le {W : WS} (h : WI W) (t : Nat) : phiT W t ≤ 235 := by
  unfold phiT
  split
  · omega
  · rename_i x hx
    have := (rest_le (m := W.m) (h.pi t x hx)).2
    split <;> omega
theorem phi_le {W : WS} (h : WI W) : phi W ≤ 1410 := by
  unfold phi
  have := phiT_le h 0; have := phiT_le h 1; have := phiT_le h 2; have := phiT_le h 3; have := phiT_le h 4; have := phiT_le h 5
  omega
theorem phiT_busy {W : WS} (h : WI W) (t : Nat) (hb : (W.run t).isSome = true) : 1 ≤ phiT W t := by
  unfold phiT
  split
  · rename_i hx; rw [hx] at hb; cases hb
  · rename_i x hx
    have := (rest_le (m := W.m) (h.pi t x hx)).1
    omega
theorem phiT_idle {W : WS} (t : Nat) (hb : W.run t = none) : phiT W t = 0 := by unfold phiT; rw [hb]
theorem phiT_some {W : WS} {t : Nat} {x : Bool × PG} (hx : W.run t = some x) : phiT W t = rest x.1 W.m x.2 + (if x.2.pc ≤ 7 then 180 else 0) := by unfold phiT; rw [hx]
/-- shares before and after a step of t -/
theorem phi_parts {W : WS} (h : WI W) (t : Nat) (hb : (W.run t).isSome = true) :
    (phiT (stepW W t) t + 1 ≤ phiT W t ∧ ∀ s, s ≠ t → phiT (stepW W t) s = phiT W s) ∨ (phiT (stepW W t) t + 181 ≤ phiT W t ∧ ∀ s, s ≠ t → phiT (stepW W t) s ≤ phiT W s + 36) := by
  obtain ⟨x, hx⟩ := Option.isSome_iff_exists.1 hb
  obtain ⟨e1, e2⟩ := stepW_some hx
  have hP := h.pi t x hx
  have hs1 : ∀ s, s ≠ t → (stepW W t).run s = W.run s := fun s hs => by rw [e2, updF_ne _ _ hs]
  have same : (∀ k', (stepF x.1 W.m x.2).m.word (hd k') = W.m.word (hd k')) → ∀ s, s ≠ t → phiT (stepW W t) s = phiT W s := fun hw s hs => by
    unfold phiT
    rw [hs1 s hs, e1]
    split
    · rfl
    · rename_i y hy; unfold rest; rw [hw]
  cases hr : (stepF x.1 W.m x.2).ret
  · have hrun : (stepW W t).run t = some (x.1, (stepF x.1 W.m x.2).p) := by rw [e2, updF_same, hr]; rfl
    rw [phiT_some hrun, phiT_some hx, e1]
    obtain ⟨g1, g2 | g2⟩ := rest_step hP h.mi hr
    · left
      refine ⟨?_, same g2.1⟩
      rw [if_pos g2.2.2, if_pos g2.2.1]
      dsimp only
      omega
    · right
      refine ⟨?_, fun s hs => ?_⟩
      · rw [if_neg (by show ¬ (stepF x.1 W.m x.2).p.pc ≤ 7; omega), if_pos (by omega)]
        dsimp only
        omega
      · unfold phiT
        rw [hs1 s hs, e1]
        split
        · omega
        · rename_i y hy
          unfold rest
          have a1 := pen_le ((stepF x.1 W.m x.2).m.word (hd y.1)) y.2
          omega
  · left
    have hrun : (stepW W t).run t = none := by rw [e2, updF_same, hr]; rfl
    refine ⟨?_, same (word_ret hP hr)⟩
    rw [phiT_idle t hrun]
    exact phiT_busy h t hb
theorem phi_step {W : WS} (h : WI W) (t : Nat) (hb : (W.run t).isSome = true) : phi (stepW W t) + 1 ≤ phi W := by
  obtain ⟨x, hx⟩ := Option.isSome_iff_exists.1 hb
  have ht := (h.pi t x hx).ht
  unfold phi
  rcases (show t = 0 ∨ t = 1 ∨ t = 2 ∨ t = 3 ∨ t = 4 ∨ t = 5 by omega) with rfl | rfl | rfl | rfl | rfl | rfl
  all_goals
    rcases phi_parts h _ hb with ⟨g1, g2⟩ | ⟨g1, g2⟩
    all_goals
      have f0 := g2 0; have f1 := g2 1; have f2 := g2 2; have f3 := g2 3; have f4 := g2 4; have f5 := g2 5
      simp at f0 f1 f2 f3 f4 f5
      omega
theorem phi_mono {W : WS} (h : WI W) (t : Nat) : phi (stepW W t) ≤ phi W := by
  cases hb : (W.run t).isSome
  · rw [stepW_idle hb]; exact Nat.le_refl _
  · have := phi_step h t hb; omega

end Go.Proofs.Qxb6500914aGreat

import Derived.Test.Qxb6500914aGreatO0
namespace Go.Proofs.Qxb6500914aGreat
open Go.Eng
set_option linter.unusedVariables false
set_option linter.unusedSimpArgs false

theorem stepF_0 {k : Bool} {m : MS} {p : PG} (e : p.pc = 0) : stepF k m p = ⟨beginF m 1 (hd k + 1 + p.self.toNat), (p.s_sp (m.word (hd k + 1 + p.self.toNat))).s_pc 1, false⟩ := by unfold stepF; rw [if_pos e]
theorem stepF_1 {k : Bool} {m : MS} {p : PG} (e : p.pc = 1) : stepF k m p = ⟨beginF m 1 (hd k), (p.s_root (m.word (hd k))).s_pc 2, false⟩ := by unfold stepF; rw [if_neg (by omega), if_pos e]
theorem stepF_2 {k : Bool} {m : MS} {p : PG} (e : p.pc = 2) (h : ¬ 8 < m.word (nd k (p.root.toNat % 256))) : stepF k m p = ⟨beginF m 1 (nd k (p.root.toNat % 256)), throughF (p.s_n (m.word (nd k (p.root.toNat % 256)))) 3 4, false⟩ := by unfold stepF; rw [if_neg (by omega), if_neg (by omega), if_pos e, if_neg h]
theorem stepF_3 {k : Bool} {m : MS} {p : PG} (e : p.pc = 3) : stepF k m p = ⟨beginF m 1 (nd k (p.root.toNat % 256) + 1 + p.at_.toNat), walkedF (setCell k p p.at_.toNat (m.word (nd k (p.root.toNat % 256) + 1 + p.at_.toNat))) 4, false⟩ := by unfold stepF; rw [if_neg (by omega), if_neg (by omega), if_neg (by omega), if_pos e]
theorem stepF_4a {k : Bool} {m : MS} {p : PG} (e : p.pc = 4) (h : m.word (hd k) ≠ p.root) : stepF k m p = ⟨beginF m 1 (hd k), (p.s_root (m.word (hd k))).s_pc 2, false⟩ := by unfold stepF; rw [if_neg (by omega), if_neg (by omega), if_neg (by omega), if_neg (by omega), if_pos e, if_pos h]
theorem stepF_4b {k : Bool} {m : MS} {p : PG} (e : p.pc = 4) (h : m.word (hd k) = p.root) (hc : (applyF p p.n.toNat p.ck p.cv p.cp).ch = true) : stepF k m p = ⟨beginF m 1 (hd k), (ARp (applyF p p.n.toNat p.ck p.cv p.cp)).s_pc 5, false⟩ := by unfold stepF; rw [if_neg (by omega), if_neg (by omega), if_neg (by omega), if_neg (by omega), if_pos e, if_neg (not_not_intro h), if_pos hc]
theorem stepF_4c {k : Bool} {m : MS} {p : PG} (e : p.pc = 4) (h : m.word (hd k) = p.root) (hc : (applyF p p.n.toNat p.ck p.cv p.cp).ch = false) : stepF k m p = ⟨beginF m 1 (hd k), ARp (applyF p p.n.toNat p.ck p.cv p.cp), true⟩ := by unfold stepF; rw [if_neg (by omega), if_neg (by omega), if_neg (by omega), if_neg (by omega), if_pos e, if_neg (not_not_intro h), if_neg (by rw [hc]; simp)]
theorem stepF_5 {k : Bool} {m : MS} {p : PG} (e : p.pc = 5) : stepF k m p = ⟨putF (beginF m 2 (nd k p.sp.toNat)) p.n (nd k p.sp.toNat), throughF p 6 7, false⟩ := by unfold stepF; rw [if_neg (by omega), if_neg (by omega), if_neg (by omega), if_neg (by omega), if_neg (by omega), if_pos e]
theorem stepF_6 {k : Bool} {m : MS} {p : PG} (e : p.pc = 6) : stepF k m p = ⟨putF (beginF m 2 (nd k p.sp.toNat + 1 + p.at_.toNat)) (cellV k p p.at_.toNat) (nd k p.sp.toNat + 1 + p.at_.toNat), walkedF p 7, false⟩ := by unfold stepF; rw [if_neg (by omega), if_neg (by omega), if_neg (by omega), if_neg (by omega), if_neg (by omega), if_neg (by omega), if_pos e]
theorem stepF_7a {k : Bool} {m : MS} {p : PG} (e : p.pc = 7) (h : m.word (hd k) = p.root) : stepF k m p = ⟨casF m (hd k) p.root (succF p.root.toNat p.sp.toNat), p.s_pc 8, false⟩ := by unfold stepF; rw [if_neg (by omega), if_neg (by omega), if_neg (by omega), if_neg (by omega), if_neg (by omega), if_neg (by omega), if_neg (by omega), if_pos e, if_pos h]
theorem stepF_7b {k : Bool} {m : MS} {p : PG} (e : p.pc = 7) (h : m.word (hd k) ≠ p.root) : stepF k m p = ⟨casF m (hd k) p.root (succF p.root.toNat p.sp.toNat), (p.s_root (m.word (hd k))).s_pc 2, false⟩ := by unfold stepF; rw [if_neg (by omega), if_neg (by omega), if_neg (by omega), if_neg (by omega), if_neg (by omega), if_neg (by omega), if_neg (by omega), if_pos e, if_neg h]
theorem stepF_8 {k : Bool} {m : MS} {p : PG} (e : p.pc = 8) : stepF k m p = ⟨putF (beginF m 2 (hd k + 1 + p.self.toNat)) ((p.root.toNat % 256 : Nat) : Int) (hd k + 1 + p.self.toNat), p, true⟩ := by unfold stepF; rw [if_neg (by omega), if_neg (by omega), if_neg (by omega), if_neg (by omega), if_neg (by omega), if_neg (by omega), if_neg (by omega), if_neg (by omega)]
/-- the fields that stay through an operation -/
structure Hdr (p q : PG) : Prop where
  h0 : q.h0 = p.h0
  nds : q.nds = p.nds
  wdt : q.wdt = p.wdt
  self : q.self = p.self
  ck : q.ck = p.ck
  cv : q.cv = p.cv
  cp : q.cp = p.cp
/-- and those that stay through most steps -/
structure Hdr2 (p q : PG) : Prop extends Hdr p q where
  sp : q.sp = p.sp
  root : q.root = p.root
theorem Hdr.trans {p q r : PG} (h : Hdr p q) (h' : Hdr q r) : Hdr p r := ⟨h'.h0.trans h.h0, h'.nds.trans h.nds, h'.wdt.trans h.wdt, h'.self.trans h.self, h'.ck.trans h.ck, h'.cv.trans h.cv, h'.cp.trans h.cp⟩
theorem Hdr.box {k : Bool} {p q : PG} (h : Hdr p q) (hb : OfBox k p) : OfBox k q := ⟨h.h0.trans hb.h0, fun i hi => by rw [h.nds]; exact hb.nds i hi, h.wdt.trans hb.wdt⟩
theorem setCell_hdr (k : Bool) (p : PG) (j : Nat) (x : Int) : Hdr2 p (setCell k p j x) ∧ (setCell k p j x).pc = p.pc ∧ (setCell k p j x).n = p.n ∧ (setCell k p j x).at_ = p.at_ ∧ (setCell k p j x).ra = p.ra ∧ (setCell k p j x).rp = p.rp := by
  unfold setCell
  split
  · split <;> exact ⟨⟨⟨rfl, rfl, rfl, rfl, rfl, rfl, rfl⟩, rfl, rfl⟩, rfl, rfl, rfl, rfl, rfl⟩
  · exact ⟨⟨⟨rfl, rfl, rfl, rfl, rfl, rfl, rfl⟩, rfl, rfl⟩, rfl, rfl, rfl, rfl, rfl⟩
theorem insert_hdr (p : PG) (a nn : Nat) (x y : Int) : Hdr2 p (insertF p a nn x y) ∧ (insertF p a nn x y).pc = p.pc ∧ (insertF p a nn x y).at_ = p.at_ ∧ (insertF p a nn x y).n = ((nn + 1 : Nat) : Int) := by
  unfold insertF shiftUp PG.s_ip PG.s_iv PG.s_n
  exact ⟨⟨⟨rfl, rfl, rfl, rfl, rfl, rfl, rfl⟩, rfl, rfl⟩, rfl, rfl, by dsimp only; omega⟩
theorem remove_hdr (p : PG) (a nn : Nat) (h : 1 ≤ nn) : Hdr2 p (removeF p a nn) ∧ (removeF p a nn).pc = p.pc ∧ (removeF p a nn).at_ = p.at_ ∧ (removeF p a nn).n = ((nn - 1 : Nat) : Int) := by
  unfold removeF shiftDn PG.s_n
  exact ⟨⟨⟨rfl, rfl, rfl, rfl, rfl, rfl, rfl⟩, rfl, rfl⟩, rfl, rfl, by dsimp only; omega⟩
theorem apply_hdr (p : PG) (nn : Nat) (hn : p.n = nn) (h8 : nn ≤ 8) (ck cv cp : Int) : Hdr2 p (applyF p nn ck cv cp).p ∧ (applyF p nn ck cv cp).p.pc = p.pc ∧ (applyF p nn ck cv cp).p.at_ = p.at_ ∧ ∃ n' : Nat, (applyF p nn ck cv cp).p.n = n' ∧ n' ≤ 8 := by
  have hs : Hdr2 p p := ⟨⟨rfl, rfl, rfl, rfl, rfl, rfl, rfl⟩, rfl, rfl⟩
  by_cases h1 : ck = 0 ∨ ck = 1 ∨ ck = 4
  · by_cases h2 : nn = 8
    · rw [applyF_full h1 h2]; exact ⟨hs, rfl, rfl, nn, hn, h8⟩
    · rw [applyF_push h1 h2]
      obtain ⟨a, b, c, d⟩ := insert_hdr p (putAt p nn ck cp) nn cp cv
      exact ⟨a, b, c, nn + 1, d, by omega⟩
  · by_cases h2 : nn = 0
    · rw [applyF_empty h1 h2]; exact ⟨hs, rfl, rfl, nn, hn, h8⟩
    · by_cases h3 : ck = 6
      · rw [applyF_peek h2 h3]; exact ⟨hs, rfl, rfl, nn, hn, h8⟩
      · by_cases h4 : ck = 7 ∧ cp < p.ip (atF ck nn)
        · rw [applyF_due h2 h4]; exact ⟨hs, rfl, rfl, nn, hn, h8⟩
        · rw [applyF_pop h1 h2 h3 h4]
          obtain ⟨a, b, c, d⟩ := remove_hdr p (atF ck nn) nn (by omega)
          exact ⟨a, b, c, nn - 1, d, by omega⟩
theorem through_hdr (p : PG) (x y : Int) : Hdr2 p (throughF p x y) ∧ (throughF p x y).n = p.n ∧ (throughF p x y).at_ = 0 ∧ ((p.n = 0 ∧ (throughF p x y).pc = y) ∨ (p.n ≠ 0 ∧ (throughF p x y).pc = x)) := by
  unfold throughF
  split
  · rename_i h; exact ⟨⟨⟨rfl, rfl, rfl, rfl, rfl, rfl, rfl⟩, rfl, rfl⟩, rfl, rfl, .inl ⟨h, rfl⟩⟩
  · rename_i h; exact ⟨⟨⟨rfl, rfl, rfl, rfl, rfl, rfl, rfl⟩, rfl, rfl⟩, rfl, rfl, .inr ⟨h, rfl⟩⟩
theorem walked_hdr (p : PG) (x : Int) : Hdr2 p (walkedF p x) ∧ (walkedF p x).n = p.n ∧ (walkedF p x).at_ = p.at_ + 1 ∧ ((p.at_ + 1 = p.n * p.wdt ∧ (walkedF p x).pc = x) ∨ (p.at_ + 1 ≠ p.n * p.wdt ∧ (walkedF p x).pc = p.pc)) := by
  unfold walkedF
  split
  · rename_i h; exact ⟨⟨⟨rfl, rfl, rfl, rfl, rfl, rfl, rfl⟩, rfl, rfl⟩, rfl, rfl, .inl ⟨h, rfl⟩⟩
  · rename_i h; exact ⟨⟨⟨rfl, rfl, rfl, rfl, rfl, rfl, rfl⟩, rfl, rfl⟩, rfl, rfl, .inr ⟨h, rfl⟩⟩
theorem succF_ok (r s : Nat) (hs : s < 256) : succF r s < 18446744073709551616 ∧ succF r s % 256 = s := by unfold succF; omega
theorem PI.of {k : Bool} {t : Nat} {p q : PG} (h : PI k t p) (hd : Hdr p q) (c : Int) (hc : q.pc = c) (hpc : 0 ≤ c ∧ c ≤ 8) (hsp : 1 ≤ c → ∃ s : Nat, q.sp = s ∧ s < 7) (hr : 2 ≤ c → ∃ r : Nat, q.root = r ∧ r < 18446744073709551616 ∧ r % 256 < 7)
    (hn : 3 ≤ c → ∃ nn : Nat, q.n = nn ∧ nn ≤ 8) (hat : c = 3 ∨ c = 6 → ∃ j nn : Nat, q.at_ = j ∧ q.n = nn ∧ nn ≤ 8 ∧ j < nn * wd k) : PI k t q := by
  subst hc
  exact ⟨hd.box h.box, hd.self.trans h.self, h.ht, hpc, hsp, hr, hn, hat⟩
theorem PI.step {k : Bool} {t : Nat} {m : MS} {p : PG} (h : PI k t p) (hM : MI m) (hret : (stepF k m p).ret = false) : PI k t (stepF k m p).p := by
  have hpc := h.pc
  have hself : p.self.toNat = t := by have := h.self; omega
  rcases (show p.pc = 0 ∨ p.pc = 1 ∨ p.pc = 2 ∨ p.pc = 3 ∨ p.pc = 4 ∨ p.pc = 5 ∨ p.pc = 6 ∨ p.pc = 7 ∨ p.pc = 8 by omega) with e | e | e | e | e | e | e | e | e
  · rw [stepF_0 e, hself]
    exact h.of ⟨rfl, rfl, rfl, rfl, rfl, rfl, rfl⟩ 1 rfl ⟨by decide, by decide⟩ (fun _ => hM.spare k t h.ht) (fun q => absurd q (by decide)) (fun q => absurd q (by decide)) (fun q => absurd q (by decide))
  · rw [stepF_1 e]
    exact h.of ⟨rfl, rfl, rfl, rfl, rfl, rfl, rfl⟩ 2 rfl ⟨by decide, by decide⟩ (fun _ => h.sp (by omega)) (fun _ => hM.root k) (fun q => absurd q (by decide)) (fun q => absurd q (by decide))
  · obtain ⟨r, hr, hr1, hr2⟩ := h.root (by omega)
    have hr' : p.root.toNat = r := by omega
    obtain ⟨c, hc, hc8⟩ := hM.cnt k (r % 256) hr2
    rw [stepF_2 e (by rw [hr', hc]; omega), hr', hc]
    obtain ⟨g1, g2, g3, g4⟩ := through_hdr (p.s_n c) 3 4
    have hh : Hdr p (throughF (p.s_n c) 3 4) := Hdr.trans (q := p.s_n c) ⟨rfl, rfl, rfl, rfl, rfl, rfl, rfl⟩ g1.toHdr
    refine h.of hh (throughF (p.s_n c) 3 4).pc rfl ?_ (fun _ => g1.sp ▸ h.sp (by omega)) (fun _ => g1.root ▸ h.root (by omega)) (fun _ => ⟨c, g2, hc8⟩) ?_
    · rcases g4 with ⟨_, q⟩ | ⟨_, q⟩ <;> omega
    · intro q
      rcases g4 with ⟨q1, q2⟩ | ⟨q1, q2⟩
      · exfalso; have : (throughF (p.s_n (c : Int)) 3 4).pc = 3 ∨ (throughF (p.s_n (c : Int)) 3 4).pc = 6 := q; omega
      · have hcn : (c : Int) ≠ 0 := q1
        exact ⟨0, c, g3, g2, hc8, Nat.mul_pos (by omega) (wd_le k).1⟩
  · obtain ⟨j, nn, hj, hn, hn8, hjn⟩ := h.at_ (.inl e)
    rw [stepF_3 e]
    generalize m.word (nd k (p.root.toNat % 256) + 1 + p.at_.toNat) = x
    obtain ⟨s1, s2, s3, s4, _⟩ := setCell_hdr k p p.at_.toNat x
    generalize setCell k p p.at_.toNat x = q at s1 s2 s3 s4
    obtain ⟨g1, g2, g3, g4⟩ := walked_hdr q 4
    have hw : q.wdt = (wd k : Int) := s1.wdt.trans h.box.wdt
    have hmul : q.n * q.wdt = ((nn * wd k : Nat) : Int) := by rw [s3, hn, hw]; simp
    refine h.of (s1.toHdr.trans g1.toHdr) (walkedF q 4).pc rfl ?_ (fun _ => (g1.sp.trans s1.sp) ▸ h.sp (by omega)) (fun _ => (g1.root.trans s1.root) ▸ h.root (by omega)) (fun _ => ⟨nn, g2.trans (s3.trans hn), hn8⟩) ?_
    · show 0 ≤ (walkedF q 4).pc ∧ (walkedF q 4).pc ≤ 8
      rcases g4 with ⟨_, z⟩ | ⟨_, z⟩ <;> omega
    · intro z
      have z' : (walkedF q 4).pc = 3 ∨ (walkedF q 4).pc = 6 := z
      rcases g4 with ⟨z1, z2⟩ | ⟨z1, z2⟩
      · omega
      · refine ⟨j + 1, nn, by show (walkedF q 4).at_ = _; rw [g3, s4, hj]; rfl, g2.trans (s3.trans hn), hn8, ?_⟩
        rw [hmul, s4, hj] at z1
        omega
  · obtain ⟨nn, hn, hn8⟩ := h.n (by omega)
    have hn' : p.n.toNat = nn := by omega
    by_cases hw : m.word (hd k) = p.root
    · cases hc : (applyF p p.n.toNat p.ck p.cv p.cp).ch
      · rw [stepF_4c e hw hc] at hret; cases hret
      · rw [stepF_4b e hw hc, hn']
        obtain ⟨g1, g2, g3, n', g4, g5⟩ := apply_hdr p nn hn hn8 p.ck p.cv p.cp
        refine h.of (Hdr.trans g1.toHdr ⟨rfl, rfl, rfl, rfl, rfl, rfl, rfl⟩) 5 rfl ⟨by decide, by decide⟩ (fun _ => ?_) (fun _ => ?_) (fun _ => ⟨n', g4, g5⟩) (fun q => absurd q (by decide))
        · show ∃ s : Nat, (applyF p nn p.ck p.cv p.cp).p.sp = s ∧ s < 7
          rw [g1.sp]; exact h.sp (by omega)
        · show ∃ r : Nat, (applyF p nn p.ck p.cv p.cp).p.root = r ∧ _
          rw [g1.root]; exact h.root (by omega)
    · rw [stepF_4a e hw]
      exact h.of ⟨rfl, rfl, rfl, rfl, rfl, rfl, rfl⟩ 2 rfl ⟨by decide, by decide⟩ (fun _ => h.sp (by omega)) (fun _ => hM.root k) (fun q => absurd q (by decide)) (fun q => absurd q (by decide))
  · obtain ⟨nn, hn, hn8⟩ := h.n (by omega)
    rw [stepF_5 e]
    obtain ⟨g1, g2, g3, g4⟩ := through_hdr p 6 7
    refine h.of g1.toHdr (throughF p 6 7).pc rfl ?_ (fun _ => g1.sp ▸ h.sp (by omega)) (fun _ => g1.root ▸ h.root (by omega)) (fun _ => ⟨nn, g2.trans hn, hn8⟩) ?_
    · show 0 ≤ (throughF p 6 7).pc ∧ (throughF p 6 7).pc ≤ 8
      rcases g4 with ⟨_, q⟩ | ⟨_, q⟩ <;> omega
    · intro q
      have q' : (throughF p 6 7).pc = 3 ∨ (throughF p 6 7).pc = 6 := q
      rcases g4 with ⟨q1, q2⟩ | ⟨q1, q2⟩
      · omega
      · exact ⟨0, nn, g3, g2.trans hn, hn8, Nat.mul_pos (by omega) (wd_le k).1⟩
  · obtain ⟨j, nn, hj, hn, hn8, hjn⟩ := h.at_ (.inr e)
    rw [stepF_6 e]
    obtain ⟨g1, g2, g3, g4⟩ := walked_hdr p 7
    have hmul : p.n * p.wdt = ((nn * wd k : Nat) : Int) := by rw [hn, h.box.wdt]; simp
    refine h.of g1.toHdr (walkedF p 7).pc rfl ?_ (fun _ => g1.sp ▸ h.sp (by omega)) (fun _ => g1.root ▸ h.root (by omega)) (fun _ => ⟨nn, g2.trans hn, hn8⟩) ?_
    · show 0 ≤ (walkedF p 7).pc ∧ (walkedF p 7).pc ≤ 8
      rcases g4 with ⟨_, z⟩ | ⟨_, z⟩ <;> omega
    · intro z
      have z' : (walkedF p 7).pc = 3 ∨ (walkedF p 7).pc = 6 := z
      rcases g4 with ⟨z1, z2⟩ | ⟨z1, z2⟩
      · omega
      · refine ⟨j + 1, nn, by show (walkedF p 7).at_ = _; rw [g3, hj]; rfl, g2.trans hn, hn8, ?_⟩
        rw [hmul, hj] at z1
        omega
  · by_cases hw : m.word (hd k) = p.root
    · rw [stepF_7a e hw]
      exact h.of ⟨rfl, rfl, rfl, rfl, rfl, rfl, rfl⟩ 8 rfl ⟨by decide, by decide⟩ (fun _ => h.sp (by omega)) (fun _ => h.root (by omega)) (fun _ => h.n (by omega)) (fun q => absurd q (by decide))
    · rw [stepF_7b e hw]
      exact h.of ⟨rfl, rfl, rfl, rfl, rfl, rfl, rfl⟩ 2 rfl ⟨by decide, by decide⟩ (fun _ => h.sp (by omega)) (fun _ => hM.root k) (fun q => absurd q (by decide)) (fun q => absurd q (by decide))
  · rw [stepF_8 e] at hret; cases hret
theorem MI.upd {m m' : MS} {ad : Nat} {x : Int} (h : MI m) (hw : m'.word = updF m.word ad x) (h1 : ∀ k i, i < 7 → nd k i = ad → ∃ c : Nat, x = c ∧ c ≤ 8) (h2 : ∀ k, hd k = ad → ∃ r : Nat, x = r ∧ r < 18446744073709551616 ∧ r % 256 < 7) (h3 : ∀ k t, t < 6 → hd k + 1 + t = ad → ∃ s : Nat, x = s ∧ s < 7) : MI m' := by
  refine ⟨fun k i hi => ?_, fun k => ?_, fun k t ht => ?_⟩
  · rw [hw]; unfold updF
    by_cases e : nd k i = ad
    · rw [if_pos e]; exact h1 k i hi e
    · rw [if_neg e]; exact h.cnt k i hi
  · rw [hw]; unfold updF
    by_cases e : hd k = ad
    · rw [if_pos e]; exact h2 k e
    · rw [if_neg e]; exact h.root k
  · rw [hw]; unfold updF
    by_cases e : hd k + 1 + t = ad
    · rw [if_pos e]; exact h3 k t ht e
    · rw [if_neg e]; exact h.spare k t ht
theorem MI.same {m m' : MS} (h : MI m) (hw : m'.word = m.word) : MI m' := ⟨by rw [hw]; exact h.cnt, by rw [hw]; exact h.root, by rw [hw]; exact h.spare⟩
theorem hd_inj (k k' : Bool) : hd k = hd k' → k = k' := by cases k <;> cases k' <;> decide
theorem hd_ne_nd (k k' : Bool) (i : Nat) (h : i < 7) (j : Nat) (hj : j < 1 + 8 * wd k') (t : Nat) (ht : t < 7) : hd k + t ≠ nd k' i + j := by
  cases k <;> cases k' <;> simp only [hd, nd, wd, if_true, if_false, Bool.false_eq_true] at * <;> omega
theorem nd_ne_cell (k k' : Bool) (i i' : Nat) (h : i < 7) (h' : i' < 7) (j : Nat) (hj : j < 8 * wd k') : nd k i ≠ nd k' i' + 1 + j := by
  cases k <;> cases k' <;> simp only [nd, wd, if_true, if_false, Bool.false_eq_true] at * <;> omega
theorem hd_ne_sp (k k' : Bool) (t : Nat) (ht : t < 6) : hd k ≠ hd k' + 1 + t := by cases k <;> cases k' <;> simp only [hd, if_true, if_false, Bool.false_eq_true] <;> omega
theorem cas_word (m : MS) (ad : Nat) (x y : Int) : (casF m ad x y).word = if m.word ad = x then updF m.word ad y else m.word := by
  unfold casF; split <;> rfl
theorem MI.step {k : Bool} {t : Nat} {m : MS} {p : PG} (h : PI k t p) (hM : MI m) : MI (stepF k m p).m := by
  have hpc := h.pc
  have hself : p.self.toNat = t := by have := h.self; omega
  rcases (show p.pc = 0 ∨ p.pc = 1 ∨ p.pc = 2 ∨ p.pc = 3 ∨ p.pc = 4 ∨ p.pc = 5 ∨ p.pc = 6 ∨ p.pc = 7 ∨ p.pc = 8 by omega) with e | e | e | e | e | e | e | e | e
  · rw [stepF_0 e]; exact hM.same rfl
  · rw [stepF_1 e]; exact hM.same rfl
  · obtain ⟨r, hr, hr1, hr2⟩ := h.root (by omega)
    have hr' : p.root.toNat = r := by omega
    obtain ⟨c, hc, hc8⟩ := hM.cnt k (r % 256) hr2
    rw [stepF_2 e (by rw [hr', hc]; omega)]; exact hM.same rfl
  · rw [stepF_3 e]; exact hM.same rfl
  · by_cases hw : m.word (hd k) = p.root
    · cases hc : (applyF p p.n.toNat p.ck p.cv p.cp).ch
      · rw [stepF_4c e hw hc]; exact hM.same rfl
      · rw [stepF_4b e hw hc]; exact hM.same rfl
    · rw [stepF_4a e hw]; exact hM.same rfl
  · obtain ⟨s, hs, hs7⟩ := h.sp (by omega)
    obtain ⟨nn, hn, hn8⟩ := h.n (by omega)
    rw [stepF_5 e, show p.sp.toNat = s by omega, hn]
    refine hM.upd rfl (fun _ _ _ _ => ⟨nn, rfl, hn8⟩) (fun k' q => absurd q ?_) (fun k' t' ht' q => absurd q ?_)
    · exact hd_ne_nd k' k s hs7 0 (by omega) 0 (by omega)
    · have := hd_ne_nd k' k s hs7 0 (by omega) (1 + t') (by omega); omega
  · obtain ⟨s, hs, hs7⟩ := h.sp (by omega)
    obtain ⟨j, nn, hj, hn, hn8, hjn⟩ := h.at_ (.inr e)
    have hj8 : j < 8 * wd k := Nat.lt_of_lt_of_le hjn (Nat.mul_le_mul_right _ hn8)
    rw [stepF_6 e, show p.sp.toNat = s by omega, show p.at_.toNat = j by omega]
    refine hM.upd rfl (fun k' i hi q => absurd q ?_) (fun k' q => absurd q ?_) (fun k' t' ht' q => absurd q ?_)
    · exact nd_ne_cell k' k i s hi hs7 j hj8
    · have := hd_ne_nd k' k s hs7 (1 + j) (by omega) 0 (by omega); omega
    · have := hd_ne_nd k' k s hs7 (1 + j) (by omega) (1 + t') (by omega); omega
  · obtain ⟨s, hs, hs7⟩ := h.sp (by omega)
    by_cases hw : m.word (hd k) = p.root
    · rw [stepF_7a e hw, show p.sp.toNat = s by omega]
      refine hM.upd (ad := hd k) (x := (succF p.root.toNat s : Nat)) (by show (casF m (hd k) p.root (succF p.root.toNat s)).word = _; rw [cas_word, if_pos hw]) (fun k' i hi q => absurd q ?_) (fun k' q => ?_) (fun k' t' ht' q => absurd q ?_)
      · exact fun q => hd_ne_nd k k' i hi 0 (by omega) 0 (by omega) q.symm
      · have := succF_ok p.root.toNat s (by omega); exact ⟨_, rfl, this.1, by omega⟩
      · exact fun q => hd_ne_sp k k' t' ht' q.symm
    · rw [stepF_7b e hw]
      exact hM.same (by show (casF m (hd k) p.root _).word = _; rw [cas_word, if_neg hw])
  · obtain ⟨r, hr, hr1, hr2⟩ := h.root (by omega)
    rw [stepF_8 e, hself, show p.root.toNat = r by omega]
    refine hM.upd rfl (fun k' i hi q => absurd q ?_) (fun k' q => absurd q ?_) (fun _ _ _ _ => ⟨r % 256, rfl, hr2⟩)
    · exact fun q => hd_ne_nd k k' i hi 0 (by omega) (1 + t) (by have := h.ht; omega) (by omega)
    · exact hd_ne_sp k' k t h.ht
theorem updF_same {α : Type} (f : Nat → α) (i : Nat) (x : α) : updF f i x i = x := by unfold updF; rw [if_pos rfl]
theorem updF_ne {α : Type} (f : Nat → α) {i j : Nat} (x : α) (h : j ≠ i) : updF f i x j = f j := by unfold updF; rw [if_neg h]
theorem stepW_some {W : WS} {t : Nat} {x : Bool × PG} (hx : W.run t = some x) : (stepW W t).m = (stepF x.1 W.m x.2).m ∧ (stepW W t).run = updF W.run t (if (stepF x.1 W.m x.2).ret then none else some (x.1, (stepF x.1 W.m x.2).p)) := by
  unfold stepW; rw [hx]; dsimp only
  split
  · exact ⟨rfl, rfl⟩
  · exact ⟨rfl, rfl⟩
theorem WI.step {W : WS} (h : WI W) (t : Nat) : WI (stepW W t) := by
  cases hx : W.run t with
  | none => rw [stepW_idle (by rw [hx]; rfl)]; exact h
  | some x =>
    obtain ⟨e1, e2⟩ := stepW_some hx
    have hP := h.pi t x hx
    refine ⟨fun s y hy => ?_, by rw [e1]; exact MI.step hP h.mi⟩
    rw [e2] at hy
    by_cases hs : s = t
    · subst hs
      rw [updF_same] at hy
      by_cases hr : (stepF x.1 W.m x.2).ret = true
      · rw [if_pos hr] at hy; cases hy
      · rw [if_neg hr] at hy
        injection hy with hy
        subst hy
        exact hP.step h.mi (by simpa using hr)
    · rw [updF_ne _ _ hs] at hy
      exact h.pi s y hy
theorem start_PI (k : Bool) (t : Nat) (ht : t < 6) (ck cv cp : Int) : PI k t (startP k t ck cv cp) :=
  ⟨⟨rfl, fun _ _ => rfl, rfl⟩, rfl, ht, ⟨by show (0 : Int) ≤ 0; decide, by show (0 : Int) ≤ 8; decide⟩, fun h => absurd h (by show ¬ (1 : Int) ≤ 0; decide), fun h => absurd h (by show ¬ (2 : Int) ≤ 0; decide), fun h => absurd h (by show ¬ (3 : Int) ≤ 0; decide), fun h => absurd h (by show ¬ ((0 : Int) = 3 ∨ (0 : Int) = 6); decide)⟩
theorem WI.inv {W : WS} (h : WI W) (t : Nat) (ht : t < 6) (kd x y : Int) : WI (invokeW W t kd x y) := by
  refine ⟨fun s z hz => ?_, h.mi⟩
  have hz' : updF W.run t (some (boxOf kd, startP (boxOf kd) t kd (cvOf kd x) (cpOf kd y))) s = some z := hz
  by_cases hs : s = t
  · subst hs
    rw [updF_same] at hz'
    injection hz' with hz'
    subst hz'
    exact start_PI _ _ ht _ _ _
  · rw [updF_ne _ _ hs] at hz'
    exact h.pi s z hz'
theorem start_MI {m : MS} (h : StartM m) : MI m := by
  obtain ⟨st, m1, h1, h2⟩ := h
  refine ⟨fun k i hi => ?_, fun k => ?_, fun k t ht => ?_⟩
  · rw [h2.word, h1.word]
    refine ⟨0, ?_, by omega⟩
    have q1 : ¬ (hd true + 1 ≤ nd k i ∧ nd k i < hd true + 7) := by cases k <;> simp only [hd, nd, if_true, if_false, Bool.false_eq_true] <;> omega
    have q2 : nd k i ≠ hd true := by cases k <;> simp only [hd, nd, if_true, if_false, Bool.false_eq_true] <;> omega
    have q3 : ¬ (hd false + 1 ≤ nd k i ∧ nd k i < hd false + 7) := by cases k <;> simp only [hd, nd, if_true, if_false, Bool.false_eq_true] <;> omega
    have q4 : nd k i ≠ hd false := by cases k <;> simp only [hd, nd, if_true, if_false, Bool.false_eq_true] <;> omega
    rw [if_neg q1, if_neg q2, if_neg q3, if_neg q4]
    (repeat' split) <;> rfl
  · refine ⟨st * 256 % 18446744073709551616, ?_, by omega, by omega⟩
    rw [h2.word, h1.word]
    cases k
    · rw [if_neg (by decide), if_neg (by decide), if_neg (by decide), if_neg (by decide), if_pos rfl]
    · rw [if_neg (by decide), if_pos rfl]
  · refine ⟨t + 1, ?_, by omega⟩
    rw [h2.word, h1.word]
    cases k
    · rw [if_neg (by simp only [hd, if_true, if_false, Bool.false_eq_true]; omega), if_neg (by simp only [hd, if_true, if_false, Bool.false_eq_true]; omega), if_neg (by simp only [hd, nd, if_true, if_false, Bool.false_eq_true]; omega), if_pos (by omega)]
      congr 1; omega
    · rw [if_pos (by omega)]; congr 1; omega
theorem start_WI {m : MS} (h : StartM m) : WI (W0 m) := ⟨fun t x hx => (by cases hx), start_MI h⟩

end Go.Proofs.Qxb6500914aGreat

import Derived.Test.Qxb6500914aGreatI5
namespace Go.Proofs.Qxb6500914aGreat
open Go.Eng
set_option linter.unusedVariables false
set_option linter.unusedSimpArgs false

/-- the node that is current -/
def crN (w : Nat → Int) (k : Bool) : Nat := (w (hd k)).toNat % 256
/-- the c-th cell of the elements of a node -/
def ndC (w : Nat → Int) (k : Bool) (i c : Nat) : Int := w (nd k i + 1 + c)
theorem cellV_set (k : Bool) (p : PG) (j c : Nat) (x : Int) : cellV k (setCell k p j x) c = if c = j then x else cellV k p c := by
  cases k
  · show updF p.iv j x c = if c = j then x else p.iv c
    rfl
  · unfold cellV setCell
    simp only [if_true]
    by_cases ej : j % 2 = 0
    · rw [if_pos ej]
      by_cases ec : c % 2 = 0
      · rw [if_pos ec, if_pos ec]
        show updF p.ip (j / 2) x (c / 2) = _
        unfold updF
        by_cases e : c = j
        · subst e; rw [if_pos rfl, if_pos rfl]
        · rw [if_neg (by omega), if_neg e]
      · rw [if_neg ec, if_neg ec, if_neg (by omega)]; rfl
    · rw [if_neg ej]
      by_cases ec : c % 2 = 0
      · rw [if_pos ec, if_pos ec, if_neg (by omega)]; rfl
      · rw [if_neg ec, if_neg ec]
        show updF p.iv (j / 2) x (c / 2) = _
        unfold updF
        by_cases e : c = j
        · subst e; rw [if_pos rfl, if_pos rfl]
        · rw [if_neg (by omega), if_neg e]
theorem cellV_congr {k : Bool} {p q : PG} (h1 : q.ip = p.ip) (h2 : q.iv = p.iv) (c : Nat) : cellV k q c = cellV k p c := by unfold cellV; rw [h1, h2]
theorem through_items (p : PG) (x y : Int) : (throughF p x y).ip = p.ip ∧ (throughF p x y).iv = p.iv := by unfold throughF; split <;> exact ⟨rfl, rfl⟩
theorem walked_items (p : PG) (x : Int) : (walkedF p x).ip = p.ip ∧ (walkedF p x).iv = p.iv := by unfold walkedF; split <;> exact ⟨rfl, rfl⟩
/-- what a frame holds was made of the state that is current -/
def Fr (w : Nat → Int) (k : Bool) (p : PG) : Prop := ∃ (q : PG) (nn : Nat), nn ≤ 8 ∧ q.n = nn ∧ w (nd k (crN w k)) = nn ∧ (∀ c, c < nn * wd k → cellV k q c = ndC w k (crN w k) c) ∧ (applyF q nn p.ck p.cv p.cp).ch = true ∧
  p.n = (applyF q nn p.ck p.cv p.cp).p.n ∧ p.ip = (applyF q nn p.ck p.cv p.cp).p.ip ∧ p.iv = (applyF q nn p.ck p.cv p.cp).p.iv ∧ p.ra = (applyF q nn p.ck p.cv p.cp).ra ∧ p.rv = (applyF q nn p.ck p.cv p.cp).rv ∧ p.rp = (applyF q nn p.ck p.cv p.cp).rp
structure CT (w : Nat → Int) (k : Bool) (p : PG) : Prop where
  c3 : p.pc = 3 → p.root = w (hd k) → ∀ c : Nat, (c : Int) < p.at_ → cellV k p c = ndC w k (crN w k) c
  c4 : p.pc = 4 → p.root = w (hd k) → ∀ c : Nat, (c : Int) < p.n * wd k → cellV k p c = ndC w k (crN w k) c
  fr : 5 ≤ p.pc → p.pc ≤ 7 → p.root = w (hd k) → Fr w k p
  w6 : p.pc = 6 → w (nd k p.sp.toNat) = p.n ∧ ∀ c : Nat, (c : Int) < p.at_ → ndC w k p.sp.toNat c = cellV k p c
  w7 : p.pc = 7 → w (nd k p.sp.toNat) = p.n ∧ ∀ c : Nat, (c : Int) < p.n * wd k → ndC w k p.sp.toNat c = cellV k p c
/-- the current state of a box is as it was -/
structure Same (w w' : Nat → Int) (k : Bool) : Prop where
  root : w' (hd k) = w (hd k)
  cnt : w' (nd k (crN w k)) = w (nd k (crN w k))
  cell : ∀ c, c < 8 * wd k → ndC w' k (crN w k) c = ndC w k (crN w k) c
theorem Same.cur {w w' : Nat → Int} {k : Bool} (h : Same w w' k) : crN w' k = crN w k := by unfold crN; rw [h.root]
theorem Fr.same {w w' : Nat → Int} {k : Bool} {p q : PG} (h : Fr w k p) (hs : Same w w' k) (h1 : q.n = p.n) (h2 : q.ip = p.ip) (h3 : q.iv = p.iv) (h4 : q.ra = p.ra ∧ q.rv = p.rv ∧ q.rp = p.rp) (h5 : q.ck = p.ck ∧ q.cv = p.cv ∧ q.cp = p.cp) : Fr w' k q := by
  obtain ⟨q0, nn, a1, a2, a3, a4, a5, a6, a7, a8, a9, a10, a11⟩ := h
  rw [← h5.1, ← h5.2.1, ← h5.2.2] at a5 a6 a7 a8 a9 a10 a11
  refine ⟨q0, nn, a1, a2, by rw [hs.cur, hs.cnt]; exact a3, fun c hc => ?_, a5, h1.trans a6, h2.trans a7, h3.trans a8, h4.1.trans a9, h4.2.1.trans a10, h4.2.2.trans a11⟩
  rw [hs.cur, hs.cell c (Nat.lt_of_lt_of_le hc (Nat.mul_le_mul_right _ a1))]
  exact a4 c hc
theorem CT.keep {w w' : Nat → Int} {k : Bool} {t : Nat} {p : PG} (h : CT w k p) (hP : PI k t p) (hr : Same w w' k ∨ (2 ≤ p.pc → p.pc ≤ 7 → p.root ≠ w' (hd k)))
    (hs : 6 ≤ p.pc → p.pc ≤ 7 → w' (nd k p.sp.toNat) = w (nd k p.sp.toNat) ∧ ∀ c, c < 8 * wd k → ndC w' k p.sp.toNat c = ndC w k p.sp.toNat c) : CT w' k p := by
  have b36 : p.pc = 3 ∨ p.pc = 6 → ∀ c : Nat, (c : Int) < p.at_ → c < 8 * wd k := fun e c hc => by
    obtain ⟨j, nn, hj, hn, hn8, hjn⟩ := hP.at_ e
    have : nn * wd k ≤ 8 * wd k := Nat.mul_le_mul_right _ hn8
    omega
  have b47 : 3 ≤ p.pc → ∀ c : Nat, (c : Int) < p.n * wd k → c < 8 * wd k := fun e c hc => by
    obtain ⟨nn, hn, hn8⟩ := hP.n e
    have : nn * wd k ≤ 8 * wd k := Nat.mul_le_mul_right _ hn8
    rw [hn] at hc
    have h2 : (c : Int) < ((nn * wd k : Nat) : Int) := by rw [Int.natCast_mul]; exact hc
    omega
  refine ⟨fun e er c hc => ?_, fun e er c hc => ?_, fun e1 e2 er => ?_, fun e => ?_, fun e => ?_⟩
  · rcases hr with hr | hr
    · rw [hr.cur, hr.cell c (b36 (.inl e) c hc)]; exact h.c3 e (er.trans hr.root) c hc
    · exact absurd er (hr (by omega) (by omega))
  · rcases hr with hr | hr
    · rw [hr.cur, hr.cell c (b47 (by omega) c hc)]; exact h.c4 e (er.trans hr.root) c hc
    · exact absurd er (hr (by omega) (by omega))
  · rcases hr with hr | hr
    · exact (h.fr e1 e2 (er.trans hr.root)).same hr rfl rfl rfl ⟨rfl, rfl, rfl⟩ ⟨rfl, rfl, rfl⟩
    · exact absurd er (hr (by omega) (by omega))
  · obtain ⟨g1, g2⟩ := hs (by omega) (by omega)
    exact ⟨g1.trans (h.w6 e).1, fun c hc => (g2 c (b36 (.inr e) c hc)).trans ((h.w6 e).2 c hc)⟩
  · obtain ⟨g1, g2⟩ := hs (by omega) (by omega)
    exact ⟨g1.trans (h.w7 e).1, fun c hc => (g2 c (b47 (by omega) c hc)).trans ((h.w7 e).2 c hc)⟩
theorem nd_disj {k k' : Bool} {i i' j j' : Nat} (h : i < 7) (h' : i' < 7) (hj : j < 1 + 8 * wd k) (hj' : j' < 1 + 8 * wd k') (e : nd k i + j = nd k' i' + j') : k = k' ∧ i = i' := by
  have a1 : nd false i = 10 + 10 * i := rfl
  have a2 : nd true i = 88 + 18 * i := rfl
  have a3 : nd false i' = 10 + 10 * i' := rfl
  have a4 : nd true i' = 88 + 18 * i' := rfl
  have w1 : wd false = 1 := rfl
  have w2 : wd true = 2 := rfl
  cases k <;> cases k'
  · exact ⟨rfl, by omega⟩
  · exfalso; omega
  · exfalso; omega
  · exact ⟨rfl, by omega⟩
/-- a write into a node that is not current leaves the current state -/
theorem same_write {w : Nat → Int} {k k' : Bool} {s j : Nat} {v : Int} (hs : s < 7) (hj : j < 1 + 8 * wd k) (hc : crN w k' < 7) (hne : ¬ (k = k' ∧ s = crN w k')) : Same w (updF w (nd k s + j) v) k' := by
  refine ⟨updF_ne _ _ (by have := hd_ne_nd k' k s hs j hj 0 (by omega); omega), updF_ne _ _ fun e => hne ?_, fun c hcc => updF_ne _ _ fun e => hne ?_⟩
  · exact nd_disj (j' := 0) hs hc hj (by omega) e.symm
  · exact nd_disj (j' := 1 + c) hs hc hj (by omega) (by rw [← e]; omega)
theorem same_hd {w : Nat → Int} {ad : Nat} {v : Int} {k' : Bool} (h1 : hd k' ≠ ad) (h2 : ∀ i j, i < 7 → j < 1 + 8 * wd k' → nd k' i + j ≠ ad) (hc : crN w k' < 7) : Same w (updF w ad v) k' :=
  ⟨updF_ne _ _ h1, updF_ne _ _ (h2 _ 0 hc (by omega)), fun c hcc => updF_ne _ _ (by have := h2 _ (1 + c) hc (by omega); omega)⟩
def CI (W : WS) : Prop := ∀ t y, W.run t = some y → CT W.m.word y.1 y.2
theorem OI.cur7 {W : WS} {x : OX} (h : OI W x) (k : Bool) : crN W.m.word k < 7 := by
  obtain ⟨r, hr, _, h7⟩ := h.wi.mi.root k
  unfold crN; rw [hr, Int.toNat_natCast]; exact h7
/-- the node that a thread writes: its own, not the current one -/
theorem OI.mine {W : WS} {x : OX} (h : OI W x) {t : Nat} {k : Bool} {p : PG} (hr : W.run t = some (k, p)) (h1 : 1 ≤ p.pc) (h2 : p.pc ≤ 7) : ∃ s : Nat, p.sp = s ∧ s < 7 ∧ x.ow k s = t ∧ s ≠ crN W.m.word k := by
  have hP : PI k t p := h.wi.pi t _ hr
  have hT : TI W.m W.ck x k t p := h.th t _ hr
  obtain ⟨s, hs, hs7⟩ := hP.sp h1
  have ho := h.own k t hP.ht
  rw [hr, spN_other _ _ _ _ _ (.inl (by omega)), ← hT.sp h1 h2, hs, Int.toNat_natCast] at ho
  refine ⟨s, hs, hs7, ho, fun e => ?_⟩
  have hc := h.cur k
  have : x.ow k s = -1 := by rw [e]; exact hc
  omega
theorem CI.others {W W' : WS} {x : OX} {k : Bool} {t : Nat} {p q : PG} {m' : MS} {b : Bool} (h : OI W x) (hc : CI W) (hL : LW W ≤ 1000100) (hr : W.run t = some (k, p)) (hm : Mv k t W.m p m' q b) (e1 : W'.m = m') {u : Nat} {y : Bool × PG} (hu : u ≠ t) (hy : W.run u = some y) : CT W'.m.word y.1 y.2 := by
  obtain ⟨k', p'⟩ := y
  have hPu : PI k' u p' := h.wi.pi u _ hy
  have hP : PI k t p := h.wi.pi t _ hr
  have hTu : TI W.m W.ck x k' u p' := h.th u _ hy
  have hcu : CT W.m.word k' p' := hc u _ hy
  show CT W'.m.word k' p'
  have same : W'.m.word = W.m.word → CT W'.m.word k' p' := fun e => by rw [e]; exact hcu
  have hg := h.g
  cases hm with
  | spare q e h1 h2 => exact same (by rw [e1]; rfl)
  | look q kd hk e h1 h2 h3 => exact same (by rw [e1]; rfl)
  | count q r e h1 h2 h3 hpr hr2 h4 => exact same (by rw [e1]; rfl)
  | copy q i j e h1 h2 h3 h4 hi hj => exact same (by rw [e1]; rfl)
  | choose q e hw h1 h2 h3 h4 => exact same (by rw [e1]; rfl)
  | answer q e hw h1 h2 h3 => exact same (by rw [e1]; rfl)
  | write q s j v e h1 h2 h3 h4 hs hs7 hj =>
    have hwd : W'.m.word = updF W.m.word (nd k s + j) v := by rw [e1]; rfl
    obtain ⟨s0, hs0, _, how, hnc⟩ := h.mine hr (by show 1 ≤ p.pc; omega) (by show p.pc ≤ 7; omega)
    have e0 : s0 = s := by omega
    subst e0
    rw [hwd]
    refine hcu.keep hPu (.inl (same_write hs7 hj (h.cur7 k') (fun z => hnc (z.1 ▸ z.2)))) (fun a1 a2 => ?_)
    obtain ⟨s', hs', hs7', how', _⟩ := h.mine hy (by show 1 ≤ p'.pc; omega) a2
    have hsp : p'.sp.toNat = s' := by omega
    have hne : ¬ (k = k' ∧ s0 = s') := fun z => by
      obtain ⟨z1, z2⟩ := z
      subst z1; subst z2
      rw [how] at how'; omega
    show updF W.m.word (nd k s0 + j) v (nd k' p'.sp.toNat) = W.m.word (nd k' p'.sp.toNat) ∧ ∀ c, c < 8 * wd k' → updF W.m.word (nd k s0 + j) v (nd k' p'.sp.toNat + 1 + c) = W.m.word (nd k' p'.sp.toNat + 1 + c)
    rw [hsp]
    exact ⟨updF_ne _ _ fun z => hne (nd_disj (j' := 0) hs7 hs7' hj (by omega) z.symm), fun c hcc => updF_ne _ _ fun z => hne (nd_disj (j' := 1 + c) hs7 hs7' hj (by omega) (by rw [← z]; omega))⟩
  | swap q r s e h1 h2 h4 hpr hr1 hr2 hs hs7 hw =>
    have hwd : W'.m.word = updF W.m.word (hd k) ((succF r s : Nat) : Int) := by rw [e1]; rfl
    rw [hwd]
    refine hcu.keep hPu ?_ (fun a1 a2 => ?_)
    · by_cases ek : k' = k
      · subst ek
        right
        intro a1 a2 z
        obtain ⟨ry, hry, hry1, _⟩ := hPu.root a1
        have hd1 := hTu.d a1 a2
        rw [hw, hry] at hd1
        obtain ⟨d1, d2⟩ := dist_succ r s ry (by omega) hr1 hry1
        rw [updF_same, hry] at z
        exact d2 (by omega) (by omega)
      · exact .inl (same_hd (fun z => ek (hd_inj _ _ z)) (fun i j hi hj => by have := hd_ne_nd k k' i hi j hj 0 (by omega); omega) (h.cur7 k'))
    · obtain ⟨s', hs', hs7', _, _⟩ := h.mine hy (by show 1 ≤ p'.pc; omega) a2
      have hsp : p'.sp.toNat = s' := by omega
      show updF W.m.word (hd k) _ (nd k' p'.sp.toNat) = W.m.word (nd k' p'.sp.toNat) ∧ ∀ c, c < 8 * wd k' → updF W.m.word (hd k) _ (nd k' p'.sp.toNat + 1 + c) = W.m.word (nd k' p'.sp.toNat + 1 + c)
      rw [hsp]
      exact ⟨updF_ne _ _ (by have := hd_ne_nd k k' s' hs7' 0 (by omega) 0 (by omega); omega), fun c hcc => updF_ne _ _ (by have := hd_ne_nd k k' s' hs7' (1 + c) (by omega) 0 (by omega); omega)⟩
  | keep q r e h4 hpr hr2 =>
    have hwd : W'.m.word = updF W.m.word (hd k + 1 + t) ((r % 256 : Nat) : Int) := by rw [e1]; rfl
    rw [hwd]
    refine hcu.keep hPu (.inl (same_hd (hd_ne_sp k' k t hP.ht) (fun i j hi hj => by have := hd_ne_nd k k' i hi j hj (1 + t) (by have := hP.ht; omega); omega) (h.cur7 k'))) (fun a1 a2 => ?_)
    obtain ⟨s', hs', hs7', _, _⟩ := h.mine hy (by show 1 ≤ p'.pc; omega) a2
    have hsp : p'.sp.toNat = s' := by omega
    have ht := hP.ht
    show updF W.m.word (hd k + 1 + t) _ (nd k' p'.sp.toNat) = W.m.word (nd k' p'.sp.toNat) ∧ ∀ c, c < 8 * wd k' → updF W.m.word (hd k + 1 + t) _ (nd k' p'.sp.toNat + 1 + c) = W.m.word (nd k' p'.sp.toNat + 1 + c)
    rw [hsp]
    exact ⟨updF_ne _ _ (by have := hd_ne_nd k k' s' hs7' 0 (by omega) (1 + t) (by omega); omega), fun c hcc => updF_ne _ _ (by have := hd_ne_nd k k' s' hs7' (1 + c) (by omega) (1 + t) (by omega); omega)⟩
theorem CT.empty {w : Nat → Int} {k : Bool} {q : PG} (h : q.pc ≤ 2 ∨ 8 ≤ q.pc) : CT w k q := ⟨fun e => by omega, fun e => by omega, fun e1 e2 => by omega, fun e => by omega, fun e => by omega⟩
theorem CI.own {W : WS} {x : OX} {k : Bool} {t : Nat} {p : PG} (h : OI W x) (hc : CI W) (hr : W.run t = some (k, p)) (hret : (stepF k W.m p).ret = false) : CT (stepF k W.m p).m.word k (stepF k W.m p).p := by
  have hP : PI k t p := h.wi.pi t _ hr
  have hM := h.wi.mi
  have hT : TI W.m W.ck x k t p := h.th t _ hr
  have hct : CT W.m.word k p := hc t _ hr
  have hpc := hP.pc
  have hwl := wd_le k
  rcases (show p.pc = 0 ∨ p.pc = 1 ∨ p.pc = 2 ∨ p.pc = 3 ∨ p.pc = 4 ∨ p.pc = 5 ∨ p.pc = 6 ∨ p.pc = 7 ∨ p.pc = 8 by omega) with e | e | e | e | e | e | e | e | e
  · rw [stepF_0 e]; exact CT.empty (.inl (by show (1 : Int) ≤ 2; decide))
  · rw [stepF_1 e]; exact CT.empty (.inl (by show (2 : Int) ≤ 2; decide))
  · obtain ⟨r, hpr, hr1, hr2⟩ := hP.root (by omega)
    have hr' : p.root.toNat = r := by omega
    obtain ⟨c, hcc, hc8⟩ := hM.cnt k (r % 256) hr2
    rw [stepF_2 e (by rw [hr', hcc]; omega), hr', hcc]
    obtain ⟨g1, g2, g3, g4⟩ := through_hdr (p.s_n c) 3 4
    generalize throughF (p.s_n (c : Int)) 3 4 = q at g1 g2 g3 g4
    show CT W.m.word k q
    have hn0 : q.pc = 4 → q.n = 0 := fun z => by
      rcases g4 with ⟨y, _⟩ | ⟨_, y⟩
      · rw [g2]; exact y
      · omega
    have hq : q.pc = 4 ∨ q.pc = 3 := by rcases g4 with ⟨_, z⟩ | ⟨_, z⟩; exact .inl z; exact .inr z
    refine ⟨fun _ _ c' hc' => ?_, fun z _ c' hc' => ?_, fun z => ?_, fun z => ?_, fun z => ?_⟩
    · exfalso; rw [g3] at hc'; omega
    · exfalso; rw [hn0 z, Int.zero_mul] at hc'; omega
    · exfalso; omega
    · exfalso; omega
    · exfalso; omega
  · obtain ⟨r, hpr, hr1, hr2⟩ := hP.root (by omega)
    obtain ⟨j, nn, hj, hn, hn8, hjn⟩ := hP.at_ (.inl e)
    have hr' : p.root.toNat = r := by omega
    have hj' : p.at_.toNat = j := by omega
    rw [stepF_3 e, hr', hj']
    show CT W.m.word k _
    obtain ⟨s1, s2, s3, s4, _⟩ := setCell_hdr k p j (W.m.word (nd k (r % 256) + 1 + j))
    have hcv := fun c => cellV_set k p j c (W.m.word (nd k (r % 256) + 1 + j))
    generalize setCell k p j (W.m.word (nd k (r % 256) + 1 + j)) = q0 at s1 s2 s3 s4 hcv
    obtain ⟨g1, g2, g3, g4⟩ := walked_hdr q0 4
    obtain ⟨i1, i2⟩ := walked_items q0 4
    generalize walkedF q0 4 = q at g1 g2 g3 g4 i1 i2
    have hq : q.pc = 4 ∨ q.pc = 3 := by rcases g4 with ⟨_, z⟩ | ⟨_, z⟩; exact .inl z; exact .inr (by omega)
    have hat : q.at_ = (j : Int) + 1 := by rw [g3, s4, hj]
    show CT W.m.word k q
    have main : q.root = W.m.word (hd k) → ∀ c : Nat, (c : Int) < (j : Int) + 1 → cellV k q c = ndC W.m.word k (crN W.m.word k) c := fun z c hcc => by
      have z' : p.root = W.m.word (hd k) := (g1.root.trans s1.root).symm.trans z
      rw [cellV_congr i1 i2, hcv]
      by_cases ec : c = j
      · rw [if_pos ec]
        unfold ndC crN
        rw [← z', hpr, Int.toNat_natCast, ec]
      · rw [if_neg ec]; exact hct.c3 e z' c (by rw [hj]; omega)
    refine ⟨fun _ z c hcc => main z c (by rw [hat] at hcc; exact hcc), fun z4 z c hcc => main z c ?_, fun z => ?_, fun z => ?_, fun z => ?_⟩
    · have hmul : q.n * (wd k : Int) = (j : Int) + 1 := by
        rcases g4 with ⟨y, _⟩ | ⟨_, y⟩
        · rw [g2]
          have : q0.wdt = (wd k : Int) := s1.wdt.trans hP.box.wdt
          rw [← this, ← y, s4, hj]
        · omega
      rw [hmul] at hcc; exact hcc
    · exfalso; omega
    · exfalso; omega
    · exfalso; omega
  · obtain ⟨nn, hn, hn8⟩ := hP.n (by omega)
    have hn' : p.n.toNat = nn := by omega
    by_cases hw : W.m.word (hd k) = p.root
    · cases hch : (applyF p p.n.toNat p.ck p.cv p.cp).ch
      · rw [stepF_4c e hw hch] at hret; cases hret
      · rw [stepF_4b e hw hch, hn']
        rw [hn'] at hch
        show CT W.m.word k _
        have hA := apply_hdr p nn hn hn8 p.ck p.cv p.cp
        refine ⟨fun z => absurd z (by show ¬ (5 : Int) = 3; decide), fun z => absurd z (by show ¬ (5 : Int) = 4; decide), fun _ _ _ => ?_, fun z => absurd z (by show ¬ (5 : Int) = 6; decide), fun z => absurd z (by show ¬ (5 : Int) = 7; decide)⟩
        have k1 : ((ARp (applyF p nn p.ck p.cv p.cp)).s_pc 5).ck = p.ck := hA.1.ck
        have k2 : ((ARp (applyF p nn p.ck p.cv p.cp)).s_pc 5).cv = p.cv := hA.1.cv
        have k3 : ((ARp (applyF p nn p.ck p.cv p.cp)).s_pc 5).cp = p.cp := hA.1.cp
        refine ⟨p, nn, hn8, hn, ?_, fun c hcc => ?_, ?_, ?_, ?_, ?_, ?_, ?_, ?_⟩
        · rw [← hn]; exact (hT.n (.inr e) hw.symm).symm
        · refine hct.c4 e hw.symm c ?_
          rw [hn, ← Int.natCast_mul]
          exact Int.ofNat_lt.2 hcc
        all_goals rw [k1, k2, k3]
        · exact hch
        all_goals rfl
    · rw [stepF_4a e hw]; exact CT.empty (.inl (by show (2 : Int) ≤ 2; decide))
  · obtain ⟨s, hs, hs7, how, hnc⟩ := h.mine hr (by show 1 ≤ p.pc; omega) (by show p.pc ≤ 7; omega)
    have hs' : p.sp.toNat = s := by omega
    rw [stepF_5 e, hs']
    obtain ⟨g1, g2, g3, g4⟩ := through_hdr p 6 7
    obtain ⟨r1, r2, r3⟩ := through_resp p 6 7
    obtain ⟨i1, i2⟩ := through_items p 6 7
    generalize throughF p 6 7 = q at g1 g2 g3 g4 r1 r2 r3 i1 i2
    have hq : q.pc = 7 ∨ q.pc = 6 := by rcases g4 with ⟨_, z⟩ | ⟨_, z⟩; exact .inl z; exact .inr z
    show CT (updF W.m.word (nd k s) p.n) k q
    have hsame : Same W.m.word (updF W.m.word (nd k s) p.n) k := same_write (j := 0) hs7 (by omega) (h.cur7 k) (fun z => hnc z.2)
    have hsq : q.sp.toNat = s := by rw [g1.sp]; exact hs'
    refine ⟨fun z => by omega, fun z => by omega, fun _ _ z => ?_, fun z => ?_, fun z => ?_⟩
    · exact (hct.fr (by show 5 ≤ p.pc; omega) (by show p.pc ≤ 7; omega) (by rw [← hsame.root, ← z]; exact g1.root.symm)).same hsame g2 i1 i2 ⟨r1, r2, r3⟩ ⟨g1.ck, g1.cv, g1.cp⟩
    · rw [hsq, g2, g3]; exact ⟨updF_same _ _ _, fun c hcc => by omega⟩
    · rw [hsq, g2]
      refine ⟨updF_same _ _ _, fun c hcc => ?_⟩
      rcases g4 with ⟨y, _⟩ | ⟨_, y⟩
      · rw [y, Int.zero_mul] at hcc; omega
      · omega
  · obtain ⟨s, hs, hs7, how, hnc⟩ := h.mine hr (by show 1 ≤ p.pc; omega) (by show p.pc ≤ 7; omega)
    obtain ⟨j, nn, hj, hn, hn8, hjn⟩ := hP.at_ (.inr e)
    have hs' : p.sp.toNat = s := by omega
    have hj' : p.at_.toNat = j := by omega
    have hj8 : j < 8 * wd k := Nat.lt_of_lt_of_le hjn (Nat.mul_le_mul_right _ hn8)
    rw [stepF_6 e, hs', hj']
    obtain ⟨g1, g2, g3, g4⟩ := walked_hdr p 7
    obtain ⟨r1, r2, r3⟩ := walked_resp p 7
    obtain ⟨i1, i2⟩ := walked_items p 7
    generalize walkedF p 7 = q at g1 g2 g3 g4 r1 r2 r3 i1 i2
    have hq : q.pc = 7 ∨ q.pc = 6 := by rcases g4 with ⟨_, z⟩ | ⟨_, z⟩; exact .inl z; exact .inr (by omega)
    show CT (updF W.m.word (nd k s + 1 + j) (cellV k p j)) k q
    have hsame : Same W.m.word (updF W.m.word (nd k s + 1 + j) (cellV k p j)) k := by
      have := same_write (w := W.m.word) (k := k) (k' := k) (s := s) (j := 1 + j) (v := cellV k p j) hs7 (by omega) (h.cur7 k) (fun z => hnc z.2)
      rw [← Nat.add_assoc] at this
      exact this
    have hsq : q.sp.toNat = s := by rw [g1.sp]; exact hs'
    obtain ⟨w1, w2⟩ := hct.w6 e
    rw [hs'] at w1 w2
    have wcnt : updF W.m.word (nd k s + 1 + j) (cellV k p j) (nd k s) = p.n := by rw [updF_ne _ _ (by omega)]; exact w1
    have wcell : ∀ c : Nat, (c : Int) < (j : Int) + 1 → ndC (updF W.m.word (nd k s + 1 + j) (cellV k p j)) k s c = cellV k q c := fun c hcc => by
      rw [cellV_congr i1 i2]
      unfold ndC
      by_cases ec : c = j
      · rw [ec, updF_same]
      · rw [updF_ne _ _ (by omega)]
        exact w2 c (by rw [hj]; omega)
    refine ⟨fun z => by omega, fun z => by omega, fun _ _ z => ?_, fun z => ?_, fun z => ?_⟩
    · exact (hct.fr (by show 5 ≤ p.pc; omega) (by show p.pc ≤ 7; omega) (by rw [← hsame.root, ← z]; exact g1.root.symm)).same hsame g2 i1 i2 ⟨r1, r2, r3⟩ ⟨g1.ck, g1.cv, g1.cp⟩
    · rw [hsq, g2, g3, hj]; exact ⟨wcnt, wcell⟩
    · rw [hsq, g2]
      refine ⟨wcnt, fun c hcc => wcell c ?_⟩
      rcases g4 with ⟨y, _⟩ | ⟨_, y⟩
      · rw [← hP.box.wdt, ← y, hj] at hcc; exact hcc
      · omega
  · by_cases hw : W.m.word (hd k) = p.root
    · rw [stepF_7a e hw]; exact CT.empty (.inr (by show (8 : Int) ≤ 8; decide))
    · rw [stepF_7b e hw]; exact CT.empty (.inl (by show (2 : Int) ≤ 2; decide))
  · rw [stepF_8 e] at hret; cases hret
theorem CI.step {W : WS} {x : OX} (h : OI W x) (hc : CI W) (hL : LW W ≤ 1000100) (t : Nat) (hb : (W.run t).isSome = true) : CI (stepW W t) := by
  obtain ⟨⟨k, p⟩, hx⟩ := Option.isSome_iff_exists.1 hb
  obtain ⟨e1, e2⟩ := stepW_some hx
  have hP := h.wi.pi t _ hx
  intro u y hy
  rw [e2] at hy
  by_cases e : u = t
  · subst e
    rw [updF_same] at hy
    cases hret : (stepF k W.m p).ret
    · rw [show (stepF (k, p).1 W.m (k, p).2).ret = false from hret] at hy
      injection hy with hy
      subst hy
      rw [e1]
      exact CI.own h hc hx hret
    · rw [show (stepF (k, p).1 W.m (k, p).2).ret = true from hret] at hy; cases hy
  · rw [updF_ne _ _ e] at hy
    exact CI.others h hc hL hx (mv hP h.wi.mi) e1 e hy
theorem CI.inv {W : WS} (hc : CI W) (t : Nat) (kd u v : Int) : CI (invokeW W t kd u v) := by
  intro s y hy
  have hy' : updF W.run t (some (boxOf kd, startP (boxOf kd) t kd (cvOf kd u) (cpOf kd v))) s = some y := hy
  by_cases e : s = t
  · subst e
    rw [updF_same] at hy'
    injection hy' with hy'
    subst hy'
    exact CT.empty (.inl (by show (0 : Int) ≤ 2; decide))
  · rw [updF_ne _ _ e] at hy'
    exact hc s y hy'
/-- the buffer's elements are in order -/
def SC (w : Nat → Int) : Prop := ∀ i : Nat, (i : Int) + 1 < w (nd true (crN w true)) → ndC w true (crN w true) (2 * i) ≤ ndC w true (crN w true) (2 * (i + 1))
theorem SC.same {w w' : Nat → Int} (h : SC w) (hs : Same w w' true) (hn : w (nd true (crN w true)) ≤ 8) : SC w' := by
  intro i hi
  rw [hs.cur, hs.cnt] at hi
  rw [hs.cur, hs.cell _ (by show 2 * i < 8 * 2; omega), hs.cell _ (by show 2 * (i + 1) < 8 * 2; omega)]
  exact h i hi
theorem rank_ex (p : PG) (x : Int) : ∀ nn, ∃ i, i ≤ nn ∧ (∀ j, j < i → p.ip j ≤ x) ∧ (i < nn → ¬ p.ip i ≤ x)
  | 0 => ⟨0, Nat.le_refl _, fun j hj => absurd hj (by omega), fun h => absurd h (by omega)⟩
  | n + 1 => by
    obtain ⟨i, h1, h2, h3⟩ := rank_ex p x n
    by_cases e : i < n
    · exact ⟨i, by omega, h2, fun _ => h3 e⟩
    · by_cases q : p.ip n ≤ x
      · refine ⟨n + 1, Nat.le_refl _, fun j hj => ?_, fun h => absurd h (by omega)⟩
        by_cases ej : j = n
        · rw [ej]; exact q
        · exact h2 j (by omega)
      · exact ⟨n, by omega, fun j hj => h2 j (by omega), fun _ => q⟩
theorem apply_sorted (q : PG) (nn : Nat) (ck cv cp : Int) (h4 : 4 ≤ ck) (hs : ∀ i, i + 1 < nn → q.ip i ≤ q.ip (i + 1)) (hch : (applyF q nn ck cv cp).ch = true) : ∀ i : Nat, (i : Int) + 1 < (applyF q nn ck cv cp).p.n → (applyF q nn ck cv cp).p.ip i ≤ (applyF q nn ck cv cp).p.ip (i + 1) := by
  by_cases h1 : ck = 0 ∨ ck = 1 ∨ ck = 4
  · have hk : ck = 4 := by omega
    by_cases h2 : nn = 8
    · rw [applyF_full h1 h2] at hch; cases hch
    · rw [applyF_push h1 h2]
      obtain ⟨a, ha, hlo, hhi⟩ := rank_ex q cp nn
      have hp : putAt q nn ck cp = a := by unfold putAt; rw [if_neg (by omega), if_pos hk]; exact rank_eq q nn cp a ha hlo hhi
      rw [hp]
      intro i hi
      have hi' : (i : Int) + 1 < (nn : Int) + 1 := hi
      show updF (fun j => if a < j ∧ j ≤ nn then q.ip (j - 1) else q.ip j) a cp i ≤ updF (fun j => if a < j ∧ j ≤ nn then q.ip (j - 1) else q.ip j) a cp (i + 1)
      unfold updF
      dsimp only
      by_cases c1 : i + 1 < a
      · rw [if_neg (by omega), if_neg (by omega), if_neg (by omega), if_neg (by omega)]; exact hs i (by omega)
      · by_cases c2 : i + 1 = a
        · rw [if_neg (by omega), if_pos c2, if_neg (by omega)]; exact hlo i (by omega)
        · by_cases c3 : i = a
          · rw [if_pos c3, if_neg (by omega), if_pos (by omega), show i + 1 - 1 = i by omega, c3]
            have := hhi (by omega); omega
          · rw [if_neg c3, if_pos (show a < i ∧ i ≤ nn by omega), if_neg c2, if_pos (show a < i + 1 ∧ i + 1 ≤ nn by omega), show i + 1 - 1 = i by omega]
            have := hs (i - 1) (by omega)
            rw [show i - 1 + 1 = i by omega] at this
            exact this
  · by_cases h2 : nn = 0
    · rw [applyF_empty h1 h2] at hch; cases hch
    · by_cases h3 : ck = 6
      · rw [applyF_peek h2 h3] at hch; cases hch
      · by_cases h5 : ck = 7 ∧ cp < q.ip (atF ck nn)
        · rw [applyF_due h2 h5] at hch; cases hch
        · rw [applyF_pop h1 h2 h3 h5]
          have ha : atF ck nn = 0 := if_neg (by omega)
          rw [ha]
          intro i hi
          have hi' : (i : Int) + 1 < (nn : Int) - 1 := hi
          show (if 0 ≤ i ∧ i + 1 < nn then q.ip (i + 1) else q.ip i) ≤ (if 0 ≤ i + 1 ∧ i + 1 + 1 < nn then q.ip (i + 1 + 1) else q.ip (i + 1))
          rw [if_pos (by omega), if_pos (by omega)]
          exact hs (i + 1) (by omega)
theorem SC.step {W W' : WS} {x : OX} {k : Bool} {t : Nat} {p q : PG} {m' : MS} {b : Bool} (h : OI W x) (hc : CI W) (hs : SC W.m.word) (hr : W.run t = some (k, p)) (hck : p.ck = W.ck t) (hm : Mv k t W.m p m' q b) (e1 : W'.m = m') : SC W'.m.word := by
  have hT : TI W.m W.ck x k t p := h.th t _ hr
  have hP : PI k t p := h.wi.pi t _ hr
  have hct : CT W.m.word k p := hc t _ hr
  obtain ⟨n8, hn8, hle8⟩ := h.wi.mi.cnt true (crN W.m.word true) (h.cur7 true)
  have hle : W.m.word (nd true (crN W.m.word true)) ≤ 8 := by rw [hn8]; omega
  cases hm with
  | spare q e h1 h2 => rw [e1]; exact hs
  | look q kd hk e h1 h2 h3 => rw [e1]; exact hs
  | count q r e h1 h2 h3 hpr hr2 h4 => rw [e1]; exact hs
  | copy q i j e h1 h2 h3 h4 hi hj => rw [e1]; exact hs
  | choose q e hw h1 h2 h3 h4 => rw [e1]; exact hs
  | answer q e hw h1 h2 h3 => rw [e1]; exact hs
  | write q s j v e h1 h2 h3 h4 hsp hs7 hj =>
    obtain ⟨s0, hs0, _, how, hnc⟩ := h.mine hr (by show 1 ≤ p.pc; omega) (by show p.pc ≤ 7; omega)
    have e0 : s0 = s := by omega
    subst e0
    rw [e1]
    exact hs.same (same_write hs7 hj (h.cur7 true) (fun z => hnc (z.1 ▸ z.2))) hle
  | keep q r e h4 hpr hr2 =>
    rw [e1]
    exact hs.same (same_hd (hd_ne_sp true k t hP.ht) (fun i j hi hj => by have := hd_ne_nd k true i hi j hj (1 + t) (by have := hP.ht; omega); omega) (h.cur7 true)) hle
  | swap q r s e h1 h2 h4 hpr hr1 hr2 hsp hs7 hw =>
    rw [e1]
    show SC (updF W.m.word (hd k) ((succF r s : Nat) : Int))
    by_cases ek : k = true
    · subst ek
      obtain ⟨q0, nn, a1, a2, a3, a4, a5, a6, a7, a8, a9, a10, a11⟩ := hct.fr (by omega) (by omega) (by rw [hw]; exact hpr)
      obtain ⟨w1, w2⟩ := hct.w7 e
      have hsp' : p.sp.toNat = s := by omega
      rw [hsp'] at w1 w2
      have hck4 : 4 ≤ p.ck := by
        have hb : true = boxOf (W.ck t) := hT.box
        unfold boxOf at hb
        have := of_decide_eq_true hb.symm
        rw [hck]; exact this
      have hso := apply_sorted q0 nn p.ck p.cv p.cp hck4 (fun i hi => ?_) a5
      · have hcur : crN (updF W.m.word (hd true) ((succF r s : Nat) : Int)) true = s := by
          unfold crN; rw [updF_same, Int.toNat_natCast]; exact (succF_ok r s (by omega)).2
        intro i hi
        rw [hcur] at hi ⊢
        have hcell : ∀ c, c < 8 * wd true → ndC (updF W.m.word (hd true) ((succF r s : Nat) : Int)) true s c = ndC W.m.word true s c := fun c hcc => updF_ne _ _ (by have := hd_ne_nd true true s hs7 (1 + c) (by omega) 0 (by omega); omega)
        rw [updF_ne _ _ (by have := hd_ne_nd true true s hs7 0 (by omega) 0 (by omega); omega)] at hi
        rw [show W.m.word (nd true s) = p.n from w1] at hi
        obtain ⟨nn2, hnn2, hnn28⟩ := hP.n (by show 3 ≤ p.pc; omega)
        have hi8 : i + 1 < 8 := by omega
        rw [hcell _ (by show 2 * i < 8 * 2; omega), hcell _ (by show 2 * (i + 1) < 8 * 2; omega)]
        have v1 := w2 (2 * i) (by show ((2 * i : Nat) : Int) < p.n * ((2 : Nat) : Int); omega)
        have v2 := w2 (2 * (i + 1)) (by show ((2 * (i + 1) : Nat) : Int) < p.n * ((2 : Nat) : Int); omega)
        have v1' : ndC W.m.word true s (2 * i) = p.ip i := v1.trans (by show (if 2 * i % 2 = 0 then p.ip (2 * i / 2) else _) = _; rw [if_pos (by omega), show 2 * i / 2 = i by omega])
        have v2' : ndC W.m.word true s (2 * (i + 1)) = p.ip (i + 1) := v2.trans (by show (if 2 * (i + 1) % 2 = 0 then p.ip (2 * (i + 1) / 2) else _) = _; rw [if_pos (by omega), show 2 * (i + 1) / 2 = i + 1 by omega])
        rw [v1', v2', show p.ip = (applyF q0 nn p.ck p.cv p.cp).p.ip from a7]
        exact hso i (by rw [← show p.n = (applyF q0 nn p.ck p.cv p.cp).p.n from a6]; exact hi)
      · have b1 := a4 (2 * i) (by show 2 * i < nn * 2; omega)
        have b2 := a4 (2 * (i + 1)) (by show 2 * (i + 1) < nn * 2; omega)
        have b1' : q0.ip i = ndC W.m.word true (crN W.m.word true) (2 * i) := Eq.trans (by show _ = (if 2 * i % 2 = 0 then q0.ip (2 * i / 2) else _); rw [if_pos (by omega), show 2 * i / 2 = i by omega]) b1
        have b2' : q0.ip (i + 1) = ndC W.m.word true (crN W.m.word true) (2 * (i + 1)) := Eq.trans (by show _ = (if 2 * (i + 1) % 2 = 0 then q0.ip (2 * (i + 1) / 2) else _); rw [if_pos (by omega), show 2 * (i + 1) / 2 = i + 1 by omega]) b2
        rw [b1', b2']
        exact hs i (by rw [a3]; omega)
    · have ekf : k = false := by cases k; rfl; exact absurd rfl ek
      subst ekf
      exact hs.same (same_hd (by decide) (fun i j hi hj => by have := hd_ne_nd false true i hi j hj 0 (by omega); omega) (h.cur7 true)) hle

end Go.Proofs.Qxb6500914aGreat

import Derived.Test.Qxb6500914aGreatI2
namespace Go.Proofs.Qxb6500914aGreat
open Go.Eng
set_option linter.unusedVariables false
set_option linter.unusedSimpArgs false

/-- the number of elements in the current state of a box -/
def sz (m : MS) (k : Bool) : Int := m.word (nd k ((m.word (hd k)).toNat % 256))
/-- how many stamps y lies behind x -/
def dist (x y : Int) : Nat := (x.toNat / 256 + 72057594037927936 - y.toNat / 256) % 72057594037927936
theorem dist_self (x : Int) : dist x x = 0 := by unfold dist; omega
theorem dist_succ (r s y : Nat) (hs : s < 256) (hr : r < 18446744073709551616) (hy : y < 18446744073709551616) : dist ((succF r s : Nat) : Int) (y : Int) ≤ dist (r : Int) (y : Int) + 1 ∧ (dist (r : Int) (y : Int) + 1 < 72057594037927936 → succF r s ≠ y) := by
  have e : succF r s / 256 = (r / 256 + 1) % 72057594037927936 := by unfold succF; omega
  unfold dist
  rw [Int.toNat_natCast, Int.toNat_natCast, Int.toNat_natCast, e]
  refine ⟨by omega, fun h q => ?_⟩
  rw [q] at e
  omega
/-- one step of an operation, as an onlooker sees it -/
inductive Mv (k : Bool) (t : Nat) (m : MS) (p : PG) : MS → PG → Bool → Prop
  | spare (q : PG) (e : p.pc = 0) (h1 : q.pc = 1) (h2 : q.sp = m.word (hd k + 1 + t)) : Mv k t m p (beginF m 1 (hd k + 1 + t)) q false
  | look (q : PG) (kd : Int) (hk : kd = 1 ∨ kd = 3) (e : p.pc = 1 ∨ p.pc = 4 ∨ p.pc = 7) (h1 : q.pc = 2) (h2 : q.root = m.word (hd k)) (h3 : q.sp = p.sp) : Mv k t m p (beginF m kd (hd k)) q false
  | count (q : PG) (r : Nat) (e : p.pc = 2) (h1 : q.pc = 3 ∨ q.pc = 4) (h2 : q.root = p.root) (h3 : q.sp = p.sp) (hr : p.root = r) (hr2 : r % 256 < 7) (h4 : q.n = m.word (nd k (r % 256))) : Mv k t m p (beginF m 1 (nd k (r % 256) + 0)) q false
  | copy (q : PG) (i j : Nat) (e : p.pc = 3) (h1 : q.pc = 3 ∨ q.pc = 4) (h2 : q.root = p.root) (h3 : q.sp = p.sp) (h4 : q.n = p.n) (hi : i < 7) (hj : j < 1 + 8 * wd k) : Mv k t m p (beginF m 1 (nd k i + j)) q false
  | choose (q : PG) (e : p.pc = 4) (hw : m.word (hd k) = p.root) (h1 : q.pc = 5) (h2 : q.root = p.root) (h3 : q.sp = p.sp) (h4 : q.ra = 0 ∨ q.ra = 1) : Mv k t m p (beginF m 1 (hd k)) q false
  | answer (q : PG) (e : p.pc = 4) (hw : m.word (hd k) = p.root) (h1 : q.ra = 3 → p.n = 8) (h2 : q.ra = 2 → p.n = 0) (h3 : q.ra ≠ 5) : Mv k t m p (beginF m 1 (hd k)) q true
  | write (q : PG) (s j : Nat) (v : Int) (e : p.pc = 5 ∨ p.pc = 6) (h1 : q.pc = 6 ∨ q.pc = 7) (h2 : q.root = p.root) (h3 : q.sp = p.sp) (h4 : q.ra = p.ra) (hs : p.sp = s) (hs7 : s < 7) (hj : j < 1 + 8 * wd k) : Mv k t m p (putF (beginF m 2 (nd k s + j)) v (nd k s + j)) q false
  | swap (q : PG) (r s : Nat) (e : p.pc = 7) (h1 : q.pc = 8) (h2 : q.root = p.root) (h4 : q.ra = p.ra) (hr : p.root = r) (hr1 : r < 18446744073709551616) (hr2 : r % 256 < 7) (hs : p.sp = s) (hs7 : s < 7) (hw : m.word (hd k) = r) : Mv k t m p (putF (beginF m 3 (hd k)) (succF r s : Nat) (hd k)) q false
  | keep (q : PG) (r : Nat) (e : p.pc = 8) (h4 : q.ra = p.ra) (hr : p.root = r) (hr2 : r % 256 < 7) : Mv k t m p (putF (beginF m 2 (hd k + 1 + t)) ((r % 256 : Nat) : Int) (hd k + 1 + t)) q true
theorem apply_ra (p : PG) (nn : Nat) (ck cv cp : Int) : ((applyF p nn ck cv cp).ch = true → (applyF p nn ck cv cp).ra = 0 ∨ (applyF p nn ck cv cp).ra = 1) ∧ ((applyF p nn ck cv cp).ra = 3 → nn = 8) ∧ ((applyF p nn ck cv cp).ra = 2 → nn = 0) ∧ (applyF p nn ck cv cp).ra ≠ 5 := by
  by_cases h1 : ck = 0 ∨ ck = 1 ∨ ck = 4
  · by_cases h2 : nn = 8
    · rw [applyF_full h1 h2]; exact ⟨(fun q => by cases q), fun _ => h2, fun q => absurd q (by show ¬ (3 : Int) = 2; decide), by show (3 : Int) ≠ 5; decide⟩
    · rw [applyF_push h1 h2]; exact ⟨fun _ => .inl rfl, fun q => absurd q (by show ¬ (0 : Int) = 3; decide), fun q => absurd q (by show ¬ (0 : Int) = 2; decide), by show (0 : Int) ≠ 5; decide⟩
  · by_cases h2 : nn = 0
    · rw [applyF_empty h1 h2]; exact ⟨(fun q => by cases q), fun q => absurd q (by show ¬ (2 : Int) = 3; decide), fun _ => h2, by show (2 : Int) ≠ 5; decide⟩
    · by_cases h3 : ck = 6
      · rw [applyF_peek h2 h3]; exact ⟨(fun q => by cases q), fun q => absurd q (by show ¬ (1 : Int) = 3; decide), fun q => absurd q (by show ¬ (1 : Int) = 2; decide), by show (1 : Int) ≠ 5; decide⟩
      · by_cases h4 : ck = 7 ∧ cp < p.ip (atF ck nn)
        · rw [applyF_due h2 h4]; exact ⟨(fun q => by cases q), fun q => absurd q (by show ¬ (4 : Int) = 3; decide), fun q => absurd q (by show ¬ (4 : Int) = 2; decide), by show (4 : Int) ≠ 5; decide⟩
        · rw [applyF_pop h1 h2 h3 h4]; exact ⟨fun _ => .inr rfl, fun q => absurd q (by show ¬ (1 : Int) = 3; decide), fun q => absurd q (by show ¬ (1 : Int) = 2; decide), by show (1 : Int) ≠ 5; decide⟩
theorem mv {k : Bool} {t : Nat} {m : MS} {p : PG} (h : PI k t p) (hM : MI m) : Mv k t m p (stepF k m p).m (stepF k m p).p (stepF k m p).ret := by
  have hpc := h.pc
  have hself : p.self.toNat = t := by have := h.self; omega
  have hwl := wd_le k
  rcases (show p.pc = 0 ∨ p.pc = 1 ∨ p.pc = 2 ∨ p.pc = 3 ∨ p.pc = 4 ∨ p.pc = 5 ∨ p.pc = 6 ∨ p.pc = 7 ∨ p.pc = 8 by omega) with e | e | e | e | e | e | e | e | e
  · rw [stepF_0 e, hself]; exact .spare _ e rfl rfl
  · rw [stepF_1 e]; exact .look _ 1 (.inl rfl) (.inl e) rfl rfl rfl
  · obtain ⟨r, hr, hr1, hr2⟩ := h.root (by omega)
    have hr' : p.root.toNat = r := by omega
    obtain ⟨c, hc, hc8⟩ := hM.cnt k (r % 256) hr2
    rw [stepF_2 e (by rw [hr', hc]; omega), hr']
    obtain ⟨g1, g2, g3, g4⟩ := through_hdr (p.s_n (m.word (nd k (r % 256)))) 3 4
    refine .count _ r e ?_ g1.root g1.sp hr hr2 g2
    rcases g4 with ⟨_, z⟩ | ⟨_, z⟩
    · exact .inr z
    · exact .inl z
  · obtain ⟨r, hr, hr1, hr2⟩ := h.root (by omega)
    obtain ⟨j, nn, hj, hn, hn8, hjn⟩ := h.at_ (.inl e)
    have hr' : p.root.toNat = r := by omega
    have hj' : p.at_.toNat = j := by omega
    have hj8 : j < 8 * wd k := Nat.lt_of_lt_of_le hjn (Nat.mul_le_mul_right _ hn8)
    rw [stepF_3 e, hr', hj']
    generalize m.word (nd k (r % 256) + 1 + j) = x
    obtain ⟨s1, s2, s3, s4, _⟩ := setCell_hdr k p j x
    generalize setCell k p j x = q at s1 s2 s3 s4
    obtain ⟨g1, g2, g3, g4⟩ := walked_hdr q 4
    have := Mv.copy (k := k) (t := t) (m := m) (p := p) (walkedF q 4) (r % 256) (1 + j) e (by rcases g4 with ⟨_, z⟩ | ⟨_, z⟩; exact .inr z; exact .inl (by omega)) (g1.root.trans s1.root) (g1.sp.trans s1.sp) (g2.trans s3) hr2 (by omega)
    rw [← Nat.add_assoc] at this
    exact this
  · obtain ⟨nn, hn, hn8⟩ := h.n (by omega)
    have hn' : p.n.toNat = nn := by omega
    by_cases hw : m.word (hd k) = p.root
    · have hA := apply_hdr p nn hn hn8 p.ck p.cv p.cp
      obtain ⟨a1, a2, a3, a4⟩ := apply_ra p nn p.ck p.cv p.cp
      cases hc : (applyF p p.n.toNat p.ck p.cv p.cp).ch
      · rw [stepF_4c e hw hc, hn']
        exact .answer _ e hw (fun z => by have := a2 z; omega) (fun z => by have := a3 z; omega) a4
      · rw [stepF_4b e hw hc, hn']
        rw [hn'] at hc
        exact .choose _ e hw rfl hA.1.root hA.1.sp (a1 hc)
    · rw [stepF_4a e hw]; exact .look _ 1 (.inl rfl) (.inr (.inl e)) rfl rfl rfl
  · obtain ⟨s, hs, hs7⟩ := h.sp (by omega)
    have hs' : p.sp.toNat = s := by omega
    rw [stepF_5 e, hs']
    obtain ⟨g1, g2, g3, g4⟩ := through_hdr p 6 7
    obtain ⟨r1, r2, r3⟩ := through_resp p 6 7
    exact Mv.write (k := k) (t := t) (m := m) (p := p) (throughF p 6 7) s 0 p.n (.inl e) (by rcases g4 with ⟨_, z⟩ | ⟨_, z⟩; exact .inr z; exact .inl z) g1.root g1.sp r1 hs hs7 (by omega)
  · obtain ⟨s, hs, hs7⟩ := h.sp (by omega)
    obtain ⟨j, nn, hj, hn, hn8, hjn⟩ := h.at_ (.inr e)
    have hs' : p.sp.toNat = s := by omega
    have hj' : p.at_.toNat = j := by omega
    have hj8 : j < 8 * wd k := Nat.lt_of_lt_of_le hjn (Nat.mul_le_mul_right _ hn8)
    rw [stepF_6 e, hs', hj']
    obtain ⟨g1, g2, g3, g4⟩ := walked_hdr p 7
    obtain ⟨r1, r2, r3⟩ := walked_resp p 7
    have := Mv.write (k := k) (t := t) (m := m) (p := p) (walkedF p 7) s (1 + j) (cellV k p j) (.inr e) (by rcases g4 with ⟨_, z⟩ | ⟨_, z⟩; exact .inr z; exact .inl (by omega)) g1.root g1.sp r1 hs hs7 (by omega)
    rw [← Nat.add_assoc] at this
    exact this
  · obtain ⟨s, hs, hs7⟩ := h.sp (by omega)
    obtain ⟨r, hr, hr1, hr2⟩ := h.root (by omega)
    have hs' : p.sp.toNat = s := by omega
    have hr' : p.root.toNat = r := by omega
    by_cases hw : m.word (hd k) = p.root
    · rw [stepF_7a e hw, hs', hr']
      have hc : casF m (hd k) p.root (succF r s : Nat) = putF (beginF m 3 (hd k)) (succF r s : Nat) (hd k) := if_pos hw
      rw [hc]
      exact .swap _ r s e rfl rfl rfl hr hr1 hr2 hs hs7 (hw.trans hr)
    · rw [stepF_7b e hw, hs', hr']
      have hc : casF m (hd k) p.root (succF r s : Nat) = beginF m 3 (hd k) := if_neg hw
      rw [hc]
      exact .look _ 3 (.inr rfl) (.inr (.inr e)) rfl rfl rfl
  · obtain ⟨r, hr, hr1, hr2⟩ := h.root (by omega)
    have hr' : p.root.toNat = r := by omega
    rw [stepF_8 e, hself, hr']
    exact .keep _ r e rfl hr hr2
/-- what the observer knows; 'g' counts the steps -/
structure OX where
  cnt : Int
  idle : Int
  ow : Bool → Nat → Int
  rt : Bool → Int
  full : Nat → Bool
  empty : Nat → Bool
  g : Nat
def noteX (x : OX) (t : Nat) (z : Int) : OX := { x with full := updF x.full t (x.full t || decide (z = 8)), empty := updF x.empty t (x.empty t || decide (z = 0)) }
def swapOw (x : OX) (k : Bool) (t was now : Nat) (r : Int) : OX := { x with ow := fun k' => if k' = k then updF (updF (x.ow k) was t) now (-1) else x.ow k', rt := fun k' => if k' = k then r else x.rt k' }
def noteTo (bz : Nat → Bool) (z : Int) (n : Nat) (x : OX) : OX := { x with full := fun v => x.full v || (decide (v < n) && bz v && decide (z = 8)), empty := fun v => x.empty v || (decide (v < n) && bz v && decide (z = 0)) }
theorem noteTo_zero (bz : Nat → Bool) (z : Int) (x : OX) : noteTo bz z 0 x = x := by
  unfold noteTo
  simp
theorem noteTo_yes {bz : Nat → Bool} {z : Int} {n : Nat} {x : OX} (h : bz n = true) : noteX (noteTo bz z n x) n z = noteTo bz z (n + 1) x := by
  unfold noteX noteTo
  simp only [OX.mk.injEq, true_and, and_true]
  constructor
  · funext v; unfold updF
    by_cases e : v = n
    · subst e; rw [if_pos rfl, h, decide_eq_false (Nat.lt_irrefl v), decide_eq_true (Nat.lt_succ_self v)]; simp
    · rw [if_neg e]
      show (_ || decide (v < n) && bz v && _) = (_ || decide (v < n + 1) && bz v && _)
      by_cases c : v < n
      · rw [decide_eq_true c, decide_eq_true (show v < n + 1 by omega)]
      · rw [decide_eq_false c, decide_eq_false (show ¬ v < n + 1 by omega)]
  · funext v; unfold updF
    by_cases e : v = n
    · subst e; rw [if_pos rfl, h, decide_eq_false (Nat.lt_irrefl v), decide_eq_true (Nat.lt_succ_self v)]; simp
    · rw [if_neg e]
      show (_ || decide (v < n) && bz v && _) = (_ || decide (v < n + 1) && bz v && _)
      by_cases c : v < n
      · rw [decide_eq_true c, decide_eq_true (show v < n + 1 by omega)]
      · rw [decide_eq_false c, decide_eq_false (show ¬ v < n + 1 by omega)]
theorem noteTo_no {bz : Nat → Bool} {z : Int} {n : Nat} {x : OX} (h : bz n = false) : noteTo bz z n x = noteTo bz z (n + 1) x := by
  unfold noteTo
  simp only [OX.mk.injEq, true_and, and_true]
  constructor
  · funext v
    by_cases e : v = n
    · subst e; rw [h]; simp
    · by_cases c : v < n
      · rw [decide_eq_true c, decide_eq_true (show v < n + 1 by omega)]
      · rw [decide_eq_false c, decide_eq_false (show ¬ v < n + 1 by omega)]
  · funext v
    by_cases e : v = n
    · subst e; rw [h]; simp
    · by_cases c : v < n
      · rw [decide_eq_true c, decide_eq_true (show v < n + 1 by omega)]
      · rw [decide_eq_false c, decide_eq_false (show ¬ v < n + 1 by omega)]
def bzOn (W : WS) (k : Bool) (u : Nat) : Bool := (W.run u).isSome && (boxOf (W.ck u) == k)
def accX (W : WS) (t : Nat) (x : OX) : OX := if W.m.ld = true ∧ W.m.la = (hd (boxOf (W.ck t)) : Int) then noteTo (bzOn W (boxOf (W.ck t))) (sz W.m (boxOf (W.ck t))) 6 (swapOw x (boxOf (W.ck t)) t (W.m.lb.toNat % 256) (W.m.lf.toNat % 256) W.m.lf) else x
def stX (W : WS) (t : Nat) (x : OX) : OX := { accX W t { x with cnt := W.m.cnt } with idle := if (W.run t).isSome then x.idle + 1 else 0, g := x.g + 1 }
def ivX (W : WS) (t : Nat) (x : OX) : OX := noteX { x with full := updF x.full t false, empty := updF x.empty t false } t (sz W.m (boxOf (W.ck t)))
/-- the spare node of the thread t -/
def spN (m : MS) (r : Option (Bool × PG)) (k : Bool) (t : Nat) : Nat := match r with
  | none => (m.word (hd k + 1 + t)).toNat
  | some y => if y.1 = k ∧ y.2.pc = 8 then y.2.root.toNat % 256 else (m.word (hd k + 1 + t)).toNat
/-- what holds of a thread at work -/
structure TI (m : MS) (ck : Nat → Int) (x : OX) (k : Bool) (t : Nat) (p : PG) : Prop where
  box : k = boxOf (ck t)
  sp : 1 ≤ p.pc → p.pc ≤ 7 → p.sp = m.word (hd k + 1 + t)
  n : p.pc = 3 ∨ p.pc = 4 → p.root = m.word (hd k) → p.n = sz m k
  d : 2 ≤ p.pc → p.pc ≤ 7 → dist (m.word (hd k)) p.root ≤ x.g
  ra : 5 ≤ p.pc → p.ra = 0 ∨ p.ra = 1
  full : sz m k = 8 → x.full t = true
  empty : sz m k = 0 → x.empty t = true
structure OI (W : WS) (x : OX) : Prop where
  wi : WI W
  cnt : x.cnt = W.m.cnt
  rt : ∀ k, x.rt k = W.m.word (hd k)
  cur : ∀ k, x.ow k ((W.m.word (hd k)).toNat % 256) = -1
  own : ∀ k t, t < 6 → x.ow k (spN W.m (W.run t) k t) = t
  th : ∀ t y, W.run t = some y → TI W.m W.ck x y.1 t y.2
  idle : 0 ≤ x.idle ∧ x.idle + phi W + 1314 ≤ 1410 + 219 * nb W.run
  g : 2 * (x.g + phi W) ≤ 219 * LW W
theorem TI.mono {m m' : MS} {ck : Nat → Int} {x x' : OX} {k : Bool} {t : Nat} {p : PG} (h : TI m ck x k t p) (h1 : m'.word (hd k) = m.word (hd k)) (h2 : m'.word (hd k + 1 + t) = m.word (hd k + 1 + t)) (h3 : sz m' k = sz m k) (hg : x.g ≤ x'.g) (hf : x.full t = true → x'.full t = true) (he : x.empty t = true → x'.empty t = true) : TI m' ck x' k t p :=
  ⟨h.box, fun a b => by rw [h2]; exact h.sp a b, fun a b => by rw [h3]; exact h.n a (by rw [← h1]; exact b), fun a b => by rw [h1]; exact Nat.le_trans (h.d a b) hg, h.ra, fun a => hf (h.full (by rw [← h3]; exact a)), fun a => he (h.empty (by rw [← h3]; exact a))⟩
theorem nd_inj {k k' : Bool} {i i' : Nat} (h : i < 7) (h' : i' < 7) (e : nd k i = nd k' i') : k = k' ∧ i = i' := by
  have a1 : nd false i = 10 + 10 * i := rfl
  have a2 : nd true i = 88 + 18 * i := rfl
  have a3 : nd false i' = 10 + 10 * i' := rfl
  have a4 : nd true i' = 88 + 18 * i' := rfl
  cases k <;> cases k'
  · exact ⟨rfl, by omega⟩
  · exfalso; omega
  · exfalso; omega
  · exact ⟨rfl, by omega⟩
theorem hd_sp_inj {k k' : Bool} {t t' : Nat} (h : t < 6) (h' : t' < 6) (e : hd k + 1 + t = hd k' + 1 + t') : k = k' ∧ t = t' := by
  have a1 : hd false = 2 := rfl
  have a2 : hd true = 80 := rfl
  cases k <;> cases k'
  · exact ⟨rfl, by omega⟩
  · exfalso; omega
  · exfalso; omega
  · exact ⟨rfl, by omega⟩
theorem nb_le (run : Nat → Option (Bool × PG)) : nb run ≤ 6 := by
  unfold nb
  simp only [List.range, List.range.loop, List.map_cons, List.map_nil, List.sum_cons, List.sum_nil]
  (repeat' split) <;> omega
theorem phi_nb {W : WS} (h : WI W) : phi W ≤ 235 * nb W.run := by
  have f : ∀ t, phiT W t ≤ 235 * (if (W.run t).isSome then 1 else 0) := fun t => by
    cases e : W.run t
    · rw [phiT_idle t e]; exact Nat.zero_le _
    · have := phiT_le h t; simpa using this
  have f0 := f 0; have f1 := f 1; have f2 := f 2; have f3 := f 3; have f4 := f 4; have f5 := f 5
  unfold phi nb
  simp only [List.range, List.range.loop, List.map_cons, List.map_nil, List.sum_cons, List.sum_nil]
  omega
theorem phi_inv {W : WS} (t : Nat) (ht : t < 6) (hn : W.run t = none) (kd u v : Int) : phi (invokeW W t kd u v) = phi W + 219 := by
  have a : phiT (invokeW W t kd u v) t = 219 := by
    rw [phiT_some (x := (boxOf kd, startP (boxOf kd) t kd (cvOf kd u) (cpOf kd v))) (by show updF W.run t _ t = _; rw [updF_same])]
    have e1 : base (startP (boxOf kd) t kd (cvOf kd u) (cpOf kd v)) = 39 := rfl
    have e2 : pen ((invokeW W t kd u v).m.word (hd (boxOf kd))) (startP (boxOf kd) t kd (cvOf kd u) (cpOf kd v)) = 0 := pen_out _ _ (.inl (by show (0 : Int) < 2; decide))
    show rest _ _ (startP (boxOf kd) t kd (cvOf kd u) (cpOf kd v)) + (if (startP (boxOf kd) t kd (cvOf kd u) (cpOf kd v)).pc ≤ 7 then 180 else 0) = 219
    unfold rest
    rw [e1, e2, if_pos (by show (0 : Int) ≤ 7; decide)]
  have b : ∀ s, s ≠ t → phiT (invokeW W t kd u v) s = phiT W s := fun s hs => by
    unfold phiT
    rw [show (invokeW W t kd u v).run s = W.run s from updF_ne _ _ hs]
    rfl
  have c := phiT_idle t hn
  unfold phi
  rcases (show t = 0 ∨ t = 1 ∨ t = 2 ∨ t = 3 ∨ t = 4 ∨ t = 5 by omega) with rfl | rfl | rfl | rfl | rfl | rfl
  all_goals
    have f0 := b 0; have f1 := b 1; have f2 := b 2; have f3 := b 3; have f4 := b 4; have f5 := b 5
    simp at f0 f1 f2 f3 f4 f5
    omega

end Go.Proofs.Qxb6500914aGreat

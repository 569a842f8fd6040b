import Derived.Test.Qxb6500914aGreatI4
namespace Go.Proofs.Qxb6500914aGreat
open Go.Eng
set_option linter.unusedVariables false
set_option linter.unusedSimpArgs false

theorem accX_cnt (W : WS) (t : Nat) (x : OX) : (accX W t x).cnt = x.cnt := by unfold accX; split <;> rfl
theorem accX_no {W : WS} {t : Nat} {x : OX} (h : W.m.ld = true → W.m.la ≠ (hd (boxOf (W.ck t)) : Int)) : accX W t x = x := if_neg fun q => h q.1 q.2
theorem spN_other (m : MS) (k k' : Bool) (t : Nat) (p : PG) (h : p.pc ≠ 8 ∨ k ≠ k') : spN m (some (k, p)) k' t = (m.word (hd k' + 1 + t)).toNat := if_neg fun q => by rcases h with h | h; exact h q.2; exact h q.1
theorem spN_eight (m : MS) (k : Bool) (t : Nat) (p : PG) (h : p.pc = 8) : spN m (some (k, p)) k t = p.root.toNat % 256 := if_pos ⟨rfl, h⟩
/-- the two counts -/
theorem OI.counts {W W' : WS} {x : OX} {k : Bool} {t : Nat} {p q : PG} {b : Bool} (h : OI W x) (ht : t < 6) (hr : W.run t = some (k, p)) (e2 : W'.run = updF W.run t (if b then none else some (k, q))) (hwi : WI W') (hphi : phi W' + 1 ≤ phi W) (hlw : LW W' = LW W) :
    (0 ≤ (stX W' t x).idle ∧ (stX W' t x).idle + phi W' + 1314 ≤ 1410 + 219 * nb W'.run) ∧ 2 * ((stX W' t x).g + phi W') ≤ 219 * LW W' := by
  have hi := h.idle
  have hg := h.g
  have hid : (stX W' t x).idle = if (W'.run t).isSome then x.idle + 1 else 0 := rfl
  have hgg : (stX W' t x).g = x.g + 1 := rfl
  have hnb := nb_upd W.run t ht (if b then none else some (k, q))
  rw [← e2, hr] at hnb
  have hle := nb_le W'.run
  have hpn := phi_nb hwi
  have hrt : W'.run t = if b then none else some (k, q) := by rw [e2, updF_same]
  refine ⟨?_, by rw [hgg, hlw]; omega⟩
  rw [hid, hrt]
  cases b
  · simp at hnb ⊢; omega
  · simp at hnb ⊢; omega
theorem OI.quiet {W W' : WS} {x : OX} {k : Bool} {t : Nat} {p q : PG} {b : Bool} (h : OI W x) (ht : t < 6) (hr : W.run t = some (k, p)) (e2 : W'.run = updF W.run t (if b then none else some (k, q))) (e3 : W'.ck = W.ck) (hwi : WI W') (hphi : phi W' + 1 ≤ phi W) (hlw : LW W' = LW W)
    (hacc : W'.m.ld = true → W'.m.la ≠ (hd k : Int)) (hhd : ∀ k', W'.m.word (hd k') = W.m.word (hd k')) (hsp : ∀ k' s, s < 6 → s ≠ t → W'.m.word (hd k' + 1 + s) = W.m.word (hd k' + 1 + s)) (hsz : ∀ k', sz W'.m k' = sz W.m k')
    (hspt : ∀ k', spN W'.m (if b then none else some (k, q)) k' t = spN W.m (some (k, p)) k' t) (hth : b = false → ∀ x' : OX, x'.g = x.g + 1 → x'.full = x.full → x'.empty = x.empty → TI W'.m W.ck x' k t q) : OI W' (stX W' t x) := by
  have hT := h.th t _ hr
  have hx : stX W' t x = { x with cnt := W'.m.cnt, idle := if (W'.run t).isSome then x.idle + 1 else 0, g := x.g + 1 } := by
    unfold stX
    rw [accX_no (by rw [e3, ← hT.box]; exact hacc)]
  obtain ⟨c1, c2⟩ := h.counts ht hr e2 hwi hphi hlw
  refine ⟨hwi, by rw [hx], fun k' => by rw [hx, hhd]; exact h.rt k', fun k' => by rw [hx, hhd]; exact h.cur k', fun k' s hs => ?_, fun s y hy => ?_, c1, c2⟩
  · rw [hx, e2]
    show x.ow k' _ = _
    by_cases e : s = t
    · subst e; rw [updF_same, hspt k', ← hr]; exact h.own k' s hs
    · rw [updF_ne _ _ e]
      have := h.own k' s hs
      rw [← this]
      congr 1
      unfold spN
      split
      · rw [hsp k' s hs e]
      · rw [hsp k' s hs e]
  · rw [e3]
    rw [e2] at hy
    by_cases e : s = t
    · subst e
      rw [updF_same] at hy
      cases b
      · injection hy with hy
        subst hy
        rw [hx]
        exact hth rfl _ rfl rfl rfl
      · cases hy
    · rw [updF_ne _ _ e] at hy
      have hs : s < 6 := (h.wi.pi s y hy).ht
      rw [hx]
      exact (h.th s y hy).mono (hhd _) (hsp _ s hs e) (hsz _) (Nat.le_succ _) id id
theorem OI.swap {W W' : WS} {x : OX} {k : Bool} {t : Nat} {p q : PG} {r s : Nat} (h : OI W x) (hL : LW W ≤ 1000100) (ht : t < 6) (hr : W.run t = some (k, p)) (e2 : W'.run = updF W.run t (some (k, q))) (e3 : W'.ck = W.ck) (hwi : WI W') (hphi : phi W' + 1 ≤ phi W) (hlw : LW W' = LW W)
    (em : W'.m = putF (beginF W.m 3 (hd k)) (succF r s : Nat) (hd k)) (hp7 : p.pc = 7) (hq8 : q.pc = 8) (hqr : q.root = p.root) (hra : q.ra = p.ra) (hpr : p.root = r) (hr1 : r < 18446744073709551616) (hr2 : r % 256 < 7) (hps : p.sp = s) (hs7 : s < 7) (hw : W.m.word (hd k) = r) : OI W' (stX W' t x) := by
  have hT := h.th t _ hr
  have hbx : boxOf (W'.ck t) = k := by rw [e3, ← hT.box]
  have hsok := succF_ok r s (by omega)
  have hhd : ∀ k', k' ≠ k → W'.m.word (hd k') = W.m.word (hd k') := fun k' e => by rw [em]; exact updF_ne _ _ (fun z => e (hd_inj _ _ z))
  have hhk : W'.m.word (hd k) = (succF r s : Nat) := by rw [em]; exact updF_same _ _ _
  have hsp : ∀ k' u, u < 6 → W'.m.word (hd k' + 1 + u) = W.m.word (hd k' + 1 + u) := fun k' u hu => by rw [em]; exact updF_ne _ _ (Ne.symm (hd_ne_sp k k' u hu))
  have hnd : ∀ k' i, i < 7 → W'.m.word (nd k' i) = W.m.word (nd k' i) := fun k' i hi => by rw [em]; exact updF_ne _ _ (by have := hd_ne_nd k k' i hi 0 (by omega) 0 (by omega); omega)
  have hsz : ∀ k', k' ≠ k → sz W'.m k' = sz W.m k' := fun k' e => by
    unfold sz
    obtain ⟨r', hr', _, hr7⟩ := h.wi.mi.root k'
    rw [hhd k' e, hr', Int.toNat_natCast, hnd k' _ hr7]
  have hacc : stX W' t x = { noteTo (bzOn W' k) (sz W'.m k) 6 (swapOw { x with cnt := W'.m.cnt } k t (r % 256) s ((succF r s : Nat) : Int)) with idle := if (W'.run t).isSome then x.idle + 1 else 0, g := x.g + 1 } := by
    unfold stX accX
    rw [hbx, if_pos ⟨by rw [em]; rfl, by rw [em]; rfl⟩]
    have a1 : W'.m.lb = (r : Int) := by rw [em]; exact hw
    have a2 : W'.m.lf = ((succF r s : Nat) : Int) := by rw [em]; rfl
    rw [a1, a2, Int.toNat_natCast, Int.toNat_natCast, hsok.2]
  have howns : x.ow k s = t := by
    have := h.own k t ht
    rw [hr, spN_other _ _ _ _ _ (.inl (by omega)), ← hT.sp (by show 1 ≤ p.pc; omega) (by show p.pc ≤ 7; omega), hps, Int.toNat_natCast] at this
    exact this
  have hownc : x.ow k (r % 256) = -1 := by
    have := h.cur k
    rw [hw, Int.toNat_natCast] at this
    exact this
  have hne : r % 256 ≠ s := fun z => by rw [z, howns] at hownc; omega
  have howk : (stX W' t x).ow k = updF (updF (x.ow k) (r % 256) t) s (-1) := by rw [hacc]; show (if k = k then _ else _) = _; rw [if_pos rfl]
  have howo : ∀ k', k' ≠ k → (stX W' t x).ow k' = x.ow k' := fun k' e => by rw [hacc]; show (if k' = k then _ else _) = _; rw [if_neg e]
  obtain ⟨c1, c2⟩ := h.counts (b := false) ht hr e2 hwi hphi hlw
  have hg := h.g
  refine ⟨hwi, by rw [hacc]; rfl, fun k' => ?_, fun k' => ?_, fun k' u hu => ?_, fun u y hy => ?_, c1, c2⟩
  · rw [hacc]
    show (if k' = k then _ else x.rt k') = _
    by_cases e : k' = k
    · subst e; rw [if_pos rfl, hhk]
    · rw [if_neg e, hhd k' e]; exact h.rt k'
  · by_cases e : k' = k
    · subst e; rw [howk, hhk, Int.toNat_natCast, hsok.2, updF_same]
    · rw [howo k' e, hhd k' e]; exact h.cur k'
  · by_cases eu : u = t
    · subst eu
      rw [e2, updF_same]
      by_cases e : k' = k
      · subst e
        rw [spN_eight _ _ _ _ hq8, hqr, hpr, Int.toNat_natCast, howk, updF_ne _ _ hne, updF_same]
      · rw [spN_other _ _ _ _ _ (.inr (Ne.symm e)), hsp k' u hu, howo k' e]
        have := h.own k' u hu
        rw [hr, spN_other _ _ _ _ _ (.inr (Ne.symm e))] at this
        exact this
    · rw [e2, updF_ne _ _ eu]
      have hsame : spN W'.m (W.run u) k' u = spN W.m (W.run u) k' u := by
        unfold spN
        split
        · rw [hsp k' u hu]
        · rw [hsp k' u hu]
      rw [hsame]
      have ho := h.own k' u hu
      by_cases e : k' = k
      · subst e
        rw [howk, updF_ne _ _ (fun z => ?_), updF_ne _ _ (fun z => ?_)]
        · exact ho
        · rw [z, hownc] at ho; omega
        · rw [z, howns] at ho; omega
      · rw [howo k' e]; exact ho
  · rw [e3]
    rw [e2] at hy
    by_cases eu : u = t
    · subst eu
      rw [updF_same] at hy
      injection hy with hy
      subst hy
      have hbz : bzOn W' k u = true := by unfold bzOn; rw [e2, updF_same, hbx]; simp
      refine ⟨hT.box, fun _ z => absurd z (by show ¬ q.pc ≤ 7; omega), fun z => absurd z (by show ¬ (q.pc = 3 ∨ q.pc = 4); omega), fun _ z => absurd z (by show ¬ q.pc ≤ 7; omega), fun _ => by show q.ra = 0 ∨ q.ra = 1; rw [hra]; exact hT.ra (by show 5 ≤ p.pc; omega), fun z => ?_, fun z => ?_⟩
      · rw [hacc]; show (x.full u || _) = true; rw [decide_eq_true ht, hbz, decide_eq_true z]; simp
      · rw [hacc]; show (x.empty u || _) = true; rw [decide_eq_true ht, hbz, decide_eq_true z]; simp
    · rw [updF_ne _ _ eu] at hy
      have hU := h.th u y hy
      have hPu := h.wi.pi u y hy
      have hu := hPu.ht
      by_cases e : y.1 = k
      · have hbz : bzOn W' k u = true := by unfold bzOn; rw [e2, updF_ne _ _ eu, hy, e3, ← hU.box, e]; simp
        have hdd : 2 ≤ y.2.pc → y.2.pc ≤ 7 → dist ((succF r s : Nat) : Int) y.2.root ≤ x.g + 1 ∧ y.2.root ≠ ((succF r s : Nat) : Int) := fun a b => by
          obtain ⟨ry, hry, hry1, _⟩ := hPu.root a
          have hd1 := hU.d a b
          rw [e, hw, hry] at hd1
          obtain ⟨d1, d2⟩ := dist_succ r s ry (by omega) hr1 hry1
          refine ⟨by rw [hry]; omega, fun z => d2 (by omega) ?_⟩
          rw [hry] at z; omega
        refine ⟨hU.box, fun a b => by rw [hsp _ u hu]; exact hU.sp a b, fun a z => ?_, fun a b => ?_, hU.ra, fun z => ?_, fun z => ?_⟩
        · exfalso
          rw [e, hhk] at z
          exact (hdd (by omega) (by omega)).2 z
        · rw [e, hhk, hacc]; exact (hdd a b).1
        · rw [e] at z; rw [hacc]; show (x.full u || _) = true; rw [decide_eq_true hu, hbz, decide_eq_true z]; simp
        · rw [e] at z; rw [hacc]; show (x.empty u || _) = true; rw [decide_eq_true hu, hbz, decide_eq_true z]; simp
      · refine hU.mono (hhd _ e) (hsp _ u hu) (hsz _ e) (by rw [hacc]; exact Nat.le_succ _) (fun z => ?_) (fun z => ?_)
        · rw [hacc]; show (x.full u || _) = true; rw [z]; rfl
        · rw [hacc]; show (x.empty u || _) = true; rw [z]; rfl
theorem OI.move {W W' : WS} {x : OX} {k : Bool} {t : Nat} {p q : PG} {b : Bool} {m' : MS} (h : OI W x) (hL : LW W ≤ 1000100) (ht : t < 6) (hr : W.run t = some (k, p)) (hm : Mv k t W.m p m' q b) (e1 : W'.m = m') (e2 : W'.run = updF W.run t (if b then none else some (k, q))) (e3 : W'.ck = W.ck) (hwi : WI W') (hphi : phi W' + 1 ≤ phi W) (hlw : LW W' = LW W) : OI W' (stX W' t x) := by
  have hT := h.th t _ hr
  have hg := h.g
  cases hm with
  | spare q e h1 h2 =>
    have hwd : W'.m.word = W.m.word := by rw [e1]; rfl
    refine h.quiet ht hr e2 e3 hwi hphi hlw (fun z => by rw [e1] at z; cases z) (fun k' => by rw [hwd]) (fun k' s _ _ => by rw [hwd]) (fun k' => by unfold sz; rw [hwd]) (fun k' => ?_) (fun _ x' hg' hf he => ?_)
    · show spN W'.m (some (k, q)) k' t = _
      rw [spN_other _ _ _ _ _ (.inl (by omega)), spN_other _ _ _ _ _ (.inl (by omega)), hwd]
    · exact ⟨hT.box, fun _ _ => by rw [hwd]; exact h2, fun z => absurd z (by omega), fun z => absurd z (by omega), fun z => absurd z (by omega), fun z => by rw [hf]; exact hT.full (by unfold sz at z ⊢; rw [hwd] at z; exact z), fun z => by rw [he]; exact hT.empty (by unfold sz at z ⊢; rw [hwd] at z; exact z)⟩
  | look q kd hk e h1 h2 h3 =>
    have hwd : W'.m.word = W.m.word := by rw [e1]; rfl
    refine h.quiet ht hr e2 e3 hwi hphi hlw (fun z => by rw [e1] at z; cases z) (fun k' => by rw [hwd]) (fun k' s _ _ => by rw [hwd]) (fun k' => by unfold sz; rw [hwd]) (fun k' => ?_) (fun _ x' hg' hf he => ?_)
    · show spN W'.m (some (k, q)) k' t = _
      rw [spN_other _ _ _ _ _ (.inl (by omega)), spN_other _ _ _ _ _ (.inl (by omega)), hwd]
    · refine ⟨hT.box, fun _ _ => by rw [hwd, h3]; exact hT.sp (by show 1 ≤ p.pc; omega) (by show p.pc ≤ 7; omega), fun z => absurd z (by omega), fun _ _ => by rw [hwd, h2, dist_self]; exact Nat.zero_le _, fun z => absurd z (by omega), fun z => by rw [hf]; exact hT.full (by unfold sz at z ⊢; rw [hwd] at z; exact z), fun z => by rw [he]; exact hT.empty (by unfold sz at z ⊢; rw [hwd] at z; exact z)⟩
  | count q r e h1 h2 h3 hpr hr2 h4 =>
    have hwd : W'.m.word = W.m.word := by rw [e1]; rfl
    refine h.quiet ht hr e2 e3 hwi hphi hlw (fun z => by rw [e1] at z; cases z) (fun k' => by rw [hwd]) (fun k' s _ _ => by rw [hwd]) (fun k' => by unfold sz; rw [hwd]) (fun k' => ?_) (fun _ x' hg' hf he => ?_)
    · show spN W'.m (some (k, q)) k' t = _
      rw [spN_other _ _ _ _ _ (.inl (by omega)), spN_other _ _ _ _ _ (.inl (by omega)), hwd]
    · refine ⟨hT.box, fun _ _ => by rw [hwd, h3]; exact hT.sp (by show 1 ≤ p.pc; omega) (by show p.pc ≤ 7; omega), fun _ z => ?_, fun _ _ => by rw [hwd, h2, hg']; exact Nat.le_succ_of_le (hT.d (by show 2 ≤ p.pc; omega) (by show p.pc ≤ 7; omega)), fun z => absurd z (by omega), fun z => by rw [hf]; exact hT.full (by unfold sz at z ⊢; rw [hwd] at z; exact z), fun z => by rw [he]; exact hT.empty (by unfold sz at z ⊢; rw [hwd] at z; exact z)⟩
      unfold sz
      rw [← z, h2, hpr, Int.toNat_natCast, h4, hwd]
  | copy q i j e h1 h2 h3 h4 hi hj =>
    have hwd : W'.m.word = W.m.word := by rw [e1]; rfl
    refine h.quiet ht hr e2 e3 hwi hphi hlw (fun z => by rw [e1] at z; cases z) (fun k' => by rw [hwd]) (fun k' s _ _ => by rw [hwd]) (fun k' => by unfold sz; rw [hwd]) (fun k' => ?_) (fun _ x' hg' hf he => ?_)
    · show spN W'.m (some (k, q)) k' t = _
      rw [spN_other _ _ _ _ _ (.inl (by omega)), spN_other _ _ _ _ _ (.inl (by omega)), hwd]
    · refine ⟨hT.box, fun _ _ => by rw [hwd, h3]; exact hT.sp (by show 1 ≤ p.pc; omega) (by show p.pc ≤ 7; omega), fun _ z => ?_, fun _ _ => by rw [hwd, h2, hg']; exact Nat.le_succ_of_le (hT.d (by show 2 ≤ p.pc; omega) (by show p.pc ≤ 7; omega)), fun z => absurd z (by omega), fun z => by rw [hf]; exact hT.full (by unfold sz at z ⊢; rw [hwd] at z; exact z), fun z => by rw [he]; exact hT.empty (by unfold sz at z ⊢; rw [hwd] at z; exact z)⟩
      rw [hwd, h2] at z
      have := hT.n (.inl e) z
      unfold sz at this ⊢
      rw [hwd, h4]; exact this
  | choose q e hw h1 h2 h3 h4 =>
    have hwd : W'.m.word = W.m.word := by rw [e1]; rfl
    refine h.quiet ht hr e2 e3 hwi hphi hlw (fun z => by rw [e1] at z; cases z) (fun k' => by rw [hwd]) (fun k' s _ _ => by rw [hwd]) (fun k' => by unfold sz; rw [hwd]) (fun k' => ?_) (fun _ x' hg' hf he => ?_)
    · show spN W'.m (some (k, q)) k' t = _
      rw [spN_other _ _ _ _ _ (.inl (by omega)), spN_other _ _ _ _ _ (.inl (by omega)), hwd]
    · exact ⟨hT.box, fun _ _ => by rw [hwd, h3]; exact hT.sp (by show 1 ≤ p.pc; omega) (by show p.pc ≤ 7; omega), fun z => absurd z (by omega), fun _ _ => by rw [hwd, h2, hg']; exact Nat.le_succ_of_le (hT.d (by show 2 ≤ p.pc; omega) (by show p.pc ≤ 7; omega)), fun _ => h4, fun z => by rw [hf]; exact hT.full (by unfold sz at z ⊢; rw [hwd] at z; exact z), fun z => by rw [he]; exact hT.empty (by unfold sz at z ⊢; rw [hwd] at z; exact z)⟩
  | answer q e hw h1 h2 h3 =>
    have hwd : W'.m.word = W.m.word := by rw [e1]; rfl
    refine h.quiet ht hr e2 e3 hwi hphi hlw (fun z => by rw [e1] at z; cases z) (fun k' => by rw [hwd]) (fun k' s _ _ => by rw [hwd]) (fun k' => by unfold sz; rw [hwd]) (fun k' => ?_) (fun z => by cases z)
    rw [spN_other _ _ _ _ _ (.inl (by omega)), ← hwd]
    rfl
  | write q s j v e h1 h2 h3 h4 hs hs7 hj =>
    have hwd : W'.m.word = updF W.m.word (nd k s + j) v := by rw [e1]; rfl
    have hhd : ∀ k', W'.m.word (hd k') = W.m.word (hd k') := fun k' => by
      rw [hwd]; exact updF_ne _ _ (by have := hd_ne_nd k' k s hs7 j hj 0 (by omega); omega)
    have hsp : ∀ k' u, u < 6 → W'.m.word (hd k' + 1 + u) = W.m.word (hd k' + 1 + u) := fun k' u hu => by
      rw [hwd]; exact updF_ne _ _ (by have := hd_ne_nd k' k s hs7 j hj (1 + u) (by omega); omega)
    have howns : x.ow k s = t := by
      have := h.own k t ht
      rw [hr, spN_other _ _ _ _ _ (.inl (by omega)), ← hT.sp (by show 1 ≤ p.pc; omega) (by show p.pc ≤ 7; omega), hs, Int.toNat_natCast] at this
      exact this
    have hsz : ∀ k', sz W'.m k' = sz W.m k' := fun k' => by
      unfold sz
      obtain ⟨r', hr', _, hr7⟩ := h.wi.mi.root k'
      rw [hhd, hr', Int.toNat_natCast, hwd]
      refine updF_ne _ _ fun z => ?_
      rcases Nat.eq_zero_or_pos j with j0 | j0
      · subst j0
        obtain ⟨z1, z2⟩ := nd_inj hr7 hs7 z
        subst z1
        have := h.cur k'
        rw [hr', Int.toNat_natCast, z2, howns] at this
        omega
      · exact nd_ne_cell k' k (r' % 256) s hr7 hs7 (j - 1) (by omega) (by omega)
    refine h.quiet ht hr e2 e3 hwi hphi hlw (fun _ z => ?_) hhd (fun k' u hu _ => hsp k' u hu) hsz (fun k' => ?_) (fun _ x' hg' hf he => ?_)
    · rw [e1] at z
      have z' : ((nd k s + j : Nat) : Int) = (hd k : Int) := z
      exact hd_ne_nd k k s hs7 j hj 0 (by omega) (by omega)
    · show spN W'.m (some (k, q)) k' t = _
      rw [spN_other _ _ _ _ _ (.inl (by omega)), spN_other _ _ _ _ _ (.inl (by omega)), hsp k' t ht]
    · exact ⟨hT.box, fun _ _ => by rw [hsp k t ht, h3]; exact hT.sp (by show 1 ≤ p.pc; omega) (by show p.pc ≤ 7; omega), fun z => absurd z (by omega), fun _ _ => by rw [hhd, h2, hg']; exact Nat.le_succ_of_le (hT.d (by show 2 ≤ p.pc; omega) (by show p.pc ≤ 7; omega)), fun _ => by rw [h4]; exact hT.ra (by show 5 ≤ p.pc; omega), fun z => by rw [hf]; exact hT.full (by rw [← hsz]; exact z), fun z => by rw [he]; exact hT.empty (by rw [← hsz]; exact z)⟩
  | swap q r s e h1 h2 h4 hpr hr1 hr2 hs hs7 hw =>
    exact h.swap hL ht hr e2 e3 hwi hphi hlw e1 e h1 h2 h4 hpr hr1 hr2 hs hs7 hw
  | keep q r e h4 hpr hr2 =>
    have hwd : W'.m.word = updF W.m.word (hd k + 1 + t) ((r % 256 : Nat) : Int) := by rw [e1]; rfl
    have hhd : ∀ k', W'.m.word (hd k') = W.m.word (hd k') := fun k' => by rw [hwd]; exact updF_ne _ _ (hd_ne_sp k' k t ht)
    have hsz : ∀ k', sz W'.m k' = sz W.m k' := fun k' => by
      unfold sz
      obtain ⟨r', hr', _, hr7⟩ := h.wi.mi.root k'
      rw [hhd, hr', Int.toNat_natCast, hwd]
      exact updF_ne _ _ (by have := hd_ne_nd k k' (r' % 256) hr7 0 (by omega) (1 + t) (by omega); omega)
    refine h.quiet ht hr e2 e3 hwi hphi hlw (fun _ z => ?_) hhd (fun k' u hu hne => by rw [hwd]; exact updF_ne _ _ (fun z => hne (hd_sp_inj hu ht z).2)) hsz (fun k' => ?_) (fun z => by cases z)
    · rw [e1] at z
      have z' : ((hd k + 1 + t : Nat) : Int) = (hd k : Int) := z
      omega
    · show (W'.m.word (hd k' + 1 + t)).toNat = _
      by_cases ek : k' = k
      · subst ek
        rw [spN_eight _ _ _ _ e, hwd, updF_same, hpr, Int.toNat_natCast, Int.toNat_natCast]
      · rw [spN_other _ _ _ _ _ (.inr (Ne.symm ek)), hwd, updF_ne _ _ (fun z => ek (hd_sp_inj ht ht z).1)]
theorem OI.step {W : WS} {x : OX} (h : OI W x) (hL : LW W ≤ 1000100) (t : Nat) (hb : (W.run t).isSome = true) : OI (stepW W t) (stX (stepW W t) t x) := by
  obtain ⟨⟨k, p⟩, hx⟩ := Option.isSome_iff_exists.1 hb
  obtain ⟨e1, e2⟩ := stepW_some hx
  have hP := h.wi.pi t _ hx
  have hck : (stepW W t).ck = W.ck := by unfold stepW; rw [hx]; dsimp only; split <;> rfl
  exact h.move hL hP.ht hx (mv hP h.wi.mi) e1 e2 hck (h.wi.step t) (phi_step h.wi t hb) (LW_step W t h.wi)
theorem OI.inv {W : WS} {x : OX} (h : OI W x) (t : Nat) (ht : t < 6) (hn : W.run t = none) (kd u v : Int) : OI (invokeW W t kd u v) (ivX (invokeW W t kd u v) t x) := by
  have hi := h.idle
  have hg := h.g
  have hphi := phi_inv t ht hn kd u v
  have hlw := LW_inv W t kd u v ht hn
  have hnb : nb (invokeW W t kd u v).run = nb W.run + 1 := by
    have := nb_upd W.run t ht (some (boxOf kd, startP (boxOf kd) t kd (cvOf kd u) (cpOf kd v)))
    rw [hn] at this
    show nb (updF W.run t _) = _
    simpa using this
  refine ⟨h.wi.inv t ht kd u v, h.cnt, h.rt, h.cur, fun k s hs => ?_, fun s y hy => ?_, ?_, ?_⟩
  · have ho := h.own k s hs
    show x.ow k (spN W.m (updF W.run t (some (boxOf kd, startP (boxOf kd) t kd (cvOf kd u) (cpOf kd v))) s) k s) = s
    by_cases e : s = t
    · subst e
      rw [updF_same, spN_other _ _ _ _ _ (.inl (by show (0 : Int) ≠ 8; decide))]
      rw [hn] at ho
      exact ho
    · rw [updF_ne _ _ e]; exact ho
  · have hy' : updF W.run t (some (boxOf kd, startP (boxOf kd) t kd (cvOf kd u) (cpOf kd v))) s = some y := hy
    show TI W.m (updF W.ck t kd) _ y.1 s y.2
    by_cases e : s = t
    · subst e
      rw [updF_same] at hy'
      injection hy' with hy'
      subst hy'
      refine ⟨by rw [updF_same], fun z => absurd z (by show ¬ (1 : Int) ≤ 0; decide), fun z => absurd z (by show ¬ ((0 : Int) = 3 ∨ (0 : Int) = 4); decide), fun z => absurd z (by show ¬ (2 : Int) ≤ 0; decide), fun z => absurd z (by show ¬ (5 : Int) ≤ 0; decide), fun z => ?_, fun z => ?_⟩
      · show updF (updF x.full s false) s ((updF x.full s false) s || decide (sz W.m (boxOf (updF W.ck s kd s)) = 8)) s = true
        rw [updF_same, updF_same W.ck, decide_eq_true z]; simp
      · show updF (updF x.empty s false) s ((updF x.empty s false) s || decide (sz W.m (boxOf (updF W.ck s kd s)) = 0)) s = true
        rw [updF_same, updF_same W.ck, decide_eq_true z]; simp
    · rw [updF_ne _ _ e] at hy'
      have hU := h.th s y hy'
      refine ⟨by rw [updF_ne _ _ e]; exact hU.box, hU.sp, hU.n, hU.d, hU.ra, fun z => ?_, fun z => ?_⟩
      · show updF (updF x.full t false) t _ s = true
        rw [updF_ne _ _ e, updF_ne _ _ e]; exact hU.full z
      · show updF (updF x.empty t false) t _ s = true
        rw [updF_ne _ _ e, updF_ne _ _ e]; exact hU.empty z
  · refine ⟨hi.1, ?_⟩
    show x.idle + _ + 1314 ≤ _
    rw [hphi, hnb]; omega
  · show 2 * (x.g + _) ≤ _
    rw [hphi, hlw]; omega
/-- the observer at the start -/
def startX (m : MS) : OX := ⟨m.cnt, 0, fun _ i => (i : Int) - 1, fun k => m.word (hd k), fun _ => false, fun _ => false, 0⟩
theorem start_words {m : MS} (h : StartM m) : (∀ k, (m.word (hd k)).toNat % 256 = 0) ∧ ∀ k t, t < 6 → m.word (hd k + 1 + t) = ((t + 1 : Nat) : Int) := by
  obtain ⟨st, m1, h1, h2⟩ := h
  refine ⟨fun k => ?_, fun k t ht => ?_⟩
  · have : m.word (hd k) = ((st * 256 % 18446744073709551616 : Nat) : Int) := by
      rw [h2.word, h1.word]
      cases k
      · rw [if_neg (by decide), if_neg (by decide), if_neg (by decide), if_neg (by decide), if_pos rfl]
      · rw [if_neg (by decide), if_pos rfl]
    rw [this, Int.toNat_natCast]; omega
  · rw [h2.word, h1.word]
    cases k
    · rw [if_neg (by simp only [hd, if_true, if_false, Bool.false_eq_true]; omega), if_neg (by simp only [hd, if_true, if_false, Bool.false_eq_true]; omega), if_neg (by simp only [hd, nd, if_true, if_false, Bool.false_eq_true]; omega), if_pos (by omega)]
      congr 1; omega
    · rw [if_pos (by omega)]; congr 1; omega
theorem start_OI {m : MS} (h : StartM m) : OI (W0 m) (startX m) := by
  obtain ⟨h1, h2⟩ := start_words h
  refine ⟨start_WI h, rfl, fun _ => rfl, fun k => ?_, fun k t ht => ?_, fun t y hy => (by cases hy), ⟨by show (0 : Int) ≤ 0; decide, ?_⟩, ?_⟩
  · show (((m.word (hd k)).toNat % 256 : Nat) : Int) - 1 = -1
    rw [h1]; rfl
  · show (((m.word (hd k + 1 + t)).toNat : Nat) : Int) - 1 = t
    rw [h2 k t ht]; omega
  · show (0 : Int) + (0 : Nat) + 1314 ≤ 1410 + 219 * (nb fun _ => none); decide
  · show 2 * (0 + 0) ≤ _; exact Nat.zero_le _
/-- the observer's eye -/
def Good (W : WS) (x : OX) : Prop := WI W ∧ (LW W ≤ 1000100 → OI W x)
theorem Good.step {W : WS} {x : OX} (h : Good W x) (t : Nat) (hb : (W.run t).isSome = true) : Good (stepW W t) (stX (stepW W t) t x) :=
  ⟨h.1.step t, fun hl => by rw [LW_step W t h.1] at hl; exact (h.2 hl).step hl t hb⟩
theorem Good.inv {W : WS} {x : OX} (h : Good W x) (t : Nat) (ht : t < 6) (hn : W.run t = none) (kd u v : Int) : Good (invokeW W t kd u v) (ivX (invokeW W t kd u v) t x) :=
  ⟨h.1.inv t ht kd u v, fun hl => by rw [LW_inv W t kd u v ht hn] at hl; exact (h.2 (by omega)).inv t ht hn kd u v⟩

end Go.Proofs.Qxb6500914aGreat

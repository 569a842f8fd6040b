import Derived.Test.Qxb6500907aX12
namespace Go.Proofs.Qxb6500907a
open Go.Eng
set_option linter.unusedVariables false
set_option linter.unusedSimpArgs false

/-! ## the whole text -/
theorem T_chg {N : Nat} {c : Ch} {z : ZS} {more : List Int} (hok : c.ok) (hck : ckF c = 0) (h : Tx z (pCh c ++ more)) : (chgZ N z).1 = c ∧ Tx (chgZ N z).2 (10 :: more) := by
  obtain ⟨l1, l2⟩ := line (N := N) hok (ck_out hok hck) h
  have e : chBody N z = (c, (chBody N z).2) := Prod.ext l1 rfl
  unfold chgZ
  rw [e, endC_k l2.er hck]
  exact ⟨rfl, l2⟩
theorem pCh_head {c : Ch} (hk : 0 ≤ c.kd ∧ c.kd < 6) (more : List Int) : ∃ w l, pCh c ++ more = w ++ (32 :: l) ∧ WdL w ∧ sEq (bA w) sEnd = false := by
  obtain ⟨kd, dv, pr, ix, up, ra, rl, via, pm, da, dl, cl⟩ := c
  simp only at hk
  rcases (show kd = 0 ∨ kd = 1 ∨ kd = 2 ∨ kd = 3 ∨ kd = 4 ∨ kd = 5 by omega) with rfl | rfl | rfl | rfl | rfl | rfl
  · exact ⟨_, (pCh ⟨0, dv, pr, ix, up, ra, rl, via, pm, da, dl, cl⟩ ++ more).drop 6, rfl, wRoute, nRoute_End⟩
  · exact ⟨_, (pCh ⟨1, dv, pr, ix, up, ra, rl, via, pm, da, dl, cl⟩ ++ more).drop 6, rfl, wRoute, nRoute_End⟩
  · exact ⟨_, (pCh ⟨2, dv, pr, ix, up, ra, rl, via, pm, da, dl, cl⟩ ++ more).drop 4, rfl, wAcl, nAcl_End⟩
  · exact ⟨_, (pCh ⟨3, dv, pr, ix, up, ra, rl, via, pm, da, dl, cl⟩ ++ more).drop 4, rfl, wAcl, nAcl_End⟩
  · cases up
    · exact ⟨_, (pCh ⟨4, dv, pr, ix, false, ra, rl, via, pm, da, dl, cl⟩ ++ more).drop 5, rfl, wLink, nLink_End⟩
    · exact ⟨_, (pCh ⟨4, dv, pr, ix, true, ra, rl, via, pm, da, dl, cl⟩ ++ more).drop 5, rfl, wLink, nLink_End⟩
  · cases up
    · exact ⟨_, (pCh ⟨5, dv, pr, ix, false, ra, rl, via, pm, da, dl, cl⟩ ++ more).drop 6, rfl, wIface, nIface_End⟩
    · exact ⟨_, (pCh ⟨5, dv, pr, ix, true, ra, rl, via, pm, da, dl, cl⟩ ++ more).drop 6, rfl, wIface, nIface_End⟩
def endT : List Int := [101, 110, 100] ++ (10 :: [])
def tailT (cs : List Ch) : List Int := cs.flatMap pCh ++ endT
theorem tail_head {cs : List Ch} (h : ∀ c, c ∈ cs → c.ok ∧ ckF c = 0) : Lk (tailT cs) ∧ ∀ t, (lexL (tailT cs)).tok = some t → t.kind ≠ 1 := by
  cases cs with
  | nil =>
    have e : lexL (tailT []) = ⟨some (.word [101, 110, 100]), 0, [101, 110, 100] ++ (10 :: []), 10 :: []⟩ := lex_word (w := [101, 110, 100]) wEnd (Br.nl [])
    refine ⟨⟨_, by rw [e]⟩, fun t ht => ?_⟩
    rw [e] at ht; injection ht with ht; rw [← ht]; show (2 : Int) ≠ 1; decide
  | cons c cs =>
    obtain ⟨h1, h2⟩ := h c List.mem_cons_self
    obtain ⟨w, l, e, hw, _⟩ := pCh_head (ck_out h1 h2).kd (tailT cs)
    have e2 : tailT (c :: cs) = w ++ (32 :: l) := by
      rw [← e]; unfold tailT; rw [List.flatMap_cons, List.append_assoc]
    have e3 := lex_word hw (Br.sp l)
    rw [e2]
    refine ⟨⟨_, by rw [e3]⟩, fun t ht => ?_⟩
    rw [e3] at ht; injection ht with ht; rw [← ht]; show (2 : Int) ≠ 1; decide
theorem T_loop {N : Nat} {z0 : ZS} : ∀ (cs2 cs1 : List Ch) (n : Nat) (z : ZS), PlI N z0 n z cs1 → Tx z (tailT cs2) → (∀ c, c ∈ cs2 → c.ok ∧ ckF c = 0) → cs1.length + cs2.length ≤ 128 → ∃ z', plZ N z0 = (cs1 ++ cs2, z') ∧ Tx z' endT
  | [], cs1, n, z, hp, ht, _, _ => by
    have e := lex_word wEnd (Br.nl [])
    have h1 := ht.tok
    rw [show tailT [] = [101, 110, 100] ++ (10 :: []) from rfl, e] at h1
    injection h1 with h1
    have hg : goB z = false := go_f2 (by rw [← h1]; rfl) (by
      have := qEnd
      unfold sEq at this
      rw [← h1]
      exact eq_of_beq this)
    exact ⟨z, by rw [hp.stop hg, List.append_nil], ht⟩
  | c :: cs2, cs1, n, z, hp, ht, hc, hl => by
    rw [List.length_cons] at hl
    obtain ⟨h1, h2⟩ := hc c List.mem_cons_self
    have hc2 : ∀ d, d ∈ cs2 → d.ok ∧ ckF d = 0 := fun d hd => hc d (List.mem_cons_of_mem _ hd)
    have e2 : tailT (c :: cs2) = pCh c ++ tailT cs2 := by unfold tailT; rw [List.flatMap_cons, List.append_assoc]
    rw [e2] at ht
    obtain ⟨w, l, e, hw, hne⟩ := pCh_head (ck_out h1 h2).kd (tailT cs2)
    have hg : goB z = true := by
      have h3 := ht.tok
      rw [e, lex_word hw (Br.sp l)] at h3
      injection h3 with h3
      refine go_t ht.er (.inr ?_)
      rw [← h3]
      exact hne
    have htm : tmZ z cs1.length = z := tm_f (.inl (by omega))
    obtain ⟨e3, e4⟩ := T_chg (N := N) h1 h2 ht
    have e5 := T_eol (N := N) e4 (tail_head hc2).1 (tail_head hc2).2
    have hn := (hp.next hg).1
    rw [htm, e3] at hn
    obtain ⟨z', e6, e7⟩ := T_loop cs2 (cs1 ++ [c]) (n - 1) _ hn e5 hc2 (by rw [List.length_append, List.length_singleton]; omega)
    exact ⟨z', by rw [e6, List.append_assoc]; rfl, e7⟩
theorem T_all {id : Nat} {cs : List Ch} (hid : id ≤ 4294967295) (hl : cs.length ≤ 128) (hc : ∀ c, c ∈ cs → c.ok ∧ ckF c = 0) : (prB (pTx (id : Int) cs)).1 = (id : Int) ∧ (prC (pTx (id : Int) cs)).1 = cs ∧ (prD (pTx (id : Int) cs)).err = none := by
  generalize hs : pTx (id : Int) cs = src
  have e0 : src = [98, 97, 116, 99, 104] ++ (32 :: (dg id ++ (10 :: tailT cs))) := by
    rw [← hs]
    simp [pTx, tailT, endT]
  have t1 : Tx (advZ src.length ⟨src, .eof, 0, none⟩) ([98, 97, 116, 99, 104] ++ (32 :: (dg id ++ (10 :: tailT cs)))) := Tx.adv rfl e0 (Lk.word wBatch (Br.sp _))
  have k1 : (advZ src.length ⟨src, .eof, 0, none⟩).tok.kind ≠ 1 := by
    have h1 := t1.tok
    rw [lex_word wBatch (Br.sp _)] at h1
    injection h1 with h1
    rw [← h1]; decide
  have eA : prA src = advZ src.length ⟨src, .eof, 0, none⟩ := by unfold prA; exact bl_stop k1
  rw [← eA] at t1
  obtain ⟨_, t2⟩ := T_kw (N := src.length) (s1 := sBatch) (s2 := sBatch) t1 wBatch (Br.sp _) (Lk.sp (Lk.num hid (Br.nl _))) (.inl qBatch)
  obtain ⟨a3, t3⟩ := T_num (N := src.length) (mx := 4294967295) (code := 3) t2.sp hid (by omega) (Br.nl _) (Lk.nl _)
  have hth := tail_head hc
  have t4 := T_eol (N := src.length) t3 hth.1 hth.2
  have t4' : Tx (eolZ src.length (prB src).2) (tailT cs) := t4
  obtain ⟨z', e5, t5⟩ := T_loop (N := src.length) cs [] _ _ (PlI.start src.length (eolZ src.length (prB src).2)) t4' hc (by simpa using hl)
  have eC : prC src = (cs, z') := by unfold prC; rw [e5]; rfl
  have h6 := t5.rest
  rw [show endT = [101, 110, 100] ++ (10 :: []) from rfl, lex_word wEnd (Br.nl [])] at h6
  have t6 : Tx (advZ src.length z') (10 :: []) := Tx.adv t5.er h6 (Lk.nl [])
  have h7 := t6.tok; have h8 := t6.rest
  rw [lex_nl] at h7 h8
  injection h7 with h7
  have k7 : (advZ src.length z').tok.kind = 1 := by rw [← h7]; rfl
  have t8 : Tx (advZ src.length (advZ src.length z')) [] := Tx.adv t6.er h8 ⟨.eof, by rw [lex_nil]⟩
  have h9 := t8.tok
  rw [lex_nil] at h9
  injection h9 with h9
  have k9 : (advZ src.length (advZ src.length z')).tok.kind = 0 := by rw [← h9]; rfl
  have eD : prD src = advZ src.length (advZ src.length z') := by
    unfold prD
    rw [eC]
    show fnZ (blZ src.length (advZ src.length z')) = _
    have hb : blZ src.length (advZ src.length z') = advZ src.length (advZ src.length z') := by
      unfold blZ
      rw [blF_go _ _ t6.er k7 (by omega), blF_stop _ _ (fun q => by rw [k9] at q; exact absurd q.2 (by decide))]
    rw [hb, fn_f (.inr k9)]
  refine ⟨a3, by rw [eC], ?_⟩
  rw [eD]
  have := t8.er
  cases hq : (advZ src.length (advZ src.length z')).err with
  | none => rfl
  | some x => rw [hq] at this; cases this
/-- the printed text is a row of bytes -/
abbrev Byt9 (l : List Int) : Prop := ∀ x, x ∈ l → 0 ≤ x ∧ x ≤ 255
theorem Byt9.app {a b : List Int} (ha : Byt9 a) (hb : Byt9 b) : Byt9 (a ++ b) := fun x hx => by
  rcases List.mem_append.1 hx with h | h
  · exact ha x h
  · exact hb x h
theorem byt_dg (n : Nat) : Byt9 (dg n) := fun x hx => by have := digB_iff.1 (dg_d n x hx); omega
theorem byt_dev (d : Int) : Byt9 (pDev d) := Byt9.app (by decide) (byt_dg _)
theorem byt_pre (x l : Int) : Byt9 (pPre x l) := Byt9.app (Byt9.app (Byt9.app (by decide) (byt_dg _)) (by decide)) (byt_dg _)
theorem byt_if {p : Prop} [Decidable p] {a b : List Int} (ha : Byt9 a) (hb : Byt9 b) : Byt9 (if p then a else b) := by split; exact ha; exact hb
theorem byt_ch (c : Ch) : Byt9 (pCh c) := by
  unfold pCh
  refine Byt9.app ?_ (by decide)
  refine byt_if (Byt9.app (Byt9.app (Byt9.app (by decide) (byt_dev _)) (byt_pre _ _)) (byt_if (by decide) (Byt9.app (by decide) (byt_dev _)))) ?_
  refine byt_if (Byt9.app (Byt9.app (by decide) (byt_dev _)) (byt_pre _ _)) ?_
  refine byt_if (Byt9.app (Byt9.app (Byt9.app (Byt9.app (Byt9.app (Byt9.app (Byt9.app (by decide) (byt_dev _)) (by decide)) (byt_dg _)) (byt_if (by decide) (by decide))) (byt_pre _ _)) (by decide)) (byt_if (by decide) (byt_dg _))) ?_
  refine byt_if (Byt9.app (Byt9.app (Byt9.app (by decide) (byt_dev _)) (by decide)) (byt_dg _)) ?_
  refine byt_if (Byt9.app (Byt9.app (byt_if (by decide) (by decide)) (byt_dev _)) (byt_dev _)) ?_
  exact byt_if (Byt9.app (Byt9.app (byt_if (by decide) (by decide)) (byt_dev _)) (byt_dev _)) (by decide)
theorem byt_tx (id : Int) (cs : List Ch) : Byt9 (pTx id cs) := by
  unfold pTx
  refine Byt9.app (Byt9.app (Byt9.app (Byt9.app (by decide) (byt_dg _)) (by decide)) ?_) (by decide)
  intro x hx
  obtain ⟨c, _, h⟩ := List.mem_flatMap.1 hx
  exact byt_ch c x h
theorem tx_pos (id : Int) (cs : List Ch) : 0 < (pTx id cs).length := by
  unfold pTx; simp only [List.length_append, List.length_cons]; omega
theorem tx_src {idv : Int} {cs : List Ch} {p : Option Addr} {cap : Nat} {E : List (Nat × Obj)} (hl : (pTx idv cs).length ≤ 9223372036854775807) (hR : Row (.slice p (pTx idv cs).length cap) (pTx idv cs).length (iv8 (pTx idv cs)) 1 5 E) : SrcL (.slice p (pTx idv cs).length cap) (pTx idv cs) E := by
  have hp := tx_pos idv cs
  obtain ⟨b, junk, rfl, h1, h2, rfl⟩ := row_pos hR hp
  refine ⟨_, cap, rfl, h2, hl, .inr ⟨hp, b, 0, iv8 (pTx idv cs) ++ junk, 5, (0, 0), rfl, rfl, fun i hi => ?_⟩⟩
  have hg := gD_get hi
  refine ⟨?_, byt_tx idv cs _ (List.mem_of_getElem? hg)⟩
  rw [Nat.zero_add, List.getElem?_append_left (by rw [iv8_len]; exact hi)]
  unfold iv8
  rw [List.getElem?_map, hg]; rfl

end Go.Proofs.Qxb6500907a

import Derived.Test.Qxb6500907aX11
namespace Go.Proofs.Qxb6500907a
open Go.Eng
set_option linter.unusedVariables false
set_option linter.unusedSimpArgs false

/-! ## words -/
theorem wRoute : WdL [114, 111, 117, 116, 101] := ⟨_, _, rfl, by decide, by decide⟩
theorem qRoute : sEq (bA [114, 111, 117, 116, 101]) sRoute = true := by decide +kernel
theorem wAcl : WdL [97, 99, 108] := ⟨_, _, rfl, by decide, by decide⟩
theorem qAcl : sEq (bA [97, 99, 108]) sAcl = true := by decide +kernel
theorem wLink : WdL [108, 105, 110, 107] := ⟨_, _, rfl, by decide, by decide⟩
theorem qLink : sEq (bA [108, 105, 110, 107]) sLink = true := by decide +kernel
theorem wIface : WdL [105, 102, 97, 99, 101] := ⟨_, _, rfl, by decide, by decide⟩
theorem qIface : sEq (bA [105, 102, 97, 99, 101]) sIface = true := by decide +kernel
theorem wAdd : WdL [97, 100, 100] := ⟨_, _, rfl, by decide, by decide⟩
theorem qAdd : sEq (bA [97, 100, 100]) sAdd = true := by decide +kernel
theorem wDel : WdL [100, 101, 108] := ⟨_, _, rfl, by decide, by decide⟩
theorem qDel : sEq (bA [100, 101, 108]) sDel = true := by decide +kernel
theorem wVia : WdL [118, 105, 97] := ⟨_, _, rfl, by decide, by decide⟩
theorem qVia : sEq (bA [118, 105, 97]) sVia = true := by decide +kernel
theorem wLocal : WdL [108, 111, 99, 97, 108] := ⟨_, _, rfl, by decide, by decide⟩
theorem qLocal : sEq (bA [108, 111, 99, 97, 108]) sLocal = true := by decide +kernel
theorem wInsert : WdL [105, 110, 115, 101, 114, 116] := ⟨_, _, rfl, by decide, by decide⟩
theorem qInsert : sEq (bA [105, 110, 115, 101, 114, 116]) sInsert = true := by decide +kernel
theorem wRemove : WdL [114, 101, 109, 111, 118, 101] := ⟨_, _, rfl, by decide, by decide⟩
theorem qRemove : sEq (bA [114, 101, 109, 111, 118, 101]) sRemove = true := by decide +kernel
theorem wPermit : WdL [112, 101, 114, 109, 105, 116] := ⟨_, _, rfl, by decide, by decide⟩
theorem qPermit : sEq (bA [112, 101, 114, 109, 105, 116]) sPermit = true := by decide +kernel
theorem wDeny : WdL [100, 101, 110, 121] := ⟨_, _, rfl, by decide, by decide⟩
theorem qDeny : sEq (bA [100, 101, 110, 121]) sDeny = true := by decide +kernel
theorem wClass : WdL [99, 108, 97, 115, 115] := ⟨_, _, rfl, by decide, by decide⟩
theorem qClass : sEq (bA [99, 108, 97, 115, 115]) sClass = true := by decide +kernel
theorem wAny : WdL [97, 110, 121] := ⟨_, _, rfl, by decide, by decide⟩
theorem qAny : sEq (bA [97, 110, 121]) sAny = true := by decide +kernel
theorem wUp : WdL [117, 112] := ⟨_, _, rfl, by decide, by decide⟩
theorem qUp : sEq (bA [117, 112]) sUp = true := by decide +kernel
theorem wDown : WdL [100, 111, 119, 110] := ⟨_, _, rfl, by decide, by decide⟩
theorem qDown : sEq (bA [100, 111, 119, 110]) sDown = true := by decide +kernel
theorem wBatch : WdL [98, 97, 116, 99, 104] := ⟨_, _, rfl, by decide, by decide⟩
theorem qBatch : sEq (bA [98, 97, 116, 99, 104]) sBatch = true := by decide +kernel
theorem wEnd : WdL [101, 110, 100] := ⟨_, _, rfl, by decide, by decide⟩
theorem qEnd : sEq (bA [101, 110, 100]) sEnd = true := by decide +kernel
theorem nAcl_Route : sEq (bA [97, 99, 108]) sRoute = false := by decide +kernel
theorem nLink_Route : sEq (bA [108, 105, 110, 107]) sRoute = false := by decide +kernel
theorem nLink_Acl : sEq (bA [108, 105, 110, 107]) sAcl = false := by decide +kernel
theorem nIface_Route : sEq (bA [105, 102, 97, 99, 101]) sRoute = false := by decide +kernel
theorem nIface_Acl : sEq (bA [105, 102, 97, 99, 101]) sAcl = false := by decide +kernel
theorem nIface_Link : sEq (bA [105, 102, 97, 99, 101]) sLink = false := by decide +kernel
theorem nDel_Add : sEq (bA [100, 101, 108]) sAdd = false := by decide +kernel
theorem nLocal_Via : sEq (bA [108, 111, 99, 97, 108]) sVia = false := by decide +kernel
theorem nRemove_Insert : sEq (bA [114, 101, 109, 111, 118, 101]) sInsert = false := by decide +kernel
theorem nDeny_Permit : sEq (bA [100, 101, 110, 121]) sPermit = false := by decide +kernel
theorem nDown_Up : sEq (bA [100, 111, 119, 110]) sUp = false := by decide +kernel
theorem nRoute_End : sEq (bA [114, 111, 117, 116, 101]) sEnd = false := by decide +kernel
theorem nAcl_End : sEq (bA [97, 99, 108]) sEnd = false := by decide +kernel
theorem nLink_End : sEq (bA [108, 105, 110, 107]) sEnd = false := by decide +kernel
theorem nIface_End : sEq (bA [105, 102, 97, 99, 101]) sEnd = false := by decide +kernel
/-! ## each kind of change -/
theorem T_add1 {N : Nat} {z2 : ZS} {dv ra rl via : Nat} {more : List Int} (hdv : dv < 16) (hra : ra ≤ 255) (hrl : rl ≤ 8) (hg : gpF (ra : Int) (rl : Int) = true) (hv : via < 16)
    (h : Tx z2 ((114 :: dg dv) ++ (32 :: (dg ra ++ (47 :: (dg rl ++ (32 :: ([118, 105, 97] ++ (32 :: ((114 :: dg via) ++ (10 :: more))))))))))) : (chAdd N z2).1 = ⟨0, dv, 0, 0, false, ra, rl, via, false, 0, 0, 0⟩ ∧ Tx (chAdd N z2).2 (10 :: more) := by
  obtain ⟨a1, b1⟩ := T_dev (N := N) h hdv (Br.sp _) (Lk.sp (Lk.num (by omega) (Br.slash _)))
  obtain ⟨a2, b2⟩ := T_pre (N := N) b1.sp hra hrl hg (Br.sp _) (Lk.sp (Lk.word wVia (Br.sp _)))
  obtain ⟨a3, b3⟩ := T_kw (N := N) (s1 := sVia) (s2 := sLocal) b2.sp wVia (Br.sp _) (Lk.sp (Lk.word (WdL.dev via) (Br.nl _))) (.inl qVia)
  obtain ⟨a4, b4⟩ := T_dev (N := N) b3.sp hv (Br.nl _) (Lk.nl _)
  unfold chAdd
  rw [if_pos (by rw [a3]; exact qVia), a1, a2, a4]
  exact ⟨rfl, b4⟩
theorem T_add2 {N : Nat} {z2 : ZS} {dv ra rl : Nat} {more : List Int} (hdv : dv < 16) (hra : ra ≤ 255) (hrl : rl ≤ 8) (hg : gpF (ra : Int) (rl : Int) = true)
    (h : Tx z2 ((114 :: dg dv) ++ (32 :: (dg ra ++ (47 :: (dg rl ++ (32 :: ([108, 111, 99, 97, 108] ++ (10 :: more))))))))) : (chAdd N z2).1 = ⟨0, dv, 0, 0, false, ra, rl, 16, false, 0, 0, 0⟩ ∧ Tx (chAdd N z2).2 (10 :: more) := by
  obtain ⟨a1, b1⟩ := T_dev (N := N) h hdv (Br.sp _) (Lk.sp (Lk.num (by omega) (Br.slash _)))
  obtain ⟨a2, b2⟩ := T_pre (N := N) b1.sp hra hrl hg (Br.sp _) (Lk.sp (Lk.word wLocal (Br.nl _)))
  obtain ⟨a3, b3⟩ := T_kw (N := N) (s1 := sVia) (s2 := sLocal) b2.sp wLocal (Br.nl _) (Lk.nl _) (.inr qLocal)
  unfold chAdd
  rw [if_neg (by rw [a3, nLocal_Via]; simp), a1, a2]
  exact ⟨rfl, b3⟩
theorem T_del {N : Nat} {z2 : ZS} {dv ra rl : Nat} {more : List Int} (hdv : dv < 16) (hra : ra ≤ 255) (hrl : rl ≤ 8) (hg : gpF (ra : Int) (rl : Int) = true)
    (h : Tx z2 ((114 :: dg dv) ++ (32 :: (dg ra ++ (47 :: (dg rl ++ (10 :: more))))))) : (chDel N z2).1 = ⟨1, dv, 0, 0, false, ra, rl, 0, false, 0, 0, 0⟩ ∧ Tx (chDel N z2).2 (10 :: more) := by
  obtain ⟨a1, b1⟩ := T_dev (N := N) h hdv (Br.sp _) (Lk.sp (Lk.num (by omega) (Br.slash _)))
  obtain ⟨a2, b2⟩ := T_pre (N := N) b1.sp hra hrl hg (Br.nl _) (Lk.nl _)
  unfold chDel
  rw [a1, a2]
  exact ⟨rfl, b2⟩
theorem T_rem {N : Nat} {z2 : ZS} {dv ix : Nat} {more : List Int} (hdv : dv < 16) (hix : ix < 64) (h : Tx z2 ((114 :: dg dv) ++ (32 :: (dg ix ++ (10 :: more))))) : (chAcl N false z2).1 = ⟨3, dv, 0, ix, false, 0, 0, 0, false, 0, 0, 0⟩ ∧ Tx (chAcl N false z2).2 (10 :: more) := by
  obtain ⟨a1, b1⟩ := T_dev (N := N) h hdv (Br.sp _) (Lk.sp (Lk.num (by omega) (Br.nl _)))
  obtain ⟨a2, b2⟩ := T_num (N := N) (mx := 63) (code := 10) b1.sp (by omega) (by omega) (Br.nl _) (Lk.nl _)
  unfold chAcl
  rw [if_neg (by simp), a1, a2]
  exact ⟨rfl, b2⟩
/-- what stands behind the class -/
theorem T_cls1 {N : Nat} {z5 : ZS} {da dl cl : Nat} {d i : Int} {pm : Bool} {more : List Int} (hda : da ≤ 255) (hdl : dl ≤ 8) (hg : gpF (da : Int) (dl : Int) = true) (hcl : cl < 16)
    (h : Tx z5 (dg da ++ (47 :: (dg dl ++ (32 :: ([99, 108, 97, 115, 115] ++ (32 :: (dg cl ++ (10 :: more)))))))) ) : (chIns2 N d i pm z5).1 = ⟨2, d, 0, i, false, 0, 0, 0, pm, da, dl, cl⟩ ∧ Tx (chIns2 N d i pm z5).2 (10 :: more) := by
  obtain ⟨a1, b1⟩ := T_pre (N := N) h hda hdl hg (Br.sp _) (Lk.sp (Lk.word wClass (Br.sp _)))
  obtain ⟨a2, b2⟩ := T_kw (N := N) (s1 := sClass) (s2 := sClass) b1.sp wClass (Br.sp _) (Lk.sp (Lk.num (by omega) (Br.nl _))) (.inl qClass)
  have hk : (kwZ N (prefZ N z5).2 sClass sClass).2.tok.kind = 3 := by
    have h1 := b2.sp.tok
    rw [lex_num (by omega) (Br.nl _)] at h1
    injection h1 with h1
    rw [← h1]; rfl
  obtain ⟨a3, b3⟩ := T_num (N := N) (mx := 15) (code := 8) b2.sp (by omega) (by omega) (Br.nl _) (Lk.nl _)
  unfold chIns2
  rw [if_pos hk, a1, a3]
  exact ⟨rfl, b3⟩
theorem T_cls2 {N : Nat} {z5 : ZS} {da dl : Nat} {d i : Int} {pm : Bool} {more : List Int} (hda : da ≤ 255) (hdl : dl ≤ 8) (hg : gpF (da : Int) (dl : Int) = true)
    (h : Tx z5 (dg da ++ (47 :: (dg dl ++ (32 :: ([99, 108, 97, 115, 115] ++ (32 :: ([97, 110, 121] ++ (10 :: more)))))))) ) : (chIns2 N d i pm z5).1 = ⟨2, d, 0, i, false, 0, 0, 0, pm, da, dl, 16⟩ ∧ Tx (chIns2 N d i pm z5).2 (10 :: more) := by
  obtain ⟨a1, b1⟩ := T_pre (N := N) h hda hdl hg (Br.sp _) (Lk.sp (Lk.word wClass (Br.sp _)))
  obtain ⟨a2, b2⟩ := T_kw (N := N) (s1 := sClass) (s2 := sClass) b1.sp wClass (Br.sp _) (Lk.sp (Lk.word wAny (Br.nl _))) (.inl qClass)
  have hk : ¬ (kwZ N (prefZ N z5).2 sClass sClass).2.tok.kind = 3 := by
    have h1 := b2.sp.tok
    rw [lex_word wAny (Br.nl _)] at h1
    injection h1 with h1
    rw [← h1]; decide
  obtain ⟨a3, b3⟩ := T_kw (N := N) (s1 := sAny) (s2 := sAny) b2.sp wAny (Br.nl _) (Lk.nl _) (.inl qAny)
  unfold chIns2
  rw [if_neg hk, a1]
  exact ⟨rfl, b3⟩
theorem T_insP {N : Nat} {z2 : ZS} {dv ix : Nat} {pm : Bool} {l : List Int} (hdv : dv < 16) (hix : ix < 64) (hk : Lk l) (h : Tx z2 ((114 :: dg dv) ++ (32 :: (dg ix ++ (32 :: ((if pm then [112, 101, 114, 109, 105, 116] else [100, 101, 110, 121]) ++ (32 :: l))))))) : ∃ z5, chAcl N true z2 = chIns2 N dv ix pm z5 ∧ Tx z5 l := by
  have hw : WdL (if pm then [112, 101, 114, 109, 105, 116] else [100, 101, 110, 121]) := by cases pm; exact wDeny; exact wPermit
  obtain ⟨a1, b1⟩ := T_dev (N := N) h hdv (Br.sp _) (Lk.sp (Lk.num (by omega) (Br.sp _)))
  obtain ⟨a2, b2⟩ := T_num (N := N) (mx := 63) (code := 10) b1.sp (by omega) (by omega) (Br.sp _) (Lk.sp (Lk.word hw (Br.sp _)))
  obtain ⟨a3, b3⟩ := T_kw (N := N) (s1 := sPermit) (s2 := sDeny) b2.sp hw (Br.sp _) hk.sp (by cases pm; exact .inr qDeny; exact .inl qPermit)
  refine ⟨_, ?_, b3.sp⟩
  have hp : sEq (bA (if pm then [112, 101, 114, 109, 105, 116] else [100, 101, 110, 121])) sPermit = pm := by cases pm; exact nDeny_Permit; exact qPermit
  unfold chAcl
  rw [if_pos rfl, a1, a2, a3, hp]
theorem T_two {N : Nat} {z2 : ZS} {dv pr : Nat} {more : List Int} (hdv : dv < 16) (hpr : pr < 16) (h : Tx z2 ((114 :: dg dv) ++ (32 :: ((114 :: dg pr) ++ (10 :: more))))) : (devZ N z2).1 = (dv : Int) ∧ (devZ N (devZ N z2).2).1 = (pr : Int) ∧ Tx (devZ N (devZ N z2).2).2 (10 :: more) := by
  obtain ⟨a1, b1⟩ := T_dev (N := N) h hdv (Br.sp _) (Lk.sp (Lk.word (WdL.dev pr) (Br.nl _)))
  obtain ⟨a2, b2⟩ := T_dev (N := N) b1.sp hpr (Br.nl _) (Lk.nl _)
  exact ⟨a1, a2, b2⟩
theorem T_link {N : Nat} {z2 : ZS} {dv pr : Nat} {up : Bool} {more : List Int} (hdv : dv < 16) (hpr : pr < 16) (hlt : dv < pr) (h : Tx z2 ((114 :: dg dv) ++ (32 :: ((114 :: dg pr) ++ (10 :: more))))) : (chLink N up z2).1 = ⟨4, dv, pr, 0, up, 0, 0, 0, false, 0, 0, 0⟩ ∧ Tx (chLink N up z2).2 (10 :: more) := by
  obtain ⟨a1, a2, b2⟩ := T_two (N := N) hdv hpr h
  unfold chLink
  rw [if_neg (by rw [a1, a2]; omega), a1, a2]
  exact ⟨rfl, b2⟩
theorem T_iface {N : Nat} {z2 : ZS} {dv pr : Nat} {up : Bool} {more : List Int} (hdv : dv < 16) (hpr : pr < 16) (h : Tx z2 ((114 :: dg dv) ++ (32 :: ((114 :: dg pr) ++ (10 :: more))))) : (chIface N up z2).1 = ⟨5, dv, pr, 0, up, 0, 0, 0, false, 0, 0, 0⟩ ∧ Tx (chIface N up z2).2 (10 :: more) := by
  obtain ⟨a1, a2, b2⟩ := T_two (N := N) hdv hpr h
  unfold chIface
  rw [a1, a2]
  exact ⟨rfl, b2⟩
theorem T_updn {N : Nat} {z1 : ZS} {up : Bool} {l : List Int} (hk : Lk l) (h : Tx z1 ((if up then [117, 112] else [100, 111, 119, 110]) ++ (32 :: l))) : (kwZ N z1 sUp sDown).1 = up ∧ Tx (kwZ N z1 sUp sDown).2 l := by
  have hw : WdL (if up then [117, 112] else [100, 111, 119, 110]) := by cases up; exact wDown; exact wUp
  obtain ⟨a3, b3⟩ := T_kw (N := N) (s1 := sUp) (s2 := sDown) h hw (Br.sp _) hk.sp (by cases up; exact .inr qDown; exact .inl qUp)
  have hp : sEq (bA (if up then [117, 112] else [100, 111, 119, 110])) sUp = up := by cases up; exact nDown_Up; exact qUp
  exact ⟨a3.trans hp, b3.sp⟩
theorem Lk.dev {d : Nat} {l : List Int} (hb : Br l) : Lk ((114 :: dg d) ++ l) := Lk.word (WdL.dev d) hb
/-- the whole line -/
structure Line (N : Nat) (c : Ch) (z : ZS) (more : List Int) : Prop where
  ch : (chBody N z).1 = c
  tx : Tx (chBody N z).2 (10 :: more)
theorem toN {x : Int} (h : 0 ≤ x) : ∃ n : Nat, x = n := ⟨x.toNat, by omega⟩
theorem line {N : Nat} {c : Ch} {z : ZS} {more : List Int} (hok : c.ok) (hc : CkO c) (h : Tx z (pCh c ++ more)) : Line N c z more := by
  obtain ⟨k1, k2, k3, k4, k5, k6, k7, k8, k9, ku⟩ := hc
  obtain ⟨o1, o2, o3, o4, o5, o6, o7, o8, o9, o10⟩ := hok
  have g1l := gp_len k7; have g2l := gp_len k8
  obtain ⟨kd, dv, pr, ix, up, ra, rl, via, pm, da, dl, cl⟩ := c
  simp only at k1 k2 k3 k4 k5 k6 k7 k8 k9 o1 o2 o3 o4 o5 o6 o7 o8 o9 o10 g1l g2l
  obtain ⟨dv, rfl⟩ := toN k2.1
  obtain ⟨ra, rfl⟩ := toN o5.1
  obtain ⟨rl, rfl⟩ := toN o6.1
  obtain ⟨da, rfl⟩ := toN o8.1
  obtain ⟨dl, rfl⟩ := toN o9.1
  obtain ⟨ix, rfl⟩ := toN o4.1
  obtain ⟨via, rfl⟩ := toN o7.1
  obtain ⟨pr, rfl⟩ := toN o3.1
  obtain ⟨cl, rfl⟩ := toN o10.1
  have hT : ∀ x : Nat, ((x : Int)).toNat = x := fun x => Int.toNat_natCast x
  rcases (show kd = 0 ∨ kd = 1 ∨ kd = 2 ∨ kd = 3 ∨ kd = 4 ∨ kd = 5 by omega) with rfl | rfl | rfl | rfl | rfl | rfl
  · rw [useF_0 _ rfl] at ku
    simp only [Ch.mk.injEq, true_and, and_true] at ku
    obtain ⟨e1, e2, e3, e4, e5, e6, e7⟩ := ku
    subst e3; subst e4
    rw [e1, e2, e5, e6, e7]
    by_cases hv : via = 16
    · subst hv
      have htx : pCh ⟨0, dv, pr, ix, false, ra, rl, ((16 : Nat) : Int), false, da, dl, cl⟩ ++ more = [114, 111, 117, 116, 101] ++ (32 :: ([97, 100, 100] ++ (32 :: ((114 :: dg dv) ++ (32 :: (dg ra ++ (47 :: (dg rl ++ (32 :: ([108, 111, 99, 97, 108] ++ (10 :: more)))))))))) ) := by
        simp [pCh, pDev, pPre, hT]
      rw [htx] at h
      obtain ⟨a1, b1⟩ := T_word (N := N) h wRoute (Br.sp _) (Lk.sp (Lk.word wAdd (Br.sp _)))
      obtain ⟨a2, b2⟩ := T_kw (N := N) (s1 := sAdd) (s2 := sDel) b1.sp wAdd (Br.sp _) (Lk.sp (Lk.dev (Br.sp _))) (.inl qAdd)
      obtain ⟨a3, b3⟩ := T_add2 (N := N) (by omega) (by omega) (by omega) k7 b2.sp
      have hb : chBody N z = chAdd N (kwZ N (wordZ N z).2 sAdd sDel).2 := by unfold chBody chSw; rw [a1, if_pos qRoute, if_pos (by rw [a2]; exact qAdd)]
      exact ⟨by rw [hb, a3]; rfl, by rw [hb]; exact b3⟩
    · have htx : pCh ⟨0, dv, pr, ix, false, ra, rl, via, false, da, dl, cl⟩ ++ more = [114, 111, 117, 116, 101] ++ (32 :: ([97, 100, 100] ++ (32 :: ((114 :: dg dv) ++ (32 :: (dg ra ++ (47 :: (dg rl ++ (32 :: ([118, 105, 97] ++ (32 :: ((114 :: dg via) ++ (10 :: more)))))))))))) ) := by
        simp [pCh, pDev, pPre, hT, show ¬ ((via : Int) = 16) by omega]
      rw [htx] at h
      obtain ⟨a1, b1⟩ := T_word (N := N) h wRoute (Br.sp _) (Lk.sp (Lk.word wAdd (Br.sp _)))
      obtain ⟨a2, b2⟩ := T_kw (N := N) (s1 := sAdd) (s2 := sDel) b1.sp wAdd (Br.sp _) (Lk.sp (Lk.dev (Br.sp _))) (.inl qAdd)
      obtain ⟨a3, b3⟩ := T_add1 (N := N) (by omega) (by omega) (by omega) k7 (by omega) b2.sp
      have hb : chBody N z = chAdd N (kwZ N (wordZ N z).2 sAdd sDel).2 := by unfold chBody chSw; rw [a1, if_pos qRoute, if_pos (by rw [a2]; exact qAdd)]
      exact ⟨by rw [hb, a3], by rw [hb]; exact b3⟩
  · rw [useF_1 _ rfl] at ku
    simp only [Ch.mk.injEq, true_and, and_true] at ku
    obtain ⟨e1, e2, e3, e8, e4, e5, e6, e7⟩ := ku
    subst e3; subst e4
    rw [e1, e2, e5, e6, e7, e8]
    have htx : pCh ⟨1, dv, pr, ix, false, ra, rl, via, false, da, dl, cl⟩ ++ more = [114, 111, 117, 116, 101] ++ (32 :: ([100, 101, 108] ++ (32 :: ((114 :: dg dv) ++ (32 :: (dg ra ++ (47 :: (dg rl ++ (10 :: more)))))))) ) := by
      simp [pCh, pDev, pPre, hT]
    rw [htx] at h
    obtain ⟨a1, b1⟩ := T_word (N := N) h wRoute (Br.sp _) (Lk.sp (Lk.word wDel (Br.sp _)))
    obtain ⟨a2, b2⟩ := T_kw (N := N) (s1 := sAdd) (s2 := sDel) b1.sp wDel (Br.sp _) (Lk.sp (Lk.dev (Br.sp _))) (.inr qDel)
    obtain ⟨a3, b3⟩ := T_del (N := N) (by omega) (by omega) (by omega) k7 b2.sp
    have hb : chBody N z = chDel N (kwZ N (wordZ N z).2 sAdd sDel).2 := by unfold chBody chSw; rw [a1, if_pos qRoute, if_neg (by rw [a2, nDel_Add]; simp)]
    exact ⟨by rw [hb, a3], by rw [hb]; exact b3⟩
  · rw [useF_2 _ rfl] at ku
    simp only [Ch.mk.injEq, true_and, and_true] at ku
    obtain ⟨e1, e3, e5, e6, e7⟩ := ku
    subst e3
    rw [e1, e5, e6, e7]
    by_cases hv : cl = 16
    · subst hv
      have htx : pCh ⟨2, dv, pr, ix, false, ra, rl, via, pm, da, dl, ((16 : Nat) : Int)⟩ ++ more = [97, 99, 108] ++ (32 :: ([105, 110, 115, 101, 114, 116] ++ (32 :: ((114 :: dg dv) ++ (32 :: (dg ix ++ (32 :: ((if pm then [112, 101, 114, 109, 105, 116] else [100, 101, 110, 121]) ++ (32 :: (dg da ++ (47 :: (dg dl ++ (32 :: ([99, 108, 97, 115, 115] ++ (32 :: ([97, 110, 121] ++ (10 :: more)))))))))))))))) ) := by
        cases pm <;> simp [pCh, pDev, pPre, hT]
      rw [htx] at h
      obtain ⟨a1, b1⟩ := T_word (N := N) h wAcl (Br.sp _) (Lk.sp (Lk.word wInsert (Br.sp _)))
      obtain ⟨a2, b2⟩ := T_kw (N := N) (s1 := sInsert) (s2 := sRemove) b1.sp wInsert (Br.sp _) (Lk.sp (Lk.dev (Br.sp _))) (.inl qInsert)
      obtain ⟨z5, e8, b5⟩ := T_insP (N := N) (by omega) (by omega) (Lk.num (by omega) (Br.slash _)) b2.sp
      obtain ⟨a3, b3⟩ := T_cls2 (N := N) (d := dv) (i := ix) (pm := pm) (by omega) (by omega) k8 b5
      have hb : chBody N z = chIns2 N dv ix pm z5 := by unfold chBody chSw; rw [a1, if_neg (by rw [nAcl_Route]; simp), if_pos qAcl, a2, qInsert]; exact e8
      exact ⟨by rw [hb, a3]; rfl, by rw [hb]; exact b3⟩
    · have htx : pCh ⟨2, dv, pr, ix, false, ra, rl, via, pm, da, dl, cl⟩ ++ more = [97, 99, 108] ++ (32 :: ([105, 110, 115, 101, 114, 116] ++ (32 :: ((114 :: dg dv) ++ (32 :: (dg ix ++ (32 :: ((if pm then [112, 101, 114, 109, 105, 116] else [100, 101, 110, 121]) ++ (32 :: (dg da ++ (47 :: (dg dl ++ (32 :: ([99, 108, 97, 115, 115] ++ (32 :: (dg cl ++ (10 :: more)))))))))))))))) ) := by
        cases pm <;> simp [pCh, pDev, pPre, hT, show ¬ ((cl : Int) = 16) by omega]
      rw [htx] at h
      have := k4 rfl
      obtain ⟨a1, b1⟩ := T_word (N := N) h wAcl (Br.sp _) (Lk.sp (Lk.word wInsert (Br.sp _)))
      obtain ⟨a2, b2⟩ := T_kw (N := N) (s1 := sInsert) (s2 := sRemove) b1.sp wInsert (Br.sp _) (Lk.sp (Lk.dev (Br.sp _))) (.inl qInsert)
      obtain ⟨z5, e8, b5⟩ := T_insP (N := N) (by omega) (by omega) (Lk.num (by omega) (Br.slash _)) b2.sp
      obtain ⟨a3, b3⟩ := T_cls1 (N := N) (d := dv) (i := ix) (pm := pm) (by omega) (by omega) k8 (by omega) b5
      have hb : chBody N z = chIns2 N dv ix pm z5 := by unfold chBody chSw; rw [a1, if_neg (by rw [nAcl_Route]; simp), if_pos qAcl, a2, qInsert]; exact e8
      exact ⟨by rw [hb, a3], by rw [hb]; exact b3⟩
  · rw [useF_3 _ rfl] at ku
    simp only [Ch.mk.injEq, true_and, and_true] at ku
    obtain ⟨e1, e3, e5, e6, e7, e4, e8, e9, e10⟩ := ku
    subst e3; subst e4
    rw [e1, e5, e6, e7, e8, e9, e10]
    have htx : pCh ⟨3, dv, pr, ix, false, ra, rl, via, false, da, dl, cl⟩ ++ more = [97, 99, 108] ++ (32 :: ([114, 101, 109, 111, 118, 101] ++ (32 :: ((114 :: dg dv) ++ (32 :: (dg ix ++ (10 :: more)))))) ) := by
      simp [pCh, pDev, pPre, hT]
    rw [htx] at h
    obtain ⟨a1, b1⟩ := T_word (N := N) h wAcl (Br.sp _) (Lk.sp (Lk.word wRemove (Br.sp _)))
    obtain ⟨a2, b2⟩ := T_kw (N := N) (s1 := sInsert) (s2 := sRemove) b1.sp wRemove (Br.sp _) (Lk.sp (Lk.dev (Br.sp _))) (.inr qRemove)
    obtain ⟨a3, b3⟩ := T_rem (N := N) (by omega) (by omega) b2.sp
    have hb : chBody N z = chAcl N false (kwZ N (wordZ N z).2 sInsert sRemove).2 := by unfold chBody chSw; rw [a1, if_neg (by rw [nAcl_Route]; simp), if_pos qAcl, a2, nRemove_Insert]
    exact ⟨by rw [hb, a3], by rw [hb]; exact b3⟩
  · rw [useF_4 _ (.inl rfl)] at ku
    simp only [Ch.mk.injEq, true_and, and_true] at ku
    obtain ⟨e1, e5, e6, e7, e4, e8, e9, e10⟩ := ku
    subst e4
    rw [e1, e5, e6, e7, e8, e9, e10]
    have h16 := k5 (.inl rfl)
    have hlt := k6 rfl
    have htx : pCh ⟨4, dv, pr, ix, up, ra, rl, via, false, da, dl, cl⟩ ++ more = [108, 105, 110, 107] ++ (32 :: ((if up then [117, 112] else [100, 111, 119, 110]) ++ (32 :: ((114 :: dg dv) ++ (32 :: ((114 :: dg pr) ++ (10 :: more)))))) ) := by
      cases up <;> simp [pCh, pDev, pPre, hT]
    rw [htx] at h
    have hw : WdL (if up then [117, 112] else [100, 111, 119, 110]) := by cases up; exact wDown; exact wUp
    obtain ⟨a1, b1⟩ := T_word (N := N) h wLink (Br.sp _) (Lk.sp (Lk.word hw (Br.sp _)))
    obtain ⟨a2, b2⟩ := T_updn (N := N) (Lk.dev (Br.sp _)) b1.sp
    obtain ⟨a3, b3⟩ := T_link (N := N) (up := up) (by omega) (by omega) (by omega) b2
    have hb : chBody N z = chLink N up (kwZ N (wordZ N z).2 sUp sDown).2 := by unfold chBody chSw; rw [a1, if_neg (by rw [nLink_Route]; simp), if_neg (by rw [nLink_Acl]; simp), if_pos qLink, a2]
    exact ⟨by rw [hb, a3], by rw [hb]; exact b3⟩
  · rw [useF_4 _ (.inr rfl)] at ku
    simp only [Ch.mk.injEq, true_and, and_true] at ku
    obtain ⟨e1, e5, e6, e7, e4, e8, e9, e10⟩ := ku
    subst e4
    rw [e1, e5, e6, e7, e8, e9, e10]
    have h16 := k5 (.inr rfl)
    have htx : pCh ⟨5, dv, pr, ix, up, ra, rl, via, false, da, dl, cl⟩ ++ more = [105, 102, 97, 99, 101] ++ (32 :: ((if up then [117, 112] else [100, 111, 119, 110]) ++ (32 :: ((114 :: dg dv) ++ (32 :: ((114 :: dg pr) ++ (10 :: more)))))) ) := by
      cases up <;> simp [pCh, pDev, pPre, hT]
    rw [htx] at h
    have hw : WdL (if up then [117, 112] else [100, 111, 119, 110]) := by cases up; exact wDown; exact wUp
    obtain ⟨a1, b1⟩ := T_word (N := N) h wIface (Br.sp _) (Lk.sp (Lk.word hw (Br.sp _)))
    obtain ⟨a2, b2⟩ := T_updn (N := N) (Lk.dev (Br.sp _)) b1.sp
    obtain ⟨a3, b3⟩ := T_iface (N := N) (up := up) (by omega) (by omega) b2
    have hb : chBody N z = chIface N up (kwZ N (wordZ N z).2 sUp sDown).2 := by unfold chBody chSw; rw [a1, if_neg (by rw [nIface_Route]; simp), if_neg (by rw [nIface_Acl]; simp), if_neg (by rw [nIface_Link]; simp), if_pos qIface, a2]
    exact ⟨by rw [hb, a3], by rw [hb]; exact b3⟩

end Go.Proofs.Qxb6500907a

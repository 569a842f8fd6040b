import Derived.Test.Qxb6500914aGreatK4
namespace Go.Proofs.Qxb6500914aGreat
open Go.Eng
set_option linter.unusedVariables false
set_option linter.unusedSimpArgs false

/-! ## one step of an operation, seen from its container -/
structure ContK (w : Nat → Int) (k : Bool) (q : PG) (nn : Nat) : Prop where
  n8 : nn ≤ 8
  n : q.n = nn
  dn : w (nd k (crN w k)) = nn
  c : ∀ c, c < nn * wd k → cellV k q c = ndC w k (crN w k) c
inductive LStep (w : Nat → Int) (k : Bool) (p : PG) (w' : Nat → Int) (q : PG) : Bool → Prop
  | go (h1 : p.pc ≤ 7) (h2 : q.pc ≤ 7) (hd : Same w w' k) : LStep w k p w' q false
  | swap (q0 : PG) (nn : Nat) (h1 : p.pc = 7) (h2 : q.pc = 8) (hc : ContK w k q0 nn) (hch : (applyF q0 nn p.ck p.cv p.cp).ch = true) (hn : w' (nd k (crN w' k)) = (applyF q0 nn p.ck p.cv p.cp).p.n) (hcl : ∀ c : Nat, (c : Int) < (applyF q0 nn p.ck p.cv p.cp).p.n * wd k → ndC w' k (crN w' k) c = cellV k (applyF q0 nn p.ck p.cv p.cp).p c)
      (hra : q.ra = (applyF q0 nn p.ck p.cv p.cp).ra) (hrv : q.rv = (applyF q0 nn p.ck p.cv p.cp).rv) (hrp : q.rp = (applyF q0 nn p.ck p.cv p.cp).rp) : LStep w k p w' q false
  | answer (q0 : PG) (nn : Nat) (h1 : p.pc = 4) (hd : Same w w' k) (hc : ContK w k q0 nn) (hch : (applyF q0 nn p.ck p.cv p.cp).ch = false) (hra : q.ra = (applyF q0 nn p.ck p.cv p.cp).ra) (hrv : q.rv = (applyF q0 nn p.ck p.cv p.cp).rv) (hrp : q.rp = (applyF q0 nn p.ck p.cv p.cp).rp) : LStep w k p w' q true
  | keep (h1 : p.pc = 8) (hd : Same w w' k) (hra : q.ra = p.ra) (hrv : q.rv = p.rv) (hrp : q.rp = p.rp) : LStep w k p w' q true
theorem lin_step {W : WS} {x : OX} {t : Nat} {k : Bool} {p : PG} (h : OI W x) (hc : CI W) (hr : W.run t = some (k, p)) : LStep W.m.word k p (stepF k W.m p).m.word (stepF k W.m p).p (stepF k W.m p).ret := by
  have hP : PI k t p := h.wi.pi t _ hr
  have hM := h.wi.mi
  have hT : TI W.m W.ck x k t p := h.th t _ hr
  have hct : CT W.m.word k p := hc t _ hr
  have hpc := hP.pc
  have hmv := mv hP hM
  have hwd := wd_le k
  have same : ¬ (p.pc = 7 ∧ (stepF k W.m p).p.pc = 8) → Same W.m.word (stepF k W.m p).m.word k := fun hn => mv_same h hr hmv k (fun z => hn z.2)
  by_cases h7 : p.pc = 7 ∧ (stepF k W.m p).p.pc = 8
  · have e := h7.1
    by_cases hw : W.m.word (hd k) = p.root
    · obtain ⟨s, hs, hs7⟩ := hP.sp (by omega)
      obtain ⟨r, hpr, hr1, hr2⟩ := hP.root (by omega)
      have hs' : p.sp.toNat = s := by omega
      have hr' : p.root.toNat = r := by omega
      obtain ⟨q0, nn, a1, a2, a3, a4, a5, a6, a7, a8, a9, a10, a11⟩ := hct.fr (by omega) (by omega) hw.symm
      obtain ⟨w1, w2⟩ := hct.w7 e
      rw [hs'] at w1 w2
      rw [stepF_7a e hw, hs', hr']
      have hcas : (casF W.m (hd k) p.root (succF r s : Nat)).word = updF W.m.word (hd k) ((succF r s : Nat) : Int) := by rw [cas_word, if_pos hw]
      show LStep W.m.word k p (casF W.m (hd k) p.root (succF r s : Nat)).word (p.s_pc 8) false
      rw [hcas]
      have hcr : crN (updF W.m.word (hd k) ((succF r s : Nat) : Int)) k = s := by
        unfold crN; rw [updF_same, Int.toNat_natCast]; exact (succF_ok r s (by omega)).2
      refine .swap q0 nn e rfl ⟨a1, a2, a3, a4⟩ a5 ?_ (fun c hcc => ?_) a9 a10 a11
      · rw [hcr, updF_ne _ _ (by have := hd_ne_nd k k s hs7 0 (by omega) 0 (by omega); omega), w1]
        exact a6
      · obtain ⟨nn2, hnn2, hnn28⟩ := hP.n (by omega)
        have hcc8 : c < 8 * wd k := by
          rw [← a6, hnn2] at hcc
          have : nn2 * wd k ≤ 8 * wd k := Nat.mul_le_mul_right _ hnn28
          have h9 : ((nn2 * wd k : Nat) : Int) = (nn2 : Int) * (wd k : Int) := by push_cast; rfl
          omega
        unfold ndC
        rw [hcr, updF_ne _ _ (by have := hd_ne_nd k k s hs7 (1 + c) (by omega) 0 (by omega); omega)]
        have := w2 c (by rw [a6]; exact hcc)
        refine this.trans ?_
        exact cellV_congr a7 a8 c
    · exfalso
      have h8 := h7.2
      rw [stepF_7b e hw] at h8
      exact absurd h8 (by show ¬ (2 : Int) = 8; decide)
  · have hds := same h7
    rcases (show p.pc = 4 ∨ p.pc = 8 ∨ (p.pc ≠ 4 ∧ p.pc ≠ 8) by omega) with e | e | e
    · obtain ⟨nn, hn, hn8⟩ := hP.n (by omega)
      have hn' : p.n.toNat = nn := by omega
      by_cases hw : W.m.word (hd k) = p.root
      · cases hch : (applyF p p.n.toNat p.ck p.cv p.cp).ch
        · rw [stepF_4c e hw hch, hn'] at hds ⊢
          rw [hn'] at hch
          refine .answer p nn e hds ⟨hn8, hn, ?_, fun c hcc => ?_⟩ hch rfl rfl rfl
          · rw [← hn]; exact (hT.n (.inr e) hw.symm).symm
          · refine hct.c4 e hw.symm c ?_
            rw [hn]
            have h9 : ((nn * wd k : Nat) : Int) = (nn : Int) * (wd k : Int) := by push_cast; rfl
            omega
        · rw [stepF_4b e hw hch] at hds ⊢; exact .go (by omega) (by show (5 : Int) ≤ 7; decide) hds
      · rw [stepF_4a e hw] at hds ⊢; exact .go (by omega) (by show (2 : Int) ≤ 7; decide) hds
    · rw [stepF_8 e] at hds ⊢; exact .keep e hds rfl rfl rfl
    · have hq := mv_go hmv e.1 e.2 h7
      rw [hq.1]
      exact .go (by omega) hq.2 hds
/-! ## contents as lists -/
def itm (p : PG) (nn : Nat) : List (Int × Int) := (List.range nn).map (fun i => (p.ip i, p.iv i))
def cPr (w : Nat → Int) (k : Bool) (i : Nat) : Int := if k then ndC w k (crN w k) (2 * i) else 0
def cVl (w : Nat → Int) (k : Bool) (i : Nat) : Int := if k then ndC w k (crN w k) (2 * i + 1) else ndC w k (crN w k) i
def cLi (w : Nat → Int) (k : Bool) : List (Int × Int) := (List.range (w (nd k (crN w k))).toNat).map (fun i => (cPr w k i, cVl w k i))
/-- what an operation makes of a content -/
def insL (x : Int × Int) (C : List (Int × Int)) : List (Int × Int) := C.takeWhile (fun y => decide (y.1 ≤ x.1)) ++ x :: C.dropWhile (fun y => decide (y.1 ≤ x.1))
structure Rs where
  a : Int
  v : Int
  p : Int
def apL (C : List (Int × Int)) (ck cv cp : Int) : List (Int × Int) × Rs × Bool :=
  if ck = 0 ∨ ck = 1 ∨ ck = 4 then
    if C.length = 8 then (C, ⟨3, 0, 0⟩, false) else ((if ck = 1 then C ++ [(cp, cv)] else if ck = 4 then insL (cp, cv) C else (cp, cv) :: C), ⟨0, 0, 0⟩, true)
  else match (if ck = 3 then C.getLast? else C.head?) with
    | none => (C, ⟨2, 0, 0⟩, false)
    | some x => if ck = 6 then (C, ⟨1, x.2, x.1⟩, false) else if ck = 7 ∧ cp < x.1 then (C, ⟨4, 0, x.1⟩, false) else ((if ck = 3 then C.dropLast else C.tail), ⟨1, x.2, x.1⟩, true)

end Go.Proofs.Qxb6500914aGreat

import Derived.Test.Qxb6500907aR14
namespace Go.Proofs.Qxb6500907a
open Go.Eng
set_option linter.unusedVariables false
set_option linter.unusedSimpArgs false

/-! ## the reader on tokens -/
def tkW (t : List Int) : Option Tk := match t with
  | [] => none
  | c :: r => if c = 47 then some .slash else if letB c then some (.word (c :: r)) else (decF 0 (c :: r)).map .num
def hd : List Ro → Option Tk
  | [] => some .eof
  | .nl :: _ => some .nl
  | .w t :: _ => tkW t
  | .bad :: _ => none
theorem lex_rtk (l : List Int) : (lexL l).tok = hd (rtk l) ∧ (∀ t, (lexL l).tok = some t → rtk (lexL l).rest = (rtk l).tail) := by
  unfold lexL
  rw [rtk_eq]
  cases skL l with
  | nil => exact ⟨rfl, fun t _ => rtk_nil⟩
  | cons c r =>
    simp only
    unfold lexC
    by_cases c1 : c = 10
    · rw [if_pos c1, if_pos c1]; exact ⟨rfl, fun _ _ => rfl⟩
    rw [if_neg c1, if_neg c1]
    by_cases c2 : c = 47
    · rw [if_pos c2, if_pos c2]; exact ⟨by unfold hd tkW; simp only; rw [if_pos c2], fun _ _ => rfl⟩
    rw [if_neg c2, if_neg c2]
    by_cases c3 : letB c = true
    · rw [if_pos c3, if_pos c3]; exact ⟨by unfold hd tkW; simp only; rw [if_neg c2, if_pos c3], fun _ _ => rfl⟩
    rw [if_neg c3, if_neg c3]
    by_cases c4 : digB c = true
    · rw [if_pos c4, if_pos c4]
      have e : hd (Ro.w (c :: r.takeWhile digB) :: rtk (r.dropWhile digB)) = (decF 0 (c :: r.takeWhile digB)).map .num := by
        unfold hd tkW; simp only; rw [if_neg c2, if_neg c3]
      rw [e]
      cases decF 0 (c :: r.takeWhile digB) with
      | none => exact ⟨rfl, fun t ht => by cases ht⟩
      | some n => exact ⟨rfl, fun _ _ => rfl⟩
    · rw [if_neg c4, if_neg c4]; exact ⟨rfl, fun t ht => by cases ht⟩
structure Zs (z : ZS) (ts : List Ro) : Prop where
  ok : z.err.isNone = true
  hd : hd ts = some z.tok
  rest : rtk z.rest = ts.tail
def Sm (z : ZS) : Option (List Ro) → Prop
  | none => z.err.isNone = false
  | some ts => Zs z ts
def SmV {α : Type} (v : α) (z : ZS) : Option (α × List Ro) → Prop
  | none => z.err.isNone = false
  | some p => v = p.1 ∧ Zs z p.2
theorem Mo.bad {z z' : ZS} (h : Mo z z') (hb : z.err.isNone = false) : z'.err.isNone = false := by
  cases hq : z'.err.isNone
  · rfl
  · rw [h.er hq] at hb; cases hb
theorem SmV.then {α β : Type} {v : α} {z : ZS} {o : Option (α × List Ro)} (h : SmV v z o) {v' : β} {z' : ZS} {f : α × List Ro → Option (β × List Ro)} (hm : Mo z z') (hf : ∀ ts, Zs z ts → SmV v' z' (f (v, ts))) : SmV v' z' (o.bind f) := by
  cases o with
  | none => exact hm.bad h
  | some p =>
    obtain ⟨a, ts⟩ := p
    obtain ⟨e, hz⟩ := h
    simp only at e
    subst e
    exact hf ts hz
theorem Sm.thenV {β : Type} {z : ZS} {o : Option (List Ro)} (h : Sm z o) {v' : β} {z' : ZS} {f : List Ro → Option (β × List Ro)} (hm : Mo z z') (hf : ∀ ts, Zs z ts → SmV v' z' (f ts)) : SmV v' z' (o.bind f) := by
  cases o with
  | none => exact hm.bad h
  | some ts => exact hf ts h
def advR (ts : List Ro) : Option (List Ro) := if (hd ts.tail).isSome then some ts.tail else none
theorem adv_sm (N : Nat) {z : ZS} {ts : List Ro} (h : Zs z ts) : Sm (advZ N z) (advR ts) := by
  obtain ⟨h1, h2⟩ := lex_rtk z.rest
  rw [h.rest] at h1 h2
  unfold advR advZ
  rw [if_pos h.ok]
  cases ht : hd ts.tail with
  | none => rw [ht] at h1; rw [h1]; rfl
  | some t =>
    rw [ht] at h1
    rw [h1]
    show Zs _ _
    exact ⟨rfl, ht, by rw [h2 t h1]⟩
def wordR (ts : List Ro) : Option (ByteArray × List Ro) := match hd ts with
  | some (.word t) => (advR ts).map fun r => (bA t, r)
  | _ => none
theorem Sm.val {α : Type} {z : ZS} {o : Option (List Ro)} (h : Sm z o) (v : α) : SmV v z (o.map fun r => (v, r)) := by
  cases o with
  | none => exact h
  | some ts => exact ⟨rfl, h⟩
theorem word_sm (N : Nat) {z : ZS} {ts : List Ro} (h : Zs z ts) : SmV (wordZ N z).1 (wordZ N z).2 (wordR ts) := by
  unfold wordR wordZ
  rw [h.hd, if_pos h.ok]
  have hk : z.tok.kind = 2 ∨ z.tok.kind ≠ 2 := by omega
  cases ht : z.tok with
  | word t => rw [if_pos (show (Tk.word t).kind = 2 from rfl)]; exact (adv_sm N h).val _
  | eof => rw [if_neg (by decide)]; exact unexp_err z
  | nl => rw [if_neg (by decide)]; exact unexp_err z
  | num n => rw [if_neg (show ¬ (Tk.num n).kind = 2 by show ¬ (3 : Int) = 2; decide)]; exact unexp_err z
  | slash => rw [if_neg (by decide)]; exact unexp_err z
def kwR (ts : List Ro) (s1 s2 : ByteArray) : Option (Bool × List Ro) := (wordR ts).bind fun p => if sEq p.1 s1 || sEq p.1 s2 then some (sEq p.1 s1, p.2) else none
theorem kw_sm (N : Nat) {z : ZS} {ts : List Ro} (h : Zs z ts) (s1 s2 : ByteArray) : SmV (kwZ N z s1 s2).1 (kwZ N z s1 s2).2 (kwR ts s1 s2) := by
  have hw := word_sm N h
  have hm : Mo (wordZ N z).2 (kwZ N z s1 s2).2 := by
    unfold kwZ
    simp only
    split
    · exact Mo.fail _ _ _
    · exact Mo.refl _
  refine hw.then hm fun t1 h1 => ?_
  unfold kwZ
  simp only
  rw [h1.ok]
  cases e1 : sEq (wordZ N z).1 s1
  · cases e2 : sEq (wordZ N z).1 s2
    · exact fail_err _ _ _
    · exact ⟨rfl, h1⟩
  · exact ⟨rfl, by simpa using h1⟩
def numR (ts : List Ro) (mx : Int) : Option (Int × List Ro) := match hd ts with
  | some (.num n) => if n > mx then none else (advR ts).map fun r => (n, r)
  | _ => none
theorem num_sm (N : Nat) {z : ZS} {ts : List Ro} (h : Zs z ts) (mx code : Int) : SmV (numZ N z mx code).1 (numZ N z mx code).2 (numR ts mx) := by
  unfold numR numZ
  rw [h.hd, if_pos h.ok]
  cases ht : z.tok with
  | num n =>
    rw [if_pos (show (Tk.num n).kind = 3 from rfl)]
    simp only
    by_cases hn : n > mx
    · rw [if_pos (show (Tk.num n).val > mx from hn), if_pos hn]; exact fail_err _ _ _
    · rw [if_neg (show ¬ (Tk.num n).val > mx from hn), if_neg hn]; exact (adv_sm N h).val _
  | eof => rw [if_neg (by decide)]; exact unexp_err z
  | nl => rw [if_neg (by decide)]; exact unexp_err z
  | word t => rw [if_neg (show ¬ (Tk.word t).kind = 3 by show ¬ (2 : Int) = 3; decide)]; exact unexp_err z
  | slash => rw [if_neg (by decide)]; exact unexp_err z
def devR (ts : List Ro) : Option (Int × List Ro) := (wordR ts).bind fun p => if devW p.1 = -1 ∨ devW p.1 = -2 then none else some (devW p.1, p.2)
theorem dev_sm (N : Nat) {z : ZS} {ts : List Ro} (h : Zs z ts) : SmV (devZ N z).1 (devZ N z).2 (devR ts) := by
  have hw := word_sm N h
  have hm : Mo (wordZ N z).2 (devZ N z).2 := by
    unfold devZ
    split
    · split
      · exact Mo.fail _ _ _
      · split
        · exact Mo.fail _ _ _
        · exact Mo.refl _
    · exact Mo.refl _
  refine hw.then hm fun t1 h1 => ?_
  unfold devZ
  rw [if_pos h1.ok]
  simp only
  by_cases e1 : devW (wordZ N z).1 = -1
  · rw [if_pos e1, if_pos (.inl e1)]; exact fail_err _ _ _
  rw [if_neg e1]
  by_cases e2 : devW (wordZ N z).1 = -2
  · rw [if_pos e2, if_pos (.inr e2)]; exact fail_err _ _ _
  rw [if_neg e2, if_neg (by rintro (q | q); exact e1 q; exact e2 q)]
  exact ⟨rfl, h1⟩
def isSl : Option Tk → Bool
  | some .slash => true
  | _ => false
def prefR (ts : List Ro) : Option ((Int × Int) × List Ro) := (numR ts 255).bind fun p => if isSl (hd p.2) then (advR p.2).bind fun t2 => (numR t2 8).bind fun q => if gpF p.1 q.1 then some ((p.1, q.1), q.2) else none else none
theorem pref_sm (N : Nat) {z : ZS} {ts : List Ro} (h : Zs z ts) : SmV (prefZ N z).1 (prefZ N z).2 (prefR ts) := by
  have hm1 : Mo (numZ N (advZ N (slZ (numZ N z 255 7).2)) 8 7).2 (prefZ N z).2 := by
    unfold prefZ
    simp only
    split
    · exact Mo.refl _
    · exact Mo.fail _ _ _
  refine (num_sm N h 255 7).then ((Mo.sl _).trans ((Mo.adv N _).trans ((Mo.num N _ 8 7).trans hm1))) fun t1 h1 => ?_
  simp only
  have hs : (isSl (hd t1) = true ∧ slZ (numZ N z 255 7).2 = (numZ N z 255 7).2) ∨ (isSl (hd t1) = false ∧ (slZ (numZ N z 255 7).2).err.isNone = false) := by
    unfold slZ
    rw [h1.hd, h1.ok]
    cases ht : (numZ N z 255 7).2.tok with
    | slash => exact .inl ⟨rfl, rfl⟩
    | eof => exact .inr ⟨rfl, unexp_err _⟩
    | nl => exact .inr ⟨rfl, unexp_err _⟩
    | word t => exact .inr ⟨rfl, by rw [if_pos (show (true && !decide ((Tk.word t).kind = 4)) = true from rfl)]; exact unexp_err _⟩
    | num n => exact .inr ⟨rfl, by rw [if_pos (show (true && !decide ((Tk.num n).kind = 4)) = true from rfl)]; exact unexp_err _⟩
  rcases hs with ⟨e1, e2⟩ | ⟨e1, e2⟩
  · rw [if_pos e1]
    refine (adv_sm N h1).thenV (z' := (prefZ N z).2) (by have := (Mo.num N (advZ N (slZ (numZ N z 255 7).2)) 8 7).trans hm1; rw [e2] at this; exact this) fun t2 h2 => ?_
    refine (num_sm N h2 8 7).then (by have := hm1; rw [e2] at this; exact this) fun t3 h3 => ?_
    unfold prefZ
    rw [e2]
    simp only
    by_cases hg : gpF (numZ N z 255 7).1 (numZ N (advZ N (numZ N z 255 7).2) 8 7).1 = true
    · rw [if_pos hg, if_pos hg]; exact ⟨rfl, h3⟩
    · rw [if_neg hg, if_neg hg]; exact fail_err _ _ _
  · rw [if_neg (by rw [e1]; simp)]
    exact ((Mo.adv N _).trans ((Mo.num N _ 8 7).trans hm1)).bad e2
def chAddR (ts : List Ro) : Option (Ch × List Ro) := (devR ts).bind fun d => (prefR d.2).bind fun p => (kwR p.2 sVia sLocal).bind fun k =>
  if k.1 then (devR k.2).bind fun v => some (⟨0, d.1, 0, 0, false, p.1.1, p.1.2, v.1, false, 0, 0, 0⟩, v.2) else some (⟨0, d.1, 0, 0, false, p.1.1, p.1.2, 16, false, 0, 0, 0⟩, k.2)
theorem chAdd_sm (N : Nat) {z : ZS} {ts : List Ro} (h : Zs z ts) : SmV (chAdd N z).1 (chAdd N z).2 (chAddR ts) := by
  have hm : Mo (kwZ N (prefZ N (devZ N z).2).2 sVia sLocal).2 (chAdd N z).2 := by
    unfold chAdd
    split
    · exact Mo.dev N _
    · exact Mo.refl _
  refine (dev_sm N h).then ((Mo.pref N _).trans ((Mo.kw N _ _ _).trans hm)) fun t1 h1 => ?_
  refine (pref_sm N h1).then ((Mo.kw N _ _ _).trans hm) fun t2 h2 => ?_
  refine (kw_sm N h2 sVia sLocal).then hm fun t3 h3 => ?_
  unfold chAdd
  simp only
  by_cases hk : (kwZ N (prefZ N (devZ N z).2).2 sVia sLocal).1 = true
  · rw [if_pos hk, if_pos hk]
    exact (dev_sm N h3).then (Mo.refl _) fun t4 h4 => ⟨rfl, h4⟩
  · rw [if_neg hk, if_neg hk]; exact ⟨rfl, h3⟩
def chDelR (ts : List Ro) : Option (Ch × List Ro) := (devR ts).bind fun d => (prefR d.2).bind fun p => some (⟨1, d.1, 0, 0, false, p.1.1, p.1.2, 0, false, 0, 0, 0⟩, p.2)
theorem chDel_sm (N : Nat) {z : ZS} {ts : List Ro} (h : Zs z ts) : SmV (chDel N z).1 (chDel N z).2 (chDelR ts) := by
  unfold chDel
  refine (dev_sm N h).then (Mo.pref N _) fun t1 h1 => ?_
  exact (pref_sm N h1).then (Mo.refl _) fun t2 h2 => ⟨rfl, h2⟩
def isNu : Option Tk → Bool
  | some (.num _) => true
  | _ => false
theorem isNu_kind (t : Tk) : isNu (some t) = decide (t.kind = 3) := by cases t <;> rfl
def chIns2R (d i : Int) (pm : Bool) (ts : List Ro) : Option (Ch × List Ro) := (prefR ts).bind fun p => (kwR p.2 sClass sClass).bind fun k =>
  if isNu (hd k.2) then (numR k.2 15).bind fun n => some (⟨2, d, 0, i, false, 0, 0, 0, pm, p.1.1, p.1.2, n.1⟩, n.2)
  else (kwR k.2 sAny sAny).bind fun q => some (⟨2, d, 0, i, false, 0, 0, 0, pm, p.1.1, p.1.2, 16⟩, q.2)
theorem chIns2_sm (N : Nat) (d i : Int) (pm : Bool) {z : ZS} {ts : List Ro} (h : Zs z ts) : SmV (chIns2 N d i pm z).1 (chIns2 N d i pm z).2 (chIns2R d i pm ts) := by
  have hm : Mo (kwZ N (prefZ N z).2 sClass sClass).2 (chIns2 N d i pm z).2 := by
    unfold chIns2
    split
    · exact Mo.num N _ _ _
    · exact Mo.kw N _ _ _
  refine (pref_sm N h).then ((Mo.kw N _ _ _).trans hm) fun t1 h1 => ?_
  refine (kw_sm N h1 sClass sClass).then hm fun t2 h2 => ?_
  unfold chIns2
  simp only
  rw [h2.hd, isNu_kind]
  by_cases hk : (kwZ N (prefZ N z).2 sClass sClass).2.tok.kind = 3
  · rw [if_pos hk, if_pos (decide_eq_true hk)]
    exact (num_sm N h2 15 8).then (Mo.refl _) fun t3 h3 => ⟨rfl, h3⟩
  · rw [if_neg hk, if_neg (by rw [decide_eq_false hk]; simp)]
    exact (kw_sm N h2 sAny sAny).then (Mo.refl _) fun t3 h3 => ⟨rfl, h3⟩
def chAclR (ins : Bool) (ts : List Ro) : Option (Ch × List Ro) := (devR ts).bind fun d => (numR d.2 63).bind fun i =>
  if ins then (kwR i.2 sPermit sDeny).bind fun k => chIns2R d.1 i.1 k.1 k.2 else some (⟨3, d.1, 0, i.1, false, 0, 0, 0, false, 0, 0, 0⟩, i.2)
theorem chAcl_sm (N : Nat) (ins : Bool) {z : ZS} {ts : List Ro} (h : Zs z ts) : SmV (chAcl N ins z).1 (chAcl N ins z).2 (chAclR ins ts) := by
  have hi : ∀ d i pm z5, Mo z5 (chIns2 N d i pm z5).2 := fun d i pm z5 => by
    unfold chIns2
    split
    · exact (Mo.pref N _).trans ((Mo.kw N _ _ _).trans (Mo.num N _ _ _))
    · exact (Mo.pref N _).trans ((Mo.kw N _ _ _).trans (Mo.kw N _ _ _))
  have hm : Mo (numZ N (devZ N z).2 63 10).2 (chAcl N ins z).2 := by
    unfold chAcl
    split
    · exact (Mo.kw N _ _ _).trans (hi _ _ _ _)
    · exact Mo.refl _
  refine (dev_sm N h).then ((Mo.num N _ _ _).trans hm) fun t1 h1 => ?_
  refine (num_sm N h1 63 10).then hm fun t2 h2 => ?_
  unfold chAcl
  simp only
  cases ins with
  | true =>
    rw [if_pos rfl, if_pos rfl]
    exact (kw_sm N h2 sPermit sDeny).then (hi _ _ _ _) fun t3 h3 => chIns2_sm N _ _ _ h3
  | false => exact ⟨rfl, h2⟩
def chLinkR (up : Bool) (ts : List Ro) : Option (Ch × List Ro) := (devR ts).bind fun d => (devR d.2).bind fun e =>
  if e.1 < d.1 then some (⟨4, e.1, d.1, 0, up, 0, 0, 0, false, 0, 0, 0⟩, e.2) else some (⟨4, d.1, e.1, 0, up, 0, 0, 0, false, 0, 0, 0⟩, e.2)
theorem chLink_sm (N : Nat) (up : Bool) {z : ZS} {ts : List Ro} (h : Zs z ts) : SmV (chLink N up z).1 (chLink N up z).2 (chLinkR up ts) := by
  have hm : Mo (devZ N (devZ N z).2).2 (chLink N up z).2 := by
    unfold chLink
    split <;> exact Mo.refl _
  refine (dev_sm N h).then ((Mo.dev N _).trans hm) fun t1 h1 => ?_
  refine (dev_sm N h1).then hm fun t2 h2 => ?_
  unfold chLink
  simp only
  by_cases hk : (devZ N (devZ N z).2).1 < (devZ N z).1
  · rw [if_pos hk, if_pos hk]; exact ⟨rfl, h2⟩
  · rw [if_neg hk, if_neg hk]; exact ⟨rfl, h2⟩
def chIfaceR (up : Bool) (ts : List Ro) : Option (Ch × List Ro) := (devR ts).bind fun d => (devR d.2).bind fun e => some (⟨5, d.1, e.1, 0, up, 0, 0, 0, false, 0, 0, 0⟩, e.2)
theorem chIface_sm (N : Nat) (up : Bool) {z : ZS} {ts : List Ro} (h : Zs z ts) : SmV (chIface N up z).1 (chIface N up z).2 (chIfaceR up ts) := by
  unfold chIface
  refine (dev_sm N h).then (Mo.dev N _) fun t1 h1 => ?_
  exact (dev_sm N h1).then (Mo.refl _) fun t2 h2 => ⟨rfl, h2⟩
def chSwR (w : ByteArray) (ts : List Ro) : Option (Ch × List Ro) :=
  if sEq w sRoute then (kwR ts sAdd sDel).bind fun k => if k.1 then chAddR k.2 else chDelR k.2
  else if sEq w sAcl then (kwR ts sInsert sRemove).bind fun k => chAclR k.1 k.2
  else if sEq w sLink then (kwR ts sUp sDown).bind fun k => chLinkR k.1 k.2
  else if sEq w sIface then (kwR ts sUp sDown).bind fun k => chIfaceR k.1 k.2
  else none
theorem chAdd_mo (N : Nat) (z : ZS) : Mo z (chAdd N z).2 := by
  unfold chAdd
  split
  · exact (Mo.dev N _).trans ((Mo.pref N _).trans ((Mo.kw N _ _ _).trans (Mo.dev N _)))
  · exact (Mo.dev N _).trans ((Mo.pref N _).trans (Mo.kw N _ _ _))
theorem chDel_mo (N : Nat) (z : ZS) : Mo z (chDel N z).2 := (Mo.dev N _).trans (Mo.pref N _)
theorem chAcl_mo (N : Nat) (ins : Bool) (z : ZS) : Mo z (chAcl N ins z).2 := by
  unfold chAcl
  split
  · unfold chIns2
    split
    · exact (Mo.dev N _).trans ((Mo.num N _ _ _).trans ((Mo.kw N _ _ _).trans ((Mo.pref N _).trans ((Mo.kw N _ _ _).trans (Mo.num N _ _ _)))))
    · exact (Mo.dev N _).trans ((Mo.num N _ _ _).trans ((Mo.kw N _ _ _).trans ((Mo.pref N _).trans ((Mo.kw N _ _ _).trans (Mo.kw N _ _ _)))))
  · exact (Mo.dev N _).trans (Mo.num N _ _ _)
theorem chLink_mo (N : Nat) (up : Bool) (z : ZS) : Mo z (chLink N up z).2 := by
  unfold chLink
  split <;> exact (Mo.dev N _).trans (Mo.dev N _)
theorem chSw_sm (N : Nat) (z0 : ZS) (w : ByteArray) {z : ZS} {ts : List Ro} (h : Zs z ts) : SmV (chSw N z0 w z).1 (chSw N z0 w z).2 (chSwR w ts) := by
  unfold chSw chSwR
  by_cases c1 : sEq w sRoute = true
  · rw [if_pos c1, if_pos c1]
    by_cases hk : (kwZ N z sAdd sDel).1 = true
    · rw [if_pos hk]
      exact (kw_sm N h sAdd sDel).then (chAdd_mo N _) fun t1 h1 => by simp only; rw [if_pos hk]; exact chAdd_sm N h1
    · rw [if_neg hk]
      exact (kw_sm N h sAdd sDel).then (chDel_mo N _) fun t1 h1 => by simp only; rw [if_neg hk]; exact chDel_sm N h1
  rw [if_neg c1, if_neg c1]
  by_cases c2 : sEq w sAcl = true
  · rw [if_pos c2, if_pos c2]
    exact (kw_sm N h sInsert sRemove).then (chAcl_mo N _ _) fun t1 h1 => chAcl_sm N _ h1
  rw [if_neg c2, if_neg c2]
  by_cases c3 : sEq w sLink = true
  · rw [if_pos c3, if_pos c3]
    exact (kw_sm N h sUp sDown).then (chLink_mo N _ _) fun t1 h1 => chLink_sm N _ h1
  rw [if_neg c3, if_neg c3]
  by_cases c4 : sEq w sIface = true
  · rw [if_pos c4, if_pos c4]
    exact (kw_sm N h sUp sDown).then ((Mo.dev N _).trans (Mo.dev N _)) fun t1 h1 => chIface_sm N _ h1
  rw [if_neg c4, if_neg c4]
  exact fail_err _ _ _
def chR (ts : List Ro) : Option (Ch × List Ro) := (wordR ts).bind fun w => (chSwR w.1 w.2).bind fun c => if ckF c.1 = 0 then some c else none
theorem chg_sm (N : Nat) {z : ZS} {ts : List Ro} (h : Zs z ts) : SmV (chgZ N z).1 (chgZ N z).2 (chR ts) := by
  refine (word_sm N h).then (chg_mo N z) fun t1 h1 => ?_
  unfold chgZ chBody
  refine (chSw_sm N z _ h1).then (Mo.endC _ _) fun t2 h2 => ?_
  unfold endC
  simp only
  rw [if_pos h2.ok]
  by_cases hk : ckF (chSw N z (wordZ N z).1 (wordZ N z).2).1 = 0
  · rw [if_pos hk, if_pos hk]; exact ⟨rfl, h2⟩
  · rw [if_neg hk, if_neg hk]; exact fail_err _ _ _
def blR : List Ro → Option (List Ro)
  | .nl :: r => if (hd r).isSome then blR r else none
  | ts => some ts
theorem tok_nl {ts : List Ro} (h : hd ts = some .nl) : ∃ r, ts = .nl :: r := by
  match ts with
  | [] => cases h
  | .nl :: r => exact ⟨r, rfl⟩
  | .bad :: r => cases h
  | .w t :: r =>
    exfalso
    unfold hd tkW at h
    match t with
    | [] => cases h
    | c :: r =>
      simp only at h
      split at h
      · cases h
      · split at h
        · cases h
        · cases hd : decF 0 (c :: r) <;> rw [hd] at h <;> cases h
theorem kind_nl {t : Tk} (h : t.kind = 1) : t = .nl := by
  cases t with
  | nl => rfl
  | eof => exact absurd h (by decide)
  | word t => exact absurd h (show ¬ (2 : Int) = 1 by decide)
  | num n => exact absurd h (show ¬ (3 : Int) = 1 by decide)
  | slash => exact absurd h (by decide)
theorem blR_no {ts : List Ro} (h : hd ts ≠ some .nl) : blR ts = some ts := by
  match ts with
  | [] => rfl
  | .nl :: r => exact absurd rfl h
  | .bad :: r => rfl
  | .w t :: r => rfl
theorem blF_sm (N : Nat) : ∀ (n : Nat) (z : ZS) (ts : List Ro), Zs z ts → (z.tok.kind = 1 → z.rest.length + 1 ≤ n) → Sm (blF N n z) (blR ts)
  | 0, z, ts, h, hn => by
    have hk : ¬ z.tok.kind = 1 := fun q => by have := hn q; omega
    rw [blR_no (by rw [h.hd]; intro q; injection q with q; rw [q] at hk; exact hk rfl)]
    exact h
  | n + 1, z, ts, h, hn => by
    unfold blF
    by_cases hk : z.tok.kind = 1
    · rw [if_pos (by rw [h.ok, decide_eq_true hk]; rfl)]
      have ht : hd ts = some .nl := by rw [h.hd, kind_nl hk]
      obtain ⟨r, rfl⟩ := tok_nl ht
      have ha := adv_sm N h
      unfold advR at ha
      rw [List.tail_cons] at ha
      unfold blR
      by_cases hs : (hd r).isSome = true
      · rw [if_pos hs] at ha ⊢
        refine blF_sm N n _ r ha fun hk2 => ?_
        have hl := hn hk
        have hx := lex_ok z.rest
        have hz : (advZ N z).rest.length < z.rest.length := by
          have ha' : Zs (advZ N z) r := ha
          have hh := ha'.hd
          obtain ⟨q1, q2⟩ := lex_rtk z.rest
          rw [h.rest, List.tail_cons] at q1
          have q3 : (lexL z.rest).tok = some (advZ N z).tok := by rw [q1, hh]
          have q4 := hx.lt _ q3 (by rw [hk2]; decide)
          have q5 : (advZ N z).rest = (lexL z.rest).rest := by
            unfold advZ
            rw [if_pos h.ok]
            cases (lexL z.rest).tok <;> rfl
          rw [q5]; exact q4
        omega
      · rw [if_neg hs] at ha ⊢
        have hb : (advZ N z).err.isNone = false := ha
        exact (Mo.blF N n _).bad hb
    · rw [if_neg (by rw [decide_eq_false hk]; simp), blR_no (by rw [h.hd]; intro q; injection q with q; rw [q] at hk; exact hk rfl)]
      exact h
theorem bl_sm (N : Nat) {z : ZS} {ts : List Ro} (h : Zs z ts) : Sm (blZ N z) (blR ts) := blF_sm N _ z ts h fun _ => Nat.le_refl _
def eolR (ts : List Ro) : Option (List Ro) := match ts with
  | .nl :: r => blR (.nl :: r)
  | _ => none
theorem eol_sm (N : Nat) {z : ZS} {ts : List Ro} (h : Zs z ts) : Sm (eolZ N z) (eolR ts) := by
  unfold eolZ
  by_cases hk : z.tok.kind = 1
  · have ht : hd ts = some .nl := by rw [h.hd, kind_nl hk]
    obtain ⟨r, rfl⟩ := tok_nl ht
    have e : eoZ z = z := by unfold eoZ; rw [if_neg (by rw [decide_eq_true hk]; simp)]
    rw [e]
    exact bl_sm N h
  · have e : (eoZ z).err.isNone = false := by
      unfold eoZ
      rw [if_pos (by rw [h.ok, decide_eq_false hk]; rfl)]; exact unexp_err z
    have hn : eolR ts = none := by
      match ts, h with
      | [], _ => rfl
      | .nl :: r, h => exact absurd (by have := h.hd; injection this with this; rw [← this]; rfl) hk
      | .bad :: r, _ => rfl
      | .w t :: r, _ => rfl
    rw [hn]
    exact (Mo.blF N _ _).bad e

end Go.Proofs.Qxb6500907a

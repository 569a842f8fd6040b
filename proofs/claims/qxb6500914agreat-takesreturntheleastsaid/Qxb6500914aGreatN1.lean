import Derived.Test.Qxb6500914aGreatN0
namespace Go.Proofs.Qxb6500914aGreat
open Go.Eng
set_option linter.unusedVariables false
set_option linter.unusedSimpArgs false

/-! ## the operations on lists -/
theorem itm_len (p : PG) (nn : Nat) : (itm p nn).length = nn := by simp [itm]
theorem itm_get (p : PG) {nn i : Nat} (h : i < nn) : (itm p nn)[i]? = some (p.ip i, p.iv i) := by simp [itm, h]
theorem itm_insert (p : PG) (a nn : Nat) (x y : Int) (h : a ≤ nn) : itm (insertF p a nn x y) (nn + 1) = (itm p nn).take a ++ (x, y) :: (itm p nn).drop a := by
  apply List.ext_getElem?
  intro i
  by_cases hi : i < nn + 1
  · rw [itm_get _ hi]
    have e1 : (insertF p a nn x y).ip i = if i = a then x else if a < i ∧ i ≤ nn then p.ip (i - 1) else p.ip i := rfl
    have e2 : (insertF p a nn x y).iv i = if i = a then y else if a < i ∧ i ≤ nn then p.iv (i - 1) else p.iv i := rfl
    rw [e1, e2]
    have hl : ((itm p nn).take a).length = a := by rw [List.length_take, itm_len]; omega
    rcases Nat.lt_trichotomy i a with c | c | c
    · rw [if_neg (by omega), if_neg (by omega), if_neg (by omega), if_neg (by omega), List.getElem?_append_left (by omega), List.getElem?_take_of_lt c, itm_get _ (by omega)]
    · subst c
      rw [if_pos rfl, if_pos rfl, List.getElem?_append_right (by omega), hl]; simp
    · rw [if_neg (by omega), if_pos (by omega), if_neg (by omega), if_pos (by omega), List.getElem?_append_right (by omega), hl]
      obtain ⟨d, rfl⟩ : ∃ d, i = a + 1 + d := ⟨i - a - 1, by omega⟩
      rw [show a + 1 + d - a = d + 1 by omega, List.getElem?_cons_succ, List.getElem?_drop, show a + 1 + d - 1 = a + d by omega, itm_get _ (by omega)]
  · rw [List.getElem?_eq_none (by rw [itm_len]; omega), List.getElem?_eq_none (by rw [List.length_append, List.length_cons, List.length_take, List.length_drop, itm_len]; omega)]
theorem itm_remove (p : PG) (a nn : Nat) (h : a < nn) : itm (removeF p a nn) (nn - 1) = (itm p nn).take a ++ (itm p nn).drop (a + 1) := by
  apply List.ext_getElem?
  intro i
  have hl : ((itm p nn).take a).length = a := by rw [List.length_take, itm_len]; omega
  by_cases hi : i < nn - 1
  · rw [itm_get _ hi]
    have e1 : (removeF p a nn).ip i = if a ≤ i ∧ i + 1 < nn then p.ip (i + 1) else p.ip i := rfl
    have e2 : (removeF p a nn).iv i = if a ≤ i ∧ i + 1 < nn then p.iv (i + 1) else p.iv i := rfl
    rw [e1, e2]
    by_cases c : i < a
    · rw [if_neg (by omega), if_neg (by omega), List.getElem?_append_left (by omega), List.getElem?_take_of_lt c, itm_get _ (by omega)]
    · rw [if_pos (by omega), if_pos (by omega), List.getElem?_append_right (by omega), hl, List.getElem?_drop, show a + 1 + (i - a) = i + 1 by omega, itm_get _ (by omega)]
  · rw [List.getElem?_eq_none (by rw [itm_len]; omega), List.getElem?_eq_none (by rw [List.length_append, List.length_take, List.length_drop, itm_len]; omega)]
theorem itm_rank (p : PG) (nn : Nat) (x : Int) : rankF p nn x = ((itm p nn).takeWhile (fun y => decide (y.1 ≤ x))).length := by
  unfold rankF itm
  rw [List.takeWhile_map, List.length_map]; rfl
theorem tw_take {p : Int × Int → Bool} : ∀ l : List (Int × Int), l.take (l.takeWhile p).length = l.takeWhile p ∧ l.drop (l.takeWhile p).length = l.dropWhile p
  | [] => ⟨rfl, rfl⟩
  | x :: l => by
    by_cases c : p x = true
    · rw [List.takeWhile_cons_of_pos c, List.dropWhile_cons_of_pos c, List.length_cons, List.take_succ_cons, List.drop_succ_cons, (tw_take l).1]
      exact ⟨rfl, (tw_take l).2⟩
    · rw [List.takeWhile_cons_of_neg c, List.dropWhile_cons_of_neg c]; exact ⟨rfl, rfl⟩
theorem ins_rank (p : PG) (nn : Nat) (x y : Int) : (itm p nn).take (rankF p nn x) ++ (x, y) :: (itm p nn).drop (rankF p nn x) = insL (x, y) (itm p nn) := by
  unfold insL
  rw [itm_rank, (tw_take _).1, (tw_take _).2]
theorem getD_l {A : List (Int × Int)} {x : Int × Int} {i : Nat} (h : i < A.length) (z : Int × Int) : (A ++ [x]).getD i z = A.getD i z := by
  rw [List.getD_eq_getElem?_getD, List.getD_eq_getElem?_getD, List.getElem?_append_left h]
theorem getD_r {A : List (Int × Int)} {x z : Int × Int} : (A ++ [x]).getD A.length z = x := by
  rw [List.getD_eq_getElem?_getD, List.getElem?_append_right (Nat.le_refl _), Nat.sub_self]; rfl
theorem apply_list {q : PG} {nn : Nat} (hn : q.n = nn) (h8 : nn ≤ 8) (ck cv cp : Int) : (itm (applyF q nn ck cv cp).p (applyF q nn ck cv cp).p.n.toNat, (⟨(applyF q nn ck cv cp).ra, (applyF q nn ck cv cp).rv, (applyF q nn ck cv cp).rp⟩ : Rs), (applyF q nn ck cv cp).ch) = apL (itm q nn) ck cv cp := by
  have hnn : q.n.toNat = nn := by omega
  unfold apL
  by_cases h1 : ck = 0 ∨ ck = 1 ∨ ck = 4
  · rw [if_pos h1, itm_len]
    by_cases h2 : nn = 8
    · rw [if_pos h2, applyF_full h1 h2]; simp only; rw [hnn]
    · rw [if_neg h2, applyF_push h1 h2]
      simp only
      have hh := (insert_hdr q (putAt q nn ck cp) nn cp cv).2.2.2
      have hr := rankF_le q nn cp
      rw [hh, Int.toNat_natCast, itm_insert q _ nn cp cv (by unfold putAt; split; exact Nat.le_refl _; split; exact hr; exact Nat.zero_le _)]
      congr 1
      unfold putAt
      by_cases c1 : ck = 1
      · rw [if_pos c1, if_pos c1, List.take_of_length_le (by rw [itm_len]; exact Nat.le_refl _), List.drop_of_length_le (by rw [itm_len]; exact Nat.le_refl _)]
      · rw [if_neg c1, if_neg c1]
        by_cases c4 : ck = 4
        · rw [if_pos c4, if_pos c4]; exact ins_rank q nn cp cv
        · rw [if_neg c4, if_neg c4]; rfl
  · rw [if_neg h1]
    by_cases h2 : nn = 0
    · rw [applyF_empty h1 h2]
      subst h2
      have : itm q 0 = [] := rfl
      simp only [this]
      rw [show (if ck = 3 then ([] : List (Int × Int)).getLast? else ([] : List (Int × Int)).head?) = none by split <;> rfl]
      simp only
      rw [hnn]; rfl
    · have hx : (if ck = 3 then (itm q nn).getLast? else (itm q nn).head?) = some (q.ip (atF ck nn), q.iv (atF ck nn)) := by
        unfold atF
        by_cases c3 : ck = 3
        · rw [if_pos c3, if_pos c3, List.getLast?_eq_getElem?, itm_len, itm_get _ (by omega)]
        · rw [if_neg c3, if_neg c3, List.head?_eq_getElem?, itm_get _ (by omega)]
      rw [hx]
      simp only
      by_cases h3 : ck = 6
      · rw [if_pos h3, applyF_peek h2 h3]; simp only; rw [hnn]
      · rw [if_neg h3]
        by_cases h4 : ck = 7 ∧ cp < q.ip (atF ck nn)
        · rw [if_pos h4, applyF_due h2 h4]; simp only; rw [hnn]
        · rw [if_neg h4, applyF_pop h1 h2 h3 h4]
          simp only
          rw [(remove_hdr q (atF ck nn) nn (by omega)).2.2.2, Int.toNat_natCast, itm_remove q _ nn (by unfold atF; split <;> omega)]
          congr 1
          unfold atF
          by_cases c3 : ck = 3
          · rw [if_pos c3, if_pos c3, List.drop_of_length_le (by rw [itm_len]; omega), List.append_nil, List.dropLast_eq_take, itm_len]
          · rw [if_neg c3, if_neg c3]
            rw [List.take_zero, List.nil_append, List.drop_one]
/-! ## the model, plainly -/
def sortS (A : List (Int × Int)) : List (Int × Int) := A.foldl (fun C x => insL x C) []
theorem sortS_snoc (A : List (Int × Int)) (x : Int × Int) : sortS (A ++ [x]) = insL x (sortS A) := by unfold sortS; rw [List.foldl_append]; rfl
theorem insL_len (x : Int × Int) (C : List (Int × Int)) : (insL x C).length = C.length + 1 := by
  unfold insL
  have := congrArg List.length (List.takeWhile_append_dropWhile (p := fun y : Int × Int => decide (y.1 ≤ x.1)) (l := C))
  rw [List.length_append] at this
  rw [List.length_append, List.length_cons]
  omega
/-- the first of the least -/
def lsI (A : List (Int × Int)) : Nat → Nat
  | 0 => 0
  | i + 1 => if (A.getD i (0, 0)).1 < (A.getD (lsI A i) (0, 0)).1 then i else lsI A i
def lsN (A : List (Int × Int)) : Nat := lsI A A.length
theorem lsI_lt (A : List (Int × Int)) : ∀ i, lsI A i < max 1 i
  | 0 => by simp [lsI]
  | i + 1 => by
    have := lsI_lt A i
    rw [lsI]
    split <;> omega
theorem lsN_lt {A : List (Int × Int)} (h : A ≠ []) : lsN A < A.length := by
  have := lsI_lt A A.length
  have := List.length_pos_iff.2 h
  unfold lsN; omega
theorem lsI_snoc (A : List (Int × Int)) (x : Int × Int) : ∀ i, i ≤ A.length → A ≠ [] → lsI (A ++ [x]) i = lsI A i
  | 0, _, _ => rfl
  | i + 1, h, hn => by
    have := lsI_lt A i
    have h0 := List.length_pos_iff.2 hn
    rw [lsI, lsI, lsI_snoc A x i (by omega) hn]
    rw [getD_l (by omega), getD_l (by omega)]
theorem lsN_snoc (A : List (Int × Int)) (x : Int × Int) (hn : A ≠ []) : lsN (A ++ [x]) = if x.1 < (A.getD (lsN A) (0, 0)).1 then A.length else lsN A := by
  unfold lsN
  rw [List.length_append, List.length_singleton, lsI, lsI_snoc A x _ (Nat.le_refl _) hn]
  have h1 := lsN_lt hn
  unfold lsN at h1
  rw [getD_r, getD_l h1]
theorem insL_head {x h : Int × Int} {T : List (Int × Int)} (hx : h.1 ≤ x.1) : insL x (h :: T) = h :: insL x T := by
  unfold insL
  rw [List.takeWhile_cons_of_pos (by simpa using hx), List.dropWhile_cons_of_pos (by simpa using hx)]; rfl
theorem insL_front {x : Int × Int} {C : List (Int × Int)} (hx : ∀ h T, C = h :: T → ¬ h.1 ≤ x.1) : insL x C = x :: C := by
  cases C with
  | nil => rfl
  | cons h T =>
    unfold insL
    rw [List.takeWhile_cons_of_neg (by simpa using hx h T rfl), List.dropWhile_cons_of_neg (by simpa using hx h T rfl)]; rfl
/-- snoc induction: the head of the sorted list is the first of the least; the rest is sorted without it -/
theorem sort_least : ∀ (n : Nat) (A : List (Int × Int)), A.length = n → A ≠ [] → sortS A = A.getD (lsN A) (0, 0) :: sortS (A.eraseIdx (lsN A))
  | 0, A, h, hn => absurd (List.eq_nil_of_length_eq_zero h) hn
  | n + 1, A, h, hn => by
    obtain ⟨B, x, rfl⟩ : ∃ B x, A = B ++ [x] := ⟨A.dropLast, A.getLast hn, (List.dropLast_concat_getLast hn).symm⟩
    have hB : B.length = n := by rw [List.length_append, List.length_singleton] at h; omega
    rw [sortS_snoc]
    by_cases hb : B = []
    · subst hb; simp [sortS, insL, lsN, lsI]
    · have ih := sort_least n B hB hb
      have hlt := lsN_lt hb
      rw [lsN_snoc B x hb]
      by_cases c : x.1 < (B.getD (lsN B) (0, 0)).1
      · rw [if_pos c, insL_front (fun h9 T e => by rw [ih] at e; cases e; omega), getD_r, List.eraseIdx_append_of_length_le (Nat.le_refl _), Nat.sub_self]
        show x :: sortS B = x :: sortS (B ++ [])
        rw [List.append_nil]
      · rw [if_neg c]
        conv => lhs; rw [ih]
        rw [insL_head (by omega), getD_l hlt, List.eraseIdx_append_of_lt_length hlt, sortS_snoc]
theorem sortS_len (A : List (Int × Int)) : (sortS A).length = A.length := by
  have : ∀ (l C : List (Int × Int)), (l.foldl (fun C x => insL x C) C).length = C.length + l.length := by
    intro l
    induction l with
    | nil => intro C; rfl
    | cons x l ih => intro C; rw [List.foldl_cons, ih, insL_len, List.length_cons]; omega
  unfold sortS; rw [this]; simp
/-- one step of the model of one container -/
def stA (k : Bool) (A : List (Int × Int)) (ck cv cp : Int) : List (Int × Int) × Rs :=
  if k = false then ((apL A ck cv cp).1, (apL A ck cv cp).2.1)
  else if ck = 4 then (if A.length = 8 then (A, ⟨3, 0, 0⟩) else (A ++ [(cp, cv)], ⟨0, 0, 0⟩))
  else if A = [] then (A, ⟨2, 0, 0⟩)
  else if ck = 7 ∧ cp < (A.getD (lsN A) (0, 0)).1 then (A, ⟨4, 0, (A.getD (lsN A) (0, 0)).1⟩)
  else if ck = 6 then (A, ⟨1, (A.getD (lsN A) (0, 0)).2, (A.getD (lsN A) (0, 0)).1⟩)
  else (A.eraseIdx (lsN A), ⟨1, (A.getD (lsN A) (0, 0)).2, (A.getD (lsN A) (0, 0)).1⟩)
def cOf (k : Bool) (A : List (Int × Int)) : List (Int × Int) := if k then sortS A else A
theorem st_rel {k : Bool} {A : List (Int × Int)} {ck cv cp : Int} (hk : boxOf ck = k) (h0 : 0 ≤ ck ∧ ck ≤ 7) : (apL (cOf k A) ck cv cp).1 = cOf k (stA k A ck cv cp).1 ∧ (apL (cOf k A) ck cv cp).2.1 = (stA k A ck cv cp).2 := by
  cases k with
  | false => unfold stA cOf; exact ⟨rfl, rfl⟩
  | true =>
    have h4 : 4 ≤ ck := by unfold boxOf at hk; exact of_decide_eq_true hk
    have e1 : ∀ B, cOf true B = sortS B := fun _ => rfl
    have e2 : stA true A ck cv cp = if ck = 4 then (if A.length = 8 then (A, ⟨3, 0, 0⟩) else (A ++ [(cp, cv)], ⟨0, 0, 0⟩)) else if A = [] then (A, ⟨2, 0, 0⟩) else if ck = 7 ∧ cp < (A.getD (lsN A) (0, 0)).1 then (A, ⟨4, 0, (A.getD (lsN A) (0, 0)).1⟩) else if ck = 6 then (A, ⟨1, (A.getD (lsN A) (0, 0)).2, (A.getD (lsN A) (0, 0)).1⟩) else (A.eraseIdx (lsN A), ⟨1, (A.getD (lsN A) (0, 0)).2, (A.getD (lsN A) (0, 0)).1⟩) := by
      unfold stA; rw [if_neg (show ¬ (true = false) by decide)]
    rw [e2, e1, e1]
    clear e1 e2
    by_cases c4 : ck = 4
    · rw [if_pos c4]
      unfold apL
      rw [if_pos (.inr (.inr c4)), sortS_len]
      by_cases c8 : A.length = 8
      · rw [if_pos c8, if_pos c8]; exact ⟨rfl, rfl⟩
      · rw [if_neg c8, if_neg c8, if_neg (by omega), if_pos c4]
        exact ⟨(sortS_snoc A (cp, cv)).symm, rfl⟩
    · rw [if_neg c4]
      unfold apL
      rw [if_neg (by omega)]
      rw [if_neg (show ¬ ck = 3 by omega)]
      by_cases cn : A = []
      · subst cn; exact ⟨rfl, rfl⟩
      · rw [if_neg cn]
        have hs := sort_least A.length A rfl cn
        rw [hs]
        simp only [List.head?_cons, List.tail_cons]
        rw [if_neg (show ¬ ck = 3 by omega)]
        by_cases c6 : ck = 6
        · rw [if_pos c6, if_neg (by omega), if_pos c6]; exact ⟨hs.symm, rfl⟩
        · rw [if_neg c6]
          by_cases c7 : ck = 7 ∧ cp < (A.getD (lsN A) (0, 0)).1
          · rw [if_pos c7, if_pos c7]; exact ⟨hs.symm, rfl⟩
          · rw [if_neg c7, if_neg c7, if_neg c6]; exact ⟨rfl, rfl⟩

end Go.Proofs.Qxb6500914aGreat

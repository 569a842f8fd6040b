import Derived.Test.Qxb6500907aR11
namespace Go.Proofs.Qxb6500907a
open Go.Eng
set_option linter.unusedVariables false
set_option linter.unusedSimpArgs false

/-! ## the text as tokens; lines and tokens -/
inductive Ro where
  | nl
  | w (t : List Int)
  | bad
theorem sk_le (l : List Int) : (skL l).length ≤ l.length := by
  obtain ⟨k, hk, e⟩ := skL_suf l.length l (Nat.le_refl _)
  rw [e, List.length_drop]; omega
def rtF : Nat → List Int → List Ro
  | 0, _ => []
  | n + 1, l => match skL l with
    | [] => []
    | c :: r => if c = 10 then .nl :: rtF n r else if c = 47 then .w [c] :: rtF n r
      else if letB c then .w (c :: r.takeWhile alnB) :: rtF n (r.dropWhile alnB)
      else if digB c then .w (c :: r.takeWhile digB) :: rtF n (r.dropWhile digB) else [.bad]
def rtk (l : List Int) : List Ro := rtF (l.length + 1) l
theorem rtF_eq : ∀ (n m : Nat) (l : List Int), (skL l).length < n → (skL l).length < m → rtF n l = rtF m l
  | 0, m, l, h, _ => by omega
  | n + 1, 0, l, _, h => by omega
  | n + 1, m + 1, l, h1, h2 => by
    unfold rtF
    cases hs : skL l with
    | nil => rfl
    | cons c r =>
      rw [hs, List.length_cons] at h1 h2
      have key : ∀ x : List Int, x.length ≤ r.length → rtF n x = rtF m x := fun x hx => by
        have := sk_le x
        exact rtF_eq n m x (by omega) (by omega)
      simp only
      rw [key r (Nat.le_refl _), key _ (dropW_le alnB r), key _ (dropW_le digB r)]
theorem rtk_sk {a b : List Int} (h : skL a = skL b) : rtk a = rtk b := by
  have h1 := sk_le a
  have h2 := sk_le b
  unfold rtk
  rw [rtF_eq (a.length + 1) (a.length + b.length + 2) a (by omega) (by omega), rtF_eq (b.length + 1) (a.length + b.length + 2) b (by omega) (by omega)]
  unfold rtF
  rw [h]
theorem rtk_eq (l : List Int) : rtk l = match skL l with
    | [] => []
    | c :: r => if c = 10 then .nl :: rtk r else if c = 47 then .w [c] :: rtk r
      else if letB c then .w (c :: r.takeWhile alnB) :: rtk (r.dropWhile alnB)
      else if digB c then .w (c :: r.takeWhile digB) :: rtk (r.dropWhile digB) else [.bad] := by
  have h0 := sk_le l
  conv => lhs; unfold rtk rtF
  cases hs : skL l with
  | nil => rfl
  | cons c r =>
    rw [hs, List.length_cons] at h0
    have key : ∀ x : List Int, x.length ≤ r.length → rtF l.length x = rtk x := fun x hx => by
      have := sk_le x
      unfold rtk
      exact rtF_eq _ _ x (by omega) (by omega)
    simp only
    rw [key r (Nat.le_refl _), key _ (dropW_le alnB r), key _ (dropW_le digB r)]
theorem rtk_nil : rtk [] = [] := by rw [rtk_eq, skL_nil]
theorem skL_self {c : Int} {r : List Int} (h1 : c ≠ 35) (h2 : blkB c = false) : skL (c :: r) = c :: r := by rw [skL_cons, if_neg h1, if_neg (by rw [h2]; simp)]
theorem rtk_at {c : Int} {r : List Int} (h1 : c ≠ 35) (h2 : blkB c = false) : rtk (c :: r) = if c = 10 then .nl :: rtk r else if c = 47 then .w [c] :: rtk r
      else if letB c then .w (c :: r.takeWhile alnB) :: rtk (r.dropWhile alnB)
      else if digB c then .w (c :: r.takeWhile digB) :: rtk (r.dropWhile digB) else [.bad] := by
  rw [rtk_eq, skL_self h1 h2]
theorem tw_tw {p q : Int → Bool} (h : ∀ c, p c = true → q c = true) : ∀ l : List Int, (l.takeWhile q).takeWhile p = l.takeWhile p
  | [] => rfl
  | c :: r => by
    by_cases hp : p c = true
    · rw [List.takeWhile_cons_of_pos (h c hp), List.takeWhile_cons_of_pos hp, List.takeWhile_cons_of_pos hp, tw_tw h r]
    · by_cases hq : q c = true
      · rw [List.takeWhile_cons_of_pos hq, List.takeWhile_cons_of_neg hp, List.takeWhile_cons_of_neg hp]
      · rw [List.takeWhile_cons_of_neg hq, List.takeWhile_cons_of_neg hp]; rfl
theorem tw_dw {p q : Int → Bool} (h : ∀ c, p c = true → q c = true) : ∀ l : List Int, (l.takeWhile q).dropWhile p = (l.dropWhile p).takeWhile q
  | [] => rfl
  | c :: r => by
    by_cases hp : p c = true
    · rw [List.takeWhile_cons_of_pos (h c hp), List.dropWhile_cons_of_pos hp, List.dropWhile_cons_of_pos hp, tw_dw h r]
    · by_cases hq : q c = true
      · rw [List.takeWhile_cons_of_pos hq, List.dropWhile_cons_of_neg hp, List.dropWhile_cons_of_neg hp, List.takeWhile_cons_of_pos hq]
      · rw [List.takeWhile_cons_of_neg hq, List.dropWhile_cons_of_neg hp, List.takeWhile_cons_of_neg hq]; rfl
theorem dw_dw {p q : Int → Bool} (h : ∀ c, p c = true → q c = true) : ∀ l : List Int, l.dropWhile q = (l.dropWhile p).dropWhile q
  | [] => rfl
  | c :: r => by
    by_cases hp : p c = true
    · rw [List.dropWhile_cons_of_pos (h c hp), List.dropWhile_cons_of_pos hp, dw_dw h r]
    · rw [List.dropWhile_cons_of_neg hp]
def cutA (l : List Int) : List Int := (l.takeWhile nnlB).takeWhile nhB
theorem aln_nnl (c : Int) (h : alnB c = true) : nnlB c = true := nnl_t (fun e => by subst e; revert h; decide)
theorem aln_nh (c : Int) (h : alnB c = true) : nhB c = true := nh_t (fun e => by subst e; revert h; decide)
theorem dig_nnl (c : Int) (h : digB c = true) : nnlB c = true := nnl_t (fun e => by subst e; revert h; decide)
theorem dig_nh (c : Int) (h : digB c = true) : nhB c = true := nh_t (fun e => by subst e; revert h; decide)
theorem cut_tw {p : Int → Bool} (h1 : ∀ c, p c = true → nnlB c = true) (h2 : ∀ c, p c = true → nhB c = true) (l : List Int) : (cutA l).takeWhile p = l.takeWhile p ∧ (cutA l).dropWhile p = cutA (l.dropWhile p) := by
  unfold cutA
  exact ⟨by rw [tw_tw h2, tw_tw h1], by rw [tw_dw h2, tw_dw h1]⟩
theorem cut_cons {c : Int} {r : List Int} (h1 : c ≠ 10) (h2 : c ≠ 35) : cutA (c :: r) = c :: cutA r := by
  unfold cutA
  rw [List.takeWhile_cons_of_pos (nnl_t h1), List.takeWhile_cons_of_pos (nh_t h2)]
theorem line_rtk : ∀ (n : Nat) (l : List Int), l.length ≤ n → (match wdL (cutA l) with
    | some ws => rtk l = ws.map Ro.w ++ rtk (l.dropWhile nnlB)
    | none => Ro.bad ∈ rtk l)
  | n, [], h => by
    show (match wdL [] with | some ws => _ | none => _)
    rw [wdL_nil]; simp [rtk_nil]
  | 0, c :: r, h => by simp at h
  | n + 1, c :: r, h => by
    rw [List.length_cons] at h
    by_cases c1 : c = 10
    · have e : cutA (c :: r) = [] := by unfold cutA; rw [List.takeWhile_cons_of_neg (by rw [nnl_f c1]; simp)]; rfl
      rw [e, wdL_nil, List.dropWhile_cons_of_neg (by rw [nnl_f c1]; simp)]
      rfl
    have dn : (c :: r).dropWhile nnlB = r.dropWhile nnlB := List.dropWhile_cons_of_pos (nnl_t c1)
    rw [dn]
    by_cases c2 : c = 35
    · have e : cutA (c :: r) = [] := by
        unfold cutA
        rw [List.takeWhile_cons_of_pos (nnl_t c1), List.takeWhile_cons_of_neg (by rw [nh_f c2]; simp)]
      rw [e, wdL_nil]
      show rtk (c :: r) = [] ++ rtk (r.dropWhile nnlB)
      rw [List.nil_append]
      exact rtk_sk (by rw [skL_cons, if_pos c2])
    rw [cut_cons c1 c2, wdL_cons]
    by_cases c3 : blkB c = true
    · rw [if_pos c3]
      have := line_rtk n r (by omega)
      rw [rtk_sk (a := c :: r) (b := r) (by rw [skL_cons, if_neg c2, if_pos c3])]
      exact this
    have c3' : blkB c = false := by simpa using c3
    rw [if_neg c3, rtk_at c2 c3', if_neg c1]
    by_cases c4 : c = 47
    · rw [if_pos c4, if_pos c4]
      have := line_rtk n r (by omega)
      cases hw : wdL (cutA r) with
      | none => rw [hw] at this; exact List.mem_cons_of_mem _ this
      | some ws => rw [hw] at this; show Ro.w [c] :: rtk r = _; simp only at this; rw [this]; rfl
    rw [if_neg c4, if_neg c4]
    by_cases c5 : letB c = true
    · rw [if_pos c5, if_pos c5]
      obtain ⟨e1, e2⟩ := cut_tw aln_nnl aln_nh r
      rw [e1, e2, dw_dw aln_nnl r]
      have := line_rtk n (r.dropWhile alnB) (by have := dropW_le alnB r; omega)
      cases hw : wdL (cutA (r.dropWhile alnB)) with
      | none => rw [hw] at this; exact List.mem_cons_of_mem _ this
      | some ws => rw [hw] at this; show Ro.w _ :: rtk _ = _; simp only at this; rw [this]; rfl
    rw [if_neg c5, if_neg c5]
    by_cases c6 : digB c = true
    · rw [if_pos c6, if_pos c6]
      obtain ⟨e1, e2⟩ := cut_tw dig_nnl dig_nh r
      rw [e1, e2, dw_dw dig_nnl r]
      have := line_rtk n (r.dropWhile digB) (by have := dropW_le digB r; omega)
      cases hw : wdL (cutA (r.dropWhile digB)) with
      | none => rw [hw] at this; exact List.mem_cons_of_mem _ this
      | some ws => rw [hw] at this; show Ro.w _ :: rtk _ = _; simp only at this; rw [this]; rfl
    · rw [if_neg c6, if_neg c6]
      exact List.mem_singleton.2 rfl
def splA (acc : List (List Int)) : List Ro → List (List (List Int))
  | [] => addLn acc []
  | .nl :: r => addLn acc (splA [] r)
  | .w t :: r => splA (acc ++ [t]) r
  | .bad :: _ => []
theorem spl_w : ∀ (ws : List (List Int)) (acc : List (List Int)) (ts : List Ro), splA acc (ws.map Ro.w ++ ts) = splA (acc ++ ws) ts
  | [], acc, ts => by simp
  | t :: ws, acc, ts => by
    show splA (acc ++ [t]) (ws.map Ro.w ++ ts) = _
    rw [spl_w ws]; simp
theorem dw_nl (l : List Int) : l.dropWhile nnlB = [] ∨ ∃ r, l.dropWhile nnlB = 10 :: r := by
  induction l with
  | nil => exact .inl rfl
  | cons c r ih =>
    by_cases h : nnlB c = true
    · rw [List.dropWhile_cons_of_pos h]; exact ih
    · rw [List.dropWhile_cons_of_neg h]
      right
      have : c = 10 := by unfold nnlB at h; simpa using h
      exact ⟨r, by rw [this]⟩
theorem w_nb (ws : List (List Int)) : Ro.bad ∉ ws.map Ro.w := fun h => by
  obtain ⟨t, _, e⟩ := List.mem_map.1 h
  cases e
theorem lns_rtk : ∀ (n : Nat) (l : List Int), l.length ≤ n → (Ro.bad ∈ rtk l → lnsL l = none) ∧ (Ro.bad ∉ rtk l → lnsL l = some (splA [] (rtk l)))
  | n, [], h => by
    rw [rtk_nil, lnsL_nil]
    exact ⟨fun q => (by cases q), fun _ => rfl⟩
  | 0, c :: r, h => by simp at h
  | n + 1, c :: r, h => by
    have hl := line_rtk (n + 1) (c :: r) h
    rw [lnsL_cons]
    have ec : cutA (c :: r) = ((c :: r).takeWhile nnlB).takeWhile nhB := rfl
    rw [← ec]
    cases hw : wdL (cutA (c :: r)) with
    | none => rw [hw] at hl; exact ⟨fun _ => rfl, fun q => absurd hl q⟩
    | some ws =>
      rw [hw] at hl
      simp only at hl ⊢
      rw [hl]
      rcases dw_nl (c :: r) with e | ⟨r', e⟩
      · rw [e, rtk_nil, List.append_nil]
        refine ⟨fun q => absurd q (w_nb ws), fun _ => ?_⟩
        have := spl_w ws [] []
        rw [List.append_nil, List.nil_append] at this
        rw [this, List.drop_nil, lnsL_nil]; rfl
      · have hlen : r'.length ≤ n := by
          have := dropW_le nnlB (c :: r)
          rw [e, List.length_cons, List.length_cons] at this
          rw [List.length_cons] at h; omega
        obtain ⟨i1, i2⟩ := lns_rtk n r' hlen
        rw [e, rtk_at (by decide) (by decide), if_pos rfl]
        refine ⟨fun q => ?_, fun q => ?_⟩
        · rcases List.mem_append.1 q with q | q
          · exact absurd q (w_nb ws)
          · rcases List.mem_cons.1 q with q | q
            · cases q
            · show (lnsL r').map _ = none
              rw [i1 q]; rfl
        · have q2 : Ro.bad ∉ rtk r' := fun z => q (List.mem_append_right _ (List.mem_cons_of_mem _ z))
          show (lnsL r').map _ = _
          rw [i2 q2, spl_w ws [], List.nil_append]
          rfl
def isEnd (ws : List (List Int)) : Bool := decide (ws.length = 1) && sEq (bA (ws.getD 0 [])) sEnd
def accL : Nat → List (List (List Int)) → Option (List Ch)
  | _, [] => none
  | n, ws :: t => if t.isEmpty && isEnd ws then some [] else if 128 ≤ n then none else match lnM (ws.map bA) with
    | none => none
    | some c => if wfF c then (accL (n + 1) t).map (c :: ·) else none
theorem accL_eq : ∀ (mid : List (List (List Int))) (last : List (List Int)) (n : Nat), n ≤ 128 → accL n (mid ++ [last]) = if isEnd last = true ∧ n + mid.length ≤ 128 then chM mid else none
  | [], last, n, h => by
    show accL n [last] = _
    unfold accL
    by_cases he : isEnd last = true
    · rw [if_pos (by rw [he]; rfl), if_pos ⟨he, by simp; omega⟩]; rfl
    · rw [if_neg (show ¬ (isEnd last = true ∧ n + ([] : List (List (List Int))).length ≤ 128) from fun q => he q.1), if_neg (by simpa using he)]
      split
      · rfl
      · split
        · rfl
        · split <;> rfl
  | ws :: mid, last, n, h => by
    show accL n (ws :: (mid ++ [last])) = _
    unfold accL
    rw [if_neg (by simp)]
    by_cases h8 : 128 ≤ n
    · rw [if_pos h8, if_neg (fun q => by have := q.2; rw [List.length_cons] at this; omega)]
    · rw [if_neg h8]
      conv => rhs; unfold chM
      cases hl : lnM (ws.map bA) with
      | none => simp
      | some c =>
        simp only
        by_cases hf : wfF c = true
        · rw [if_pos hf, if_pos hf, accL_eq mid last (n + 1) (by omega)]
          by_cases hq : isEnd last = true ∧ n + (mid.length + 1) ≤ 128
          · rw [if_pos ⟨hq.1, by omega⟩, if_pos (by rw [List.length_cons]; exact hq)]
          · rw [if_neg (fun z => hq ⟨z.1, by omega⟩), if_neg (by rw [List.length_cons]; exact hq)]; rfl
        · rw [if_neg hf, if_neg hf]; simp
/-- a first line, then changes, then the end -/
def topL (lns : List (List (List Int))) : Option (Int × List Ch) := match lns with
  | [] => none
  | h :: t => if h.length = 2 ∧ sEq (bA (h.getD 0 [])) sBatch = true then (match nmW (bA (h.getD 1 [])) 4294967295 with
    | none => none
    | some id => (accL 0 t).map fun cs => (id, cs)) else none
theorem lis_top (lns : List (List (List Int))) : lisM lns = topL lns := by
  rcases Nat.lt_or_ge lns.length 2 with h | h
  · unfold lisM
    rw [if_pos (.inl h)]
    unfold topL
    match lns, h with
    | [], _ => rfl
    | [x], _ =>
      simp only
      split
      · split
        · rfl
        · rfl
      · rfl
  · obtain ⟨x0, mid, xn, rfl⟩ := split3 h
    unfold lisM
    have e : (x0 :: (mid ++ [xn])).getLast? = some xn := by rw [← List.cons_append, List.getLast?_concat]
    simp only [List.headD_cons, List.getLastD_eq_getLast?, e, Option.getD_some, List.drop_succ_cons, List.drop_zero, List.dropLast_concat, topL]
    rw [accL_eq mid xn 0 (by omega)]
    have he : isEnd xn = true ↔ xn.length = 1 ∧ sEq (bA (xn.getD 0 [])) sEnd = true := by unfold isEnd; rw [Bool.and_eq_true, decide_eq_true_eq]
    unfold topM
    simp only [List.length_cons, List.length_append, List.length_nil]
    by_cases hl : 128 < mid.length
    · rw [if_pos (by omega)]
      split
      · split
        · rfl
        · rw [if_neg (fun q => by omega)]; rfl
      · rfl
    · rw [if_neg (by omega)]
      by_cases hh : x0.length = 2 ∧ sEq (bA (x0.getD 0 [])) sBatch = true
      · rw [if_pos hh]
        by_cases hx : isEnd xn = true
        · rw [if_pos ⟨hh.1, hh.2, (he.1 hx).1, (he.1 hx).2⟩, if_pos ⟨hx, by omega⟩]
          cases nmW (bA (x0.getD 1 [])) 4294967295 <;> rfl
        · rw [if_neg (fun q => hx (he.2 q.2.2))]
          split
          · rfl
          · rw [if_neg (fun q => hx q.1)]; rfl
      · rw [if_neg hh, if_neg (fun q => hh ⟨q.1, q.2.1⟩)]
theorem parM_eq (src : List Int) : (Ro.bad ∈ rtk src → parM src = none) ∧ (Ro.bad ∉ rtk src → parM src = topL (splA [] (rtk src))) := by
  obtain ⟨h1, h2⟩ := lns_rtk src.length src (Nat.le_refl _)
  refine ⟨fun q => ?_, fun q => ?_⟩
  · unfold parM; rw [h1 q]
  · unfold parM; rw [h2 q]; exact lis_top _

end Go.Proofs.Qxb6500907a

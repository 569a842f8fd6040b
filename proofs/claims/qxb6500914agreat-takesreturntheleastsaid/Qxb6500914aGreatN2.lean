import Derived.Test.Qxb6500914aGreatN1
namespace Go.Proofs.Qxb6500914aGreat
open Go.Eng
set_option linter.unusedVariables false
set_option linter.unusedSimpArgs false

/-! ## histories -/
structure Rec where
  ck : Int
  cv : Int
  cp : Int
  ra : Int
  rv : Int
  rp : Int
  ret : Bool
  iv : Nat
  fn : Nat
def never : Nat := 9223372036854775807
def inK (k : Bool) (ck : Int) : Prop := if k then 4 ≤ ck ∧ ck ≤ 7 else 0 ≤ ck ∧ ck ≤ 3
instance (k : Bool) (ck : Int) : Decidable (inK k ck) := by unfold inK; split <;> exact inferInstance
def endL (l : List Rec) (ra rv rp : Int) (n : Nat) : List Rec := match l.getLast? with
  | none => l
  | some r => l.dropLast ++ [{ r with ra := ra, rv := rv, rp := rp, ret := true, fn := n }]
def hStep (k : Bool) (H : Nat → List Rec) (n : Nat) (e : Ev) : Nat → List Rec :=
  if inK k e.ck then (if e.ret then updF H e.t (endL (H e.t) e.ra e.rv e.rp n) else updF H e.t (H e.t ++ [⟨e.ck, e.cv, e.cp, 0, 0, 0, false, n, never⟩])) else H
def hist (k : Bool) (log : List Ev) : Nat → List Rec := log.zipIdx.foldl (fun H x => hStep k H x.2 x.1) (fun _ => [])
theorem hist_snoc (k : Bool) (log : List Ev) (e : Ev) : hist k (log ++ [e]) = hStep k (hist k log) log.length e := by
  unfold hist
  rw [List.zipIdx_append, List.foldl_append]; simp
/-! ## orders of the operations -/
structure Lin where
  t : Nat
  ck : Int
  cv : Int
  cp : Int
  rs : Rs
  s : Nat
def runs (k : Bool) : List (Int × Int) → List Lin → List (Int × Int) → Prop
  | A, [], B => A = B
  | A, l :: L, B => (stA k A l.ck l.cv l.cp).2 = l.rs ∧ runs k (stA k A l.ck l.cv l.cp).1 L B
theorem runs_snoc (k : Bool) (l : Lin) : ∀ (L : List Lin) (A B : List (Int × Int)), runs k A L B → (stA k B l.ck l.cv l.cp).2 = l.rs → runs k A (L ++ [l]) (stA k B l.ck l.cv l.cp).1
  | [], A, B, h, h2 => by
    have e : A = B := h
    subst e
    exact ⟨h2, rfl⟩
  | x :: L, A, B, h, h2 => ⟨h.1, runs_snoc k l L _ B h.2 h2⟩
def cnt (t : Nat) : List Lin → Nat
  | [] => 0
  | l :: L => (if l.t = t then 1 else 0) + cnt t L
theorem cnt_append (t : Nat) : ∀ A B : List Lin, cnt t (A ++ B) = cnt t A + cnt t B
  | [], B => by simp [cnt]
  | l :: A, B => by simp only [List.cons_append, cnt]; rw [cnt_append t A B]; omega
structure Mt (l : Lin) (r : Rec) : Prop where
  ck : r.ck = l.ck
  cv : r.cv = l.cv
  cp : r.cp = l.cp
  iv : r.iv ≤ l.s
  fn : l.s ≤ r.fn
  rs : r.ret = true → l.rs = ⟨r.ra, r.rv, r.rp⟩
inductive Ph where
  | idle
  | work (ck cv cp : Int)
  | fin (rs : Rs)
def Thr (H : Nat → List Rec) (L : List Lin) (n t : Nat) : Ph → Prop
  | .idle => (H t).length = cnt t L
  | .work ck cv cp => (H t).length = cnt t L + 1 ∧ ∃ B r, H t = B ++ [r] ∧ r.ck = ck ∧ r.cv = cv ∧ r.cp = cp ∧ r.iv ≤ n ∧ r.fn = never ∧ r.ret = false
  | .fin rs => (H t).length = cnt t L ∧ (∃ B r, H t = B ++ [r] ∧ r.fn = never) ∧ ∀ L1 l L2, L = L1 ++ l :: L2 → l.t = t → cnt t L1 + 1 = (H t).length → l.rs = rs
structure LI (k : Bool) (H : Nat → List Rec) (L : List Lin) (A : List (Int × Int)) (n : Nat) (ph : Nat → Ph) : Prop where
  run : runs k [] L A
  srt : L.Pairwise (fun a b => a.s ≤ b.s)
  le : ∀ l ∈ L, l.s ≤ n ∧ l.t < 6
  mt : ∀ L1 l L2, L = L1 ++ l :: L2 → ∃ r, (H l.t)[cnt l.t L1]? = some r ∧ Mt l r
  th : ∀ t, t < 6 → Thr H L n t (ph t)
  never : n < never
theorem cnt_split {L1 L2 : List Lin} {l : Lin} {t : Nat} (h : l.t = t) : cnt t (L1 ++ l :: L2) = cnt t L1 + 1 + cnt t L2 := by
  rw [cnt_append]; simp only [cnt]; rw [if_pos h]; omega
theorem LI.other {k : Bool} {H : Nat → List Rec} {L : List Lin} {A : List (Int × Int)} {n : Nat} {ph : Nat → Ph} (h : LI k H L A n ph) (hn : n + 1 < Go.Proofs.Qxb6500914aGreat.never) : LI k H L A (n + 1) ph :=
  ⟨h.run, h.srt, fun l hl => ⟨by have := (h.le l hl).1; omega, (h.le l hl).2⟩, h.mt, fun t ht => by
    have := h.th t ht
    cases hp : ph t with
    | idle => rw [hp] at this; exact this
    | work ck cv cp =>
      rw [hp] at this
      obtain ⟨a, B, r, b1, b2, b3, b4, b5, b6⟩ := this
      exact ⟨a, B, r, b1, b2, b3, b4, by omega, b6⟩
    | fin rs => rw [hp] at this; exact this, hn⟩
/-- another thread's history changes: this thread's part stands -/
theorem Thr.mono {H H' : Nat → List Rec} {L : List Lin} {n n' t : Nat} {p : Ph} (h : Thr H L n t p) (hH : H' t = H t) (hn : n ≤ n') : Thr H' L n' t p := by
  cases p with
  | idle => have := h; unfold Thr at this ⊢; rw [hH]; exact this
  | work ck cv cp =>
    unfold Thr at h ⊢
    rw [hH]
    obtain ⟨a, B, r, b1, b2, b3, b4, b5, b6⟩ := h
    exact ⟨a, B, r, b1, b2, b3, b4, by omega, b6⟩
  | fin rs => unfold Thr at h ⊢; rw [hH]; exact h
theorem LI.invoke {k : Bool} {H : Nat → List Rec} {L : List Lin} {A : List (Int × Int)} {n : Nat} {ph : Nat → Ph} (h : LI k H L A n ph) {t : Nat} (ht : t < 6) (hp : ph t = .idle) (ck cv cp : Int) (hn : n + 1 < Go.Proofs.Qxb6500914aGreat.never) :
    LI k (updF H t (H t ++ [⟨ck, cv, cp, 0, 0, 0, false, n, Go.Proofs.Qxb6500914aGreat.never⟩])) L A (n + 1) (updF ph t (.work ck cv cp)) := by
  refine ⟨h.run, h.srt, fun l hl => ⟨by have := (h.le l hl).1; omega, (h.le l hl).2⟩, fun L1 l L2 e => ?_, fun s hs => ?_, hn⟩
  · obtain ⟨r, hr, hm⟩ := h.mt L1 l L2 e
    refine ⟨r, ?_, hm⟩
    by_cases c : l.t = t
    · rw [c, updF_same]
      rw [c] at hr
      rw [List.getElem?_append_left (List.getElem?_eq_some_iff.1 hr).1]; exact hr
    · rw [updF_ne _ _ c]; exact hr
  · by_cases c : s = t
    · subst c
      have := h.th s hs
      rw [hp] at this
      have h2 : (H s).length = cnt s L := this
      rw [updF_same]
      unfold Thr
      rw [updF_same]
      refine ⟨by rw [List.length_append, List.length_singleton, h2], H s, _, rfl, rfl, rfl, rfl, by show n ≤ n + 1; omega, rfl, rfl⟩
    · rw [updF_ne _ _ c]
      exact (h.th s hs).mono (updF_ne _ _ c) (by omega)
theorem snoc_split {L L1 L2 : List Lin} {x l : Lin} (e : L ++ [x] = L1 ++ l :: L2) : (L2 = [] ∧ l = x ∧ L1 = L) ∨ ∃ L3, L2 = L3 ++ [x] ∧ L = L1 ++ l :: L3 := by
  rcases List.eq_nil_or_concat L2 with rfl | ⟨L3, y, rfl⟩
  · have := List.append_inj' e rfl
    exact .inl ⟨rfl, by have := this.2; injection this with a; exact a.symm, this.1.symm⟩
  · have e2 : L ++ [x] = (L1 ++ l :: L3) ++ [y] := by rw [e]; simp
    have := List.append_inj' e2 rfl
    have h2 := this.2
    injection h2 with a
    exact .inr ⟨L3, by rw [a]; simp, this.1⟩
theorem Thr.snoc {H : Nat → List Rec} {L : List Lin} {n t : Nat} {p : Ph} {x : Lin} (h : Thr H L n t p) (hx : x.t ≠ t) : Thr H (L ++ [x]) n t p := by
  have hc : cnt t (L ++ [x]) = cnt t L := by rw [cnt_append]; simp [cnt, hx]
  cases p with
  | idle => unfold Thr at h ⊢; rw [hc]; exact h
  | work ck cv cp => unfold Thr at h ⊢; rw [hc]; exact h
  | fin rs =>
    unfold Thr at h ⊢
    rw [hc]
    refine ⟨h.1, h.2.1, fun L1 l L2 e he hl => ?_⟩
    rcases snoc_split e with ⟨_, rfl, _⟩ | ⟨L3, _, e3⟩
    · exact absurd he hx
    · exact h.2.2 L1 l L3 e3 he hl
theorem LI.lin {k : Bool} {H : Nat → List Rec} {L : List Lin} {A : List (Int × Int)} {n : Nat} {ph : Nat → Ph} (h : LI k H L A n ph) {t : Nat} (ht : t < 6) {ck cv cp : Int} (hp : ph t = .work ck cv cp) :
    LI k H (L ++ [⟨t, ck, cv, cp, (stA k A ck cv cp).2, n⟩]) (stA k A ck cv cp).1 n (updF ph t (.fin (stA k A ck cv cp).2)) := by
  have hth := h.th t ht
  rw [hp] at hth
  obtain ⟨hlen, B, r, hB, h1, h2, h3, h4, h5, h6⟩ := hth
  have hBl : B.length = cnt t L := by rw [hB, List.length_append, List.length_singleton] at hlen; omega
  refine ⟨runs_snoc k ⟨t, ck, cv, cp, (stA k A ck cv cp).2, n⟩ L [] A h.run rfl, ?_, fun l hl => ?_, fun L1 l L2 e => ?_, fun s hs => ?_, h.never⟩
  · rw [List.pairwise_append]
    refine ⟨h.srt, List.pairwise_singleton _ _, fun a ha b hb => ?_⟩
    rw [List.mem_singleton] at hb
    subst hb
    exact (h.le a ha).1
  · rcases List.mem_append.1 hl with q | q
    · exact h.le l q
    · rw [List.mem_singleton] at q; subst q; exact ⟨Nat.le_refl _, ht⟩
  · rcases snoc_split e with ⟨_, rfl, rfl⟩ | ⟨L3, _, e3⟩
    · refine ⟨r, ?_, ⟨h1, h2, h3, h4, ?_, fun q => by rw [h6] at q; cases q⟩⟩
      · show (H t)[cnt t L1]? = some r
        rw [hB, ← hBl, List.getElem?_append_right (Nat.le_refl _), Nat.sub_self]; rfl
      · rw [h5]; have := h.never; show n ≤ _; omega
    · exact h.mt L1 l L3 e3
  · by_cases c : s = t
    · subst c
      rw [updF_same]
      unfold Thr
      have hc : cnt s (L ++ [⟨s, ck, cv, cp, (stA k A ck cv cp).2, n⟩]) = cnt s L + 1 := by rw [cnt_append]; simp [cnt]
      refine ⟨by rw [hlen, hc], ⟨B, r, hB, h5⟩, fun L1 l L2 e he hl => ?_⟩
      rcases snoc_split e with ⟨_, rfl, _⟩ | ⟨L3, _, e3⟩
      · rfl
      · exfalso
        rw [hlen, e3, cnt_split he] at hl
        omega
    · rw [updF_ne _ _ c]
      exact (h.th s hs).snoc (fun q => c q.symm)
theorem endL_snoc (B : List Rec) (r : Rec) (ra rv rp : Int) (n : Nat) : endL (B ++ [r]) ra rv rp n = B ++ [{ r with ra := ra, rv := rv, rp := rp, ret := true, fn := n }] := by
  unfold endL; simp
theorem LI.ret {k : Bool} {H : Nat → List Rec} {L : List Lin} {A : List (Int × Int)} {n : Nat} {ph : Nat → Ph} (h : LI k H L A n ph) {t : Nat} (ht : t < 6) {ra rv rp : Int} (hp : ph t = .fin ⟨ra, rv, rp⟩) (hn : n + 1 < Go.Proofs.Qxb6500914aGreat.never) :
    LI k (updF H t (endL (H t) ra rv rp n)) L A (n + 1) (updF ph t .idle) := by
  have hth := h.th t ht
  rw [hp] at hth
  obtain ⟨hlen, ⟨B, r, hB, h5⟩, hl9⟩ := hth
  have hBl : B.length + 1 = cnt t L := by rw [hB, List.length_append, List.length_singleton] at hlen; omega
  rw [hB, endL_snoc]
  refine ⟨h.run, h.srt, fun l hl => ⟨by have := (h.le l hl).1; omega, (h.le l hl).2⟩, fun L1 l L2 e => ?_, fun s hs => ?_, hn⟩
  · obtain ⟨r9, hr, hm⟩ := h.mt L1 l L2 e
    by_cases c : l.t = t
    · rw [c, updF_same]
      rw [c, hB] at hr
      by_cases hc : cnt t L1 = B.length
      · rw [hc, List.getElem?_append_right (Nat.le_refl _), Nat.sub_self] at hr ⊢
        have er : r = r9 := by injection hr
        subst er
        have hrs := hl9 L1 l L2 e c (by rw [hB, List.length_append, List.length_singleton, hc])
        exact ⟨_, rfl, ⟨hm.ck, hm.cv, hm.cp, hm.iv, (h.le l (by rw [e]; simp)).1, fun _ => hrs⟩⟩
      · have hlt : cnt t L1 < B.length := by
          have := (List.getElem?_eq_some_iff.1 hr).1
          rw [List.length_append, List.length_singleton] at this
          omega
        rw [List.getElem?_append_left hlt] at hr ⊢
        exact ⟨r9, hr, hm⟩
    · rw [updF_ne _ _ c]; exact ⟨r9, hr, hm⟩
  · by_cases c : s = t
    · subst c
      rw [updF_same]
      show (updF H s _ s).length = cnt s L
      rw [updF_same, List.length_append, List.length_singleton]; omega
    · rw [updF_ne _ _ c]
      exact (h.th s hs).mono (updF_ne _ _ c) (by omega)
/-! ## what the search looks for -/
def incF (d : Nat → Nat) (t : Nat) : Nat → Nat := updF d t (d t + 1)
inductive Cmp (k : Bool) (H : Nat → List Rec) : (Nat → Nat) → List (Int × Int) → Prop
  | fin (d : Nat → Nat) (A : List (Int × Int)) (h : ∀ t r, t < 6 → (H t)[d t]? = some r → r.fn = never) : Cmp k H d A
  | step (d : Nat → Nat) (A : List (Int × Int)) (t : Nat) (r : Rec) (ht : t < 6) (hr : (H t)[d t]? = some r) (hc : ∀ t' r', t' < 6 → (H t')[d t']? = some r' → r.iv ≤ r'.fn)
      (hs : r.ret = true → (stA k A r.ck r.cv r.cp).2 = ⟨r.ra, r.rv, r.rp⟩) (hn : Cmp k H (incF d t) (stA k A r.ck r.cv r.cp).1) : Cmp k H d A
theorem LI.pend {k : Bool} {H : Nat → List Rec} {L : List Lin} {A : List (Int × Int)} {n : Nat} {ph : Nat → Ph} (h : LI k H L A n ph) {t j : Nat} {r : Rec} (ht : t < 6) (hj : cnt t L ≤ j) (hr : (H t)[j]? = some r) : r.fn = Go.Proofs.Qxb6500914aGreat.never := by
  have hl := (List.getElem?_eq_some_iff.1 hr).1
  have hth := h.th t ht
  cases hp : ph t with
  | idle => rw [hp] at hth; have : (H t).length = cnt t L := hth; omega
  | work ck cv cp =>
    rw [hp] at hth
    obtain ⟨hlen, B, r9, hB, h1, h2, h3, h4, h5, h6⟩ := hth
    have hBl : B.length = cnt t L := by rw [hB, List.length_append, List.length_singleton] at hlen; omega
    have hj' : j = B.length := by omega
    rw [hB, hj', List.getElem?_append_right (Nat.le_refl _), Nat.sub_self] at hr
    have er : r9 = r := by injection hr
    rw [← er]; exact h5
  | fin rs => rw [hp] at hth; have : (H t).length = cnt t L := hth.1; omega
theorem find_next (t : Nat) : ∀ L2 : List Lin, cnt t L2 ≠ 0 → ∃ M1 l M2, L2 = M1 ++ l :: M2 ∧ l.t = t ∧ cnt t M1 = 0
  | [], h => absurd rfl h
  | x :: L2, h => by
    by_cases c : x.t = t
    · exact ⟨[], x, L2, rfl, c, rfl⟩
    · obtain ⟨M1, l, M2, e, h1, h2⟩ := find_next t L2 (by simpa [cnt, c] using h)
      exact ⟨x :: M1, l, M2, by rw [e]; rfl, h1, by simp [cnt, c, h2]⟩
theorem LI.cmp {k : Bool} {H : Nat → List Rec} {L : List Lin} {A : List (Int × Int)} {n : Nat} {ph : Nat → Ph} (h : LI k H L A n ph) (hiv : ∀ t r, r ∈ H t → r.iv ≤ Go.Proofs.Qxb6500914aGreat.never) : ∀ (L2 L1 : List Lin) (B : List (Int × Int)) (d : Nat → Nat), L = L1 ++ L2 → (∀ t, d t = cnt t L1) → runs k B L2 A → Cmp k H d B
  | [], L1, B, d, e, hd, _ => by
    refine .fin d B fun t r ht hr => ?_
    rw [List.append_nil] at e
    exact h.pend ht (by rw [e, hd]; exact Nat.le_refl _) hr
  | l :: L2, L1, B, d, e, hd, hR => by
    obtain ⟨r, hr, hm⟩ := h.mt L1 l L2 e
    have hl := h.le l (by rw [e]; simp)
    have hsl := h.srt
    rw [e, List.pairwise_append] at hsl
    have hs2 := (List.pairwise_cons.1 hsl.2.1).1
    refine .step d B l.t r hl.2 (by rw [hd]; exact hr) (fun t' r' ht' hr' => ?_) (fun q => ?_) ?_
    · rw [hd] at hr'
      by_cases c : cnt t' (l :: L2) = 0
      · have := h.pend ht' (show cnt t' L ≤ cnt t' L1 by rw [e, cnt_append, c]; omega) hr'
        rw [this]
        exact hiv _ _ (List.mem_of_getElem? hr)
      · obtain ⟨M1, l', M2, e', h1, h2⟩ := find_next t' _ c
        obtain ⟨r9, hr9, hm9⟩ := h.mt (L1 ++ M1) l' M2 (by rw [e, e']; simp)
        rw [h1, cnt_append, h2, Nat.add_zero] at hr9
        have er : r' = r9 := by rw [hr'] at hr9; injection hr9
        rw [er]
        have hls : l.s ≤ l'.s := by
          cases M1 with
          | nil => injection e' with a b; rw [a]; exact Nat.le_refl _
          | cons m M1 =>
            injection e' with a b
            exact hs2 l' (by rw [b]; simp)
        exact Nat.le_trans hm.iv (Nat.le_trans hls hm9.fn)
    · rw [hm.ck, hm.cv, hm.cp, hR.1]; exact hm.rs q
    · rw [hm.ck, hm.cv, hm.cp]
      refine LI.cmp h hiv L2 (L1 ++ [l]) _ _ (by rw [e]; simp) (fun t => ?_) hR.2
      rw [cnt_append]
      unfold incF
      by_cases c : t = l.t
      · subst c; rw [updF_same, hd]; simp [cnt]
      · rw [updF_ne _ _ c, hd]; simp [cnt, Ne.symm c]
theorem LI.found {k : Bool} {H : Nat → List Rec} {L : List Lin} {A : List (Int × Int)} {n : Nat} {ph : Nat → Ph} (h : LI k H L A n ph) (hiv : ∀ t r, r ∈ H t → r.iv ≤ Go.Proofs.Qxb6500914aGreat.never) : Cmp k H (fun _ => 0) [] :=
  LI.cmp h hiv L [] [] _ rfl (fun _ => rfl) h.run
theorem LI.start (k : Bool) : LI k (fun _ => []) [] [] 0 (fun _ => .idle) :=
  ⟨rfl, .nil, fun l hl => absurd hl (by simp), fun L1 l L2 e => absurd e (by simp), fun t ht => rfl, by decide⟩

end Go.Proofs.Qxb6500914aGreat

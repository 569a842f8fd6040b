import Derived.Test.Qxb6500912aGreatDoorZ22
namespace Go.Proofs.Qxb6500912aGreatDoor
open Go.Eng
set_option linter.unusedVariables false
set_option linter.unusedSimpArgs false

/-! ## what may go next: the layer against the model -/
theorem run_hole {g l : Nat → Bool} {f a e q : Nat} {lo : Bool} {mss : Int} (hms : 1 ≤ mss) (h1 : a ≤ q) (h2 : q < e) (hef : e ≤ f) (h3 : ∀ k, a ≤ k → k < e → g k = false ∧ l k = lo) (h4 : e = f ∨ g e = true ∨ l e = !lo) {n : Nat} (hn : (n : Int) = min mss ((e : Int) - (q : Int))) : RunR g l f q mss n := by
  refine ⟨fun i hi => ⟨by omega, (h3 (q + i) (by omega) (by omega)).1, by rw [(h3 (q + i) (by omega) (by omega)).2, (h3 q h1 h2).2]⟩, by omega, ?_⟩
  by_cases c : (n : Int) = mss
  · exact .inl c
  · refine .inr fun ⟨k1, k2, k3⟩ => ?_
    have e1 : q + n = e := by omega
    rw [e1] at k1 k2 k3
    rcases h4 with h4 | h4 | h4
    · omega
    · rw [h4] at k2; cases k2
    · rw [(h3 q h1 h2).2, h4] at k3; cases lo <;> cases k3
theorem run_fun {g l : Nat → Bool} {f q : Nat} {mss : Int} {n n' : Nat} (h : RunR g l f q mss n) (h' : RunR g l f q mss n') : n = n' := by
  obtain ⟨a1, a2, a3⟩ := h
  obtain ⟨b1, b2, b3⟩ := h'
  rcases Nat.lt_trichotomy n n' with c | c | c
  · rcases a3 with a3 | a3
    · omega
    · exact absurd (b1 n c) a3
  · exact c
  · rcases b3 with b3 | b3
    · omega
    · exact absurd (a1 n' c) b3
theorem down_fun {g : Nat → Bool} {q : Nat} {mss : Int} {n n' : Nat} (h : DownR g q mss n) (h' : DownR g q mss n') : n = n' := by
  obtain ⟨_, a1, a2, a3⟩ := h
  obtain ⟨_, b1, b2, b3⟩ := h'
  rcases Nat.lt_trichotomy n n' with c | c | c
  · rcases a3 with a3 | a3
    · omega
    · exact absurd (b1 n c) a3
  · exact c
  · rcases b3 with b3 | b3
    · omega
    · exact absurd (a1 n' c) b3
theorem nx1_fun {s : CS} {sk : Bool} {f hi : Nat} {g l : Nat → Bool} {k off n k' off' n' : Int} (h : Nx1 s sk f hi g l k off n) (h' : Nx1 s sk f hi g l k' off' n') : k = k' ∧ off = off' ∧ n = n' := by
  obtain ⟨q, m, _, a1, a2, a3, a4, a5, a6, rfl, rfl, rfl⟩ := h
  obtain ⟨q', m', _, b1, b2, b3, b4, b5, b6, rfl, rfl, rfl⟩ := h'
  have e : q = q' := by
    rcases Nat.lt_trichotomy q q' with c | c | c
    · exact absurd ⟨a3, a4⟩ (b5 q a1 c)
    · exact c
    · exact absurd ⟨b3, b4⟩ (a5 q' b1 c)
  subst e
  rw [run_fun a6 b6]
  exact ⟨rfl, rfl, rfl⟩
theorem nx3_fun {s : CS} {f hi : Nat} {g l : Nat → Bool} {k off n k' off' n' : Int} (h : Nx3 s f hi g l k off n) (h' : Nx3 s f hi g l k' off' n') : k = k' ∧ off = off' ∧ n = n' := by
  obtain ⟨q, m, t, a1, a2, a3, a4, a7, a5, a6, rfl, rfl, rfl⟩ := h
  obtain ⟨q', m', t', b1, b2, b3, b4, b7, b5, b6, rfl, rfl, rfl⟩ := h'
  have e : q = q' := by
    rcases Nat.lt_trichotomy q q' with c | c | c
    · have := b5 q a1 c; rw [a7] at this; cases this
    · exact c
    · have := a5 q' b1 c; rw [b7] at this; cases this
  subst e
  rw [run_fun a6 b6]
  exact ⟨rfl, rfl, rfl⟩
theorem nx4_fun {s : CS} {f : Nat} {g : Nat → Bool} {k off n k' off' n' : Int} (h : Nx4 s f g k off n) (h' : Nx4 s f g k' off' n') : k = k' ∧ off = off' ∧ n = n' := by
  obtain ⟨q, m, _, a2, a3, a4, a6, rfl, rfl, rfl⟩ := h
  obtain ⟨q', m', _, b2, b3, b4, b6, rfl, rfl, rfl⟩ := h'
  have e : q = q' := by
    rcases Nat.lt_trichotomy q q' with c | c | c
    · have := a4 q' c b2; rw [b3] at this; cases this
    · exact c
    · have := b4 q c a2; rw [a3] at this; cases this
  subst e
  rw [down_fun a6 b6]
  exact ⟨rfl, rfl, rfl⟩
theorem nx1_no {s : CS} {sk : Bool} {f hi : Nat} {g l : Nat → Bool} {k off n : Int} (h : Nx1 s sk f hi g l k off n) (hno : repM s sk → ∀ q, hi ≤ q → q < f → ¬ (g q = false ∧ l q = true)) : False := by
  obtain ⟨q, m, a0, a1, a2, a3, a4, _⟩ := h
  exact hno a0 q a1 a2 ⟨a3, a4⟩
theorem zero_fun {k off n k' off' n' : Int} (h : zeroG k off n) (h' : zeroG k' off' n') : k = k' ∧ off = off' ∧ n = n' := by
  obtain ⟨rfl, rfl, rfl⟩ := h; obtain ⟨rfl, rfl, rfl⟩ := h'; exact ⟨rfl, rfl, rfl⟩
theorem nx3_no {s : CS} {f hi : Nat} {g l : Nat → Bool} {k off n : Int} (h : Nx3 s f hi g l k off n) (hno : ∀ q t, hi ≤ q → q < t → t < f → g t = true → g q = true) : False := by
  obtain ⟨q, m, t, a1, a2, a3, a4, a7, _⟩ := h
  have := hno q t a1 a2 a3 a4
  rw [a7] at this; cases this
theorem nx4_no {s : CS} {f : Nat} {g : Nat → Bool} {k off n : Int} (h : Nx4 s f g k off n) (hno : s.resc = true ∨ ∀ q, q < f → g q = true) : False := by
  obtain ⟨q, m, a1, a2, a3, _⟩ := h
  rcases hno with hno | hno
  · rw [a1] at hno; cases hno
  · have := hno q a2; rw [a3] at this; cases this
theorem nxR_fun {s : CS} {sk : Bool} {f hi : Nat} {g l : Nat → Bool} {fresh k off n k' off' n' : Int} (h : NxR s sk f hi g l fresh k off n) (h' : NxR s sk f hi g l fresh k' off' n') : k = k' ∧ off = off' ∧ n = n' := by
  rcases h with h | ⟨h0, h⟩
  · rcases h' with h' | ⟨h0', _⟩
    · exact nx1_fun h h'
    · exact (nx1_no h h0').elim
  · rcases h' with h' | ⟨_, h'⟩
    · exact (nx1_no h' h0).elim
    · rcases h with ⟨a1, rfl, rfl, rfl⟩ | ⟨a1, a2, a3⟩ | ⟨a1, a2, a3⟩
      · rcases h' with ⟨b1, rfl, rfl, rfl⟩ | ⟨b1, b2, b3⟩ | ⟨b1, b2, b3⟩
        · exact ⟨rfl, rfl, rfl⟩
        · exact absurd a1 b1
        · exact absurd a1 b1
      · rcases h' with ⟨b1, _⟩ | ⟨b1, b2, b3⟩ | ⟨b1, b2, b3⟩
        · exact absurd b1 a1
        · exact zero_fun a3 b3
        · exact absurd b2 a2
      · rcases h' with ⟨b1, _⟩ | ⟨b1, b2, b3⟩ | ⟨b1, b2, b3⟩
        · exact absurd b1 a1
        · exact absurd a2 b2
        · rcases a3 with a3 | ⟨a4, a3⟩
          · rcases b3 with b3 | ⟨b4, b3⟩
            · exact nx3_fun a3 b3
            · exact (nx3_no a3 b4).elim
          · rcases b3 with b3 | ⟨b4, b3⟩
            · exact (nx3_no b3 a4).elim
            · rcases a3 with a3 | ⟨a5, a3⟩
              · rcases b3 with b3 | ⟨b5, b3⟩
                · exact nx4_fun a3 b3
                · exact (nx4_no a3 b5).elim
              · rcases b3 with b3 | ⟨b5, b3⟩
                · exact (nx4_no b3 a5).elim
                · exact zero_fun a3 b3
/-! one hole -/
theorem nhOk_ho {s m : CS} {st : Int} (h : RelS s m st) {hi f : Nat} (hh : m.high - m.una = (hi : Int)) (hf : f ≤ 2147483647) (hhf : hi ≤ f) {x : HN} (hx : x.a < x.e ∧ x.e ≤ f) (lost : Bool) :
    nhOk s lost (x.ho s.una) = if ((x.lost != lost) || (!lost && x.tail)) = true then none else if max x.a hi < x.e then some ⟨2, (s.una + ((max x.a hi : Nat) : Int)) % 4294967296, min m.mss ((x.e : Int) - ((max x.a hi : Nat) : Int))⟩ else none := by
  have eh : s.high = (s.una + (hi : Int)) % 4294967296 := by rw [h.high, h.una, seq_add]; congr 1; omega
  have en : nhS s (x.ho s.una) = (s.una + ((max x.a hi : Nat) : Int)) % 4294967296 := by
    unfold nhS HN.ho
    simp only
    rw [eh, less_b (u := s.una) (x := x.a) (y := hi) (by omega) (by omega)]
    by_cases c : x.a < hi
    · rw [if_pos (decide_eq_true c), show max x.a hi = hi by omega]
    · rw [if_neg (by simp; omega), show max x.a hi = x.a by omega]
  have hm : s.mss = m.mss := h.cf.2.2.2.2.2.2.2
  unfold nhOk nhSkip
  rw [en, hm]
  unfold HN.ho
  simp only
  rw [less_b (u := s.una) (x := max x.a hi) (y := x.e) (by omega) (by omega)]
  by_cases c : max x.a hi < x.e
  · rw [if_pos (decide_eq_true c), if_pos c]
    have e1 : ((s.una + (x.e : Int)) % 4294967296 - (s.una + ((max x.a hi : Nat) : Int)) % 4294967296) % 4294967296 = (x.e : Int) - ((max x.a hi : Nat) : Int) := by omega
    rw [e1]
  · rw [if_neg (show ¬ decide (max x.a hi < x.e) = true from by simpa using c), if_neg c]
theorem find_1 {s m : CS} {st : Int} (h : RelS s m st) (hm : Mk m) {hi f : Nat} (hh : m.high - m.una = (hi : Int)) (hf : f ≤ 2147483647) (hhf : hi ≤ f) {ns : Prop} {g l : Nat → Bool} : ∀ (L : List HN) (p : Nat), p ≤ f → Part ns g l f L p →
    ((L.map (HN.ho s.una)).findSome? (nhOk s true) = none → ∀ q, p ≤ q → hi ≤ q → q < f → ¬ (g q = false ∧ l q = true)) ∧
    (∀ gr, (L.map (HN.ho s.una)).findSome? (nhOk s true) = some gr → ∃ q n : Nat, p ≤ q ∧ hi ≤ q ∧ q < f ∧ g q = false ∧ l q = true ∧ (∀ j, p ≤ j → hi ≤ j → j < q → ¬ (g j = false ∧ l j = true)) ∧ RunR g l f q m.mss n ∧ gr = ⟨2, (s.una + (q : Int)) % 4294967296, (n : Int)⟩)
  | [], p, hp, hL => ⟨fun _ q h1 _ h3 h4 => (by have := hL q h1 h3; rw [h4.1] at this; cases this), fun gr h1 => by cases h1⟩
  | x :: r, p, hp, ⟨h1, h2, h3, h4, h5, h7, h8, h9, h10, h6⟩ => by
    obtain ⟨ih1, ih2⟩ := find_1 h hm hh hf hhf r x.e h4 h6
    have hms := hm.mss
    rw [List.map_cons, List.findSome?_cons, nhOk_ho h hh hf hhf ⟨h3, h4⟩]
    by_cases c : x.lost = true ∧ max x.a hi < x.e
    · have e0 : ((x.lost != true) || (!true && x.tail)) = false := by rw [c.1]; rfl
      rw [if_neg (by rw [e0]; decide), if_pos c.2]
      refine ⟨fun h => (by simp at h), fun gr h11 => ?_⟩
      simp only [Option.some.injEq] at h11
      obtain ⟨n, hn⟩ : ∃ n : Nat, (n : Int) = min m.mss ((x.e : Int) - ((max x.a hi : Nat) : Int)) := ⟨(min m.mss ((x.e : Int) - ((max x.a hi : Nat) : Int))).toNat, by omega⟩
      have hq := h5 (max x.a hi) (by omega) c.2
      refine ⟨max x.a hi, n, by omega, by omega, by omega, hq.1, by rw [hq.2, c.1], fun j j1 j2 j3 j4 => ?_, run_hole (a := x.a) (e := x.e) (by omega) (by omega) c.2 h4 h5 h7 hn, by rw [← h11, hn]⟩
      by_cases cj : j < x.a
      · have := h2 j j1 cj; rw [j4.1] at this; cases this
      · omega
    · have hnx : (if ((x.lost != true) || (!true && x.tail)) = true then none else if max x.a hi < x.e then some (⟨2, (s.una + ((max x.a hi : Nat) : Int)) % 4294967296, min m.mss ((x.e : Int) - ((max x.a hi : Nat) : Int))⟩ : Gr) else none) = none := by
        split
        · rfl
        · rename_i hl
          have : x.lost = true := by cases hx : x.lost <;> simp [hx] at hl ⊢
          rw [if_neg fun c2 => c ⟨this, c2⟩]
      rw [hnx]
      have hskip : ∀ j, p ≤ j → hi ≤ j → j < x.e → ¬ (g j = false ∧ l j = true) := fun j j1 j2 j3 j4 => by
        by_cases cj : j < x.a
        · have := h2 j j1 cj; rw [j4.1] at this; cases this
        · have := h5 j (by omega) j3
          rw [j4.2] at this
          exact c ⟨this.2.symm, by omega⟩
      refine ⟨fun h11 q q1 q2 q3 => ?_, fun gr h11 => ?_⟩
      · by_cases cq : q < x.e
        · exact hskip q q1 q2 cq
        · exact ih1 h11 q (by omega) q2 q3
      · obtain ⟨q, n, b1, b2, b3, b4, b5, b6, b7⟩ := ih2 gr h11
        refine ⟨q, n, by omega, b2, b3, b4, b5, fun j j1 j2 j3 => ?_, b7⟩
        by_cases cj : j < x.e
        · exact hskip j j1 j2 cj
        · exact b6 j (by omega) j2 j3
theorem find_3 {s m : CS} {st : Int} (h : RelS s m st) (hm : Mk m) {hi f : Nat} (hh : m.high - m.una = (hi : Int)) (hf : f ≤ 2147483647) (hhf : hi ≤ f) {ns : Prop} {g l : Nat → Bool} (hno : ∀ q, hi ≤ q → q < f → ¬ (g q = false ∧ l q = true)) : ∀ (L : List HN) (p : Nat), p ≤ f → Part ns g l f L p →
    ((L.map (HN.ho s.una)).findSome? (nhOk s false) = none → ∀ q t, p ≤ q → hi ≤ q → q < t → t < f → g t = true → g q = true) ∧
    (∀ gr, (L.map (HN.ho s.una)).findSome? (nhOk s false) = some gr → ∃ q n t : Nat, p ≤ q ∧ hi ≤ q ∧ q < t ∧ t < f ∧ g t = true ∧ g q = false ∧ (∀ j, p ≤ j → hi ≤ j → j < q → g j = true) ∧ RunR g l f q m.mss n ∧ gr = ⟨2, (s.una + (q : Int)) % 4294967296, (n : Int)⟩)
  | [], p, hp, hL => ⟨fun _ q t h1 _ h3 h4 _ => hL q h1 (by omega), fun gr h1 => by cases h1⟩
  | x :: r, p, hp, ⟨h1, h2, h3, h4, h5, h7, h8, h9, h10, h6⟩ => by
    obtain ⟨ih1, ih2⟩ := find_3 h hm hh hf hhf hno r x.e h4 h6
    have hms := hm.mss
    rw [List.map_cons, List.findSome?_cons, nhOk_ho h hh hf hhf ⟨h3, h4⟩]
    by_cases c : max x.a hi < x.e
    · have hq := h5 (max x.a hi) (by omega) c
      have hl : x.lost = false := by
        cases hx : x.lost with
        | false => rfl
        | true => exact absurd ⟨hq.1, by rw [hq.2, hx]⟩ (hno _ (by omega) (by omega))
      cases ht : x.tail with
      | true =>
        have e0 : ((x.lost != false) || (!false && true)) = true := by rw [hl]; rfl
        rw [if_pos e0]
        have htl := h8 ht
        refine ⟨fun h11 q t q1 q2 q3 q4 q5 => ?_, fun gr h11 => ?_⟩
        · by_cases cx : x.a ≤ t
          · have := htl t cx q4; rw [q5] at this; cases this
          · exact h2 q q1 (by omega)
        · obtain ⟨q, n, t, b1, b2, b3, b4, b5, _⟩ := ih2 gr h11
          have := htl t (by omega) b4
          rw [b5] at this; cases this
      | false =>
        have e0 : ((x.lost != false) || (!false && false)) = false := by rw [hl]; rfl
        rw [if_neg (by rw [e0]; decide), if_pos c]
        refine ⟨fun h => (by simp at h), fun gr h11 => ?_⟩
        simp only [Option.some.injEq] at h11
        obtain ⟨n, hn⟩ : ∃ n : Nat, (n : Int) = min m.mss ((x.e : Int) - ((max x.a hi : Nat) : Int)) := ⟨(min m.mss ((x.e : Int) - ((max x.a hi : Nat) : Int))).toNat, by omega⟩
        obtain ⟨t, t1, t2, t3⟩ := h9 ht
        refine ⟨max x.a hi, n, t, by omega, by omega, by omega, t2, t3, hq.1, fun j j1 j2 j3 => ?_, run_hole (a := x.a) (e := x.e) (by omega) (by omega) c h4 h5 h7 hn, by rw [← h11, hn]⟩
        by_cases cj : j < x.a
        · exact h2 j j1 cj
        · omega
    · have hnx : (if ((x.lost != false) || (!false && x.tail)) = true then none else if max x.a hi < x.e then some (⟨2, (s.una + ((max x.a hi : Nat) : Int)) % 4294967296, min m.mss ((x.e : Int) - ((max x.a hi : Nat) : Int))⟩ : Gr) else none) = none := by
        rw [if_neg c]; split <;> rfl
      rw [hnx]
      refine ⟨fun h11 q t q1 q2 q3 q4 q5 => ?_, fun gr h11 => ?_⟩
      · by_cases cq : q < x.a
        · exact h2 q q1 cq
        · exact ih1 h11 q t (by omega) q2 q3 q4 q5
      · obtain ⟨q, n, t, b1, b2, b3, b4, b5, b6, b7, b8⟩ := ih2 gr h11
        refine ⟨q, n, t, by omega, b2, b3, b4, b5, b6, fun j j1 j2 j3 => ?_, b8⟩
        by_cases cj : j < x.a
        · exact h2 j j1 cj
        · exact b7 j (by omega) j2 j3
theorem last_part {ns : Prop} (hns : ns) {g l : Nat → Bool} {f : Nat} {mss : Int} (hms : 1 ≤ mss) : ∀ (L : List HN) (p : Nat), Part ns g l f L p → (L = [] ∧ ∀ q, p ≤ q → q < f → g q = true) ∨ ∃ (x : HN) (n : Nat), L.getLast? = some x ∧ x.a < x.e ∧ x.e ≤ f ∧ (n : Int) = min mss ((x.e : Int) - (x.a : Int)) ∧ g (x.e - 1) = false ∧ (∀ j, x.e - 1 < j → j < f → g j = true) ∧ DownR g (x.e - 1) mss n
  | [], p, hL => .inl ⟨rfl, hL⟩
  | x :: r, p, ⟨h1, h2, h3, h4, h5, h7, h8, h9, h10, h6⟩ => by
    rcases last_part hns hms r x.e h6 with ⟨e, ha⟩ | ⟨y, n, b1, b2⟩
    · subst e
      obtain ⟨n, hn⟩ : ∃ n : Nat, (n : Int) = min mss ((x.e : Int) - (x.a : Int)) := ⟨(min mss ((x.e : Int) - (x.a : Int))).toNat, by omega⟩
      refine .inr ⟨x, n, rfl, h3, h4, hn, (h5 _ (by omega) (by omega)).1, fun j j1 j2 => ha j (by omega) j2, by omega, fun i hi => ⟨by omega, (h5 _ (by omega) (by omega)).1⟩, by omega, ?_⟩
      by_cases c : (n : Int) = mss
      · exact .inl c
      · refine .inr fun ⟨k1, k2⟩ => ?_
        rcases h10 hns with h | h
        · omega
        · rw [show x.e - 1 - n = x.a - 1 by omega, h] at k2; cases k2
    · refine .inr ⟨y, n, ?_, b2⟩
      cases r with
      | nil => cases b1
      | cons z r => rw [List.getLast?_cons_cons]; exact b1
theorem rep_same {s m : CS} {st : Int} (h : RelS s m st) (sk : Bool) : repP s (!sk) = true ↔ repM m sk := by
  unfold repP repM
  rw [h.win.2.2.2.2]
  cases sk <;> simp <;> omega
/-- the layer's candidate is one that the model's rules allow -/
theorem cand_NxR {s m : CS} {st : Int} (h : RelS s m st) (hm : Mk m) {f hi : Nat} (hf : m.nxt - m.una = (f : Int)) (hh : m.high - m.una = (hi : Int)) {os : List Bk} (ho : BInv f os) (hl : os.length ≤ 16) (hU : U s.una) {sk : Bool} (hsk : sk = false → os = []) (fresh : Int) :
    ∃ off, NxR m sk f hi (skG sk os) (lsG m f (skG sk os)) fresh (candP s (!sk) (os.map (Bk.ab s.una)) fresh).k off (candP s (!sk) (os.map (Bk.ab s.una)) fresh).n ∧ (¬ (candP s (!sk) (os.map (Bk.ab s.una)) fresh).k = 0 → (candP s (!sk) (os.map (Bk.ab s.una)) fresh).q = seqM st off) := by
  have hp : s.phase = m.phase := h.win.2.2.2.2
  have h1 := hm.high; have h2 := hm.fl; have hms := hm.mss; have hu := hm.una
  have hfl := h.flight hm
  have hrp := rep_same h sk
  have hpart := holesN_part (m := m) ho fun hp => (h.rec1 (by omega)).2
  have hsame := holesP_same h hm hf ho hl hU
  rw [skG_cov hsk]
  have f1 := find_1 h hm hh (by omega) (by omega) _ 0 (Nat.zero_le _) hpart
  have f3 := fun hno => find_3 h hm hh (f := f) (by omega) (by omega) hno _ 0 (Nat.zero_le _) hpart
  rw [← hsame] at f1
  simp only [← hsame] at f3
  change (nhP s (os.map (Bk.ab s.una)) true = none → _) ∧ (∀ gr, nhP s (os.map (Bk.ab s.una)) true = some gr → _) at f1
  change ∀ _, (nhP s (os.map (Bk.ab s.una)) false = none → _) ∧ (∀ gr, nhP s (os.map (Bk.ab s.una)) false = some gr → _) at f3
  have hseq : ∀ q : Nat, (s.una + (q : Int)) % 4294967296 = seqM st (m.una + (q : Int)) := fun q => by rw [h.una, seq_add]
  have hfr : min (min fresh s.mss) (2147483647 - flightP s) = freshN m f fresh := by unfold freshN; rw [hfl, hf, h.cf.2.2.2.2.2.2.2]
  have main : (repM m sk → ∀ q, hi ≤ q → q < f → ¬ (covB os q = false ∧ lsG m f (covB os) q = true)) → ∃ off, NxR m sk f hi (covB os) (lsG m f (covB os)) fresh (cand1 s (!sk) (os.map (Bk.ab s.una)) fresh).k off (cand1 s (!sk) (os.map (Bk.ab s.una)) fresh).n ∧ (¬ (cand1 s (!sk) (os.map (Bk.ab s.una)) fresh).k = 0 → (cand1 s (!sk) (os.map (Bk.ab s.una)) fresh).q = seqM st off) := fun hno => by
    by_cases c : 0 < freshN m f fresh
    · rw [← cand1_1 (by rw [hfr]; exact c), hfr]
      exact ⟨m.nxt, .inr ⟨hno, .inl ⟨c, rfl, rfl, rfl⟩⟩, fun _ => h.nxt⟩
    · rw [← cand1_2 (by rw [hfr]; omega)]
      by_cases c2 : sk = true ∧ m.phase = 1
      · have hno1 := hno (.inl c2)
        have hns : (!sk) = false := by rw [c2.1]; rfl
        obtain ⟨g1, g2⟩ := f3 hno1
        cases hn : nhP s (os.map (Bk.ab s.una)) false with
        | some gr =>
          obtain ⟨q, n, t, b1, b2, b3, b4, b5, b6, b7, b8, b9⟩ := g2 gr hn
          have e : cand2 s (!sk) (os.map (Bk.ab s.una)) = gr := by rw [← cand2_1 (by rw [hp]; exact c2.2) hns (by rw [hn]; rfl), hn]; rfl
          rw [e, b9]
          exact ⟨m.una + (q : Int), .inr ⟨hno, .inr (.inr ⟨c, c2, .inl ⟨q, n, t, b2, b3, b4, b5, b6, fun j j1 j2 => b7 j (Nat.zero_le _) j1 j2, b8, rfl, rfl, rfl⟩⟩)⟩, fun _ => hseq q⟩
        | none =>
          have hno3 := fun q t => g1 hn q t (Nat.zero_le _)
          rcases last_part (ns := ¬ m.phase = 2) (by omega) hms.1 _ 0 hpart with ⟨e, ha⟩ | ⟨x, n, b1, b2, b3, b4, b5, b6, b7⟩
          · have er : resN s (os.map (Bk.ab s.una)) = 0 := by unfold resN; rw [hsame, e]; show min s.mss ((0 - 0) % 4294967296) = 0; rw [h.cf.2.2.2.2.2.2.2]; omega
            rw [← cand2_3 (by rw [hp]; exact c2.2) hns (by rw [hn]; rfl) (by rw [er]; omega)]
            exact ⟨0, .inr ⟨hno, .inr (.inr ⟨c, c2, .inr ⟨hno3, .inr ⟨.inr fun q hq => ha q (Nat.zero_le _) hq, rfl, rfl, rfl⟩⟩⟩)⟩, fun h9 => absurd rfl h9⟩
          · have elast : lastH (holesP s (os.map (Bk.ab s.una))) = x.ho s.una := by unfold lastH; rw [hsame, List.getLast?_map, b1]; rfl
            have er : resN s (os.map (Bk.ab s.una)) = (n : Int) := by
              unfold resN; rw [elast, b4, h.cf.2.2.2.2.2.2.2]; unfold HN.ho; simp only; congr 1; omega
            have hn1 : 1 ≤ n := b7.1
            by_cases c3 : s.resc = false
            · rw [← cand2_2 (by rw [hp]; exact c2.2) hns (by rw [hn]; rfl) (by rw [er]; omega) c3]
              unfold resP
              rw [er, elast]
              refine ⟨m.una + ((x.e - 1 : Nat) : Int) - (n : Int) + 1, .inr ⟨hno, .inr (.inr ⟨c, c2, .inr ⟨hno3, .inl ⟨x.e - 1, n, by rw [← h.fl.2.2]; exact c3, by omega, b5, b6, b7, rfl, rfl, rfl⟩⟩⟩)⟩, fun _ => ?_⟩
              unfold HN.ho
              simp only
              rw [hseq x.e]
              unfold seqM
              omega
            · rw [← cand2_3 (by rw [hp]; exact c2.2) hns (by rw [hn]; rfl) (fun h9 => c3 h9.2)]
              exact ⟨0, .inr ⟨hno, .inr (.inr ⟨c, c2, .inr ⟨hno3, .inr ⟨.inl (by rw [← h.fl.2.2]; cases hq : s.resc with | false => exact absurd hq c3 | true => rfl), rfl, rfl, rfl⟩⟩⟩)⟩, fun h9 => absurd rfl h9⟩
      · have e : cand2 s (!sk) (os.map (Bk.ab s.una)) = g0 := by
          unfold cand2
          rw [if_neg]
          rintro ⟨d1, d2⟩
          refine c2 ⟨by cases sk <;> simp_all, by rw [← hp]; exact d1⟩
        rw [e]
        exact ⟨0, .inr ⟨hno, .inr (.inl ⟨c, c2, rfl, rfl, rfl⟩)⟩, fun h9 => absurd rfl h9⟩
  by_cases c : repM m sk
  · cases hn : nhP s (os.map (Bk.ab s.una)) true with
    | some gr =>
      obtain ⟨q, n, b1, b2, b3, b4, b5, b6, b7, b8⟩ := f1.2 gr hn
      have e : candP s (!sk) (os.map (Bk.ab s.una)) fresh = gr := by rw [← candP_1 (hrp.2 c) (by rw [hn]; rfl), hn]; rfl
      rw [e, b8]
      exact ⟨m.una + (q : Int), .inl ⟨q, n, c, b2, b3, b4, b5, fun j j1 j2 => b6 j (Nat.zero_le _) j1 j2, b7, rfl, rfl, rfl⟩, fun _ => hseq q⟩
    | none =>
      rw [← candP_2 (hrp.2 c) (by rw [hn]; rfl)]
      exact main fun _ q => f1.1 hn q (Nat.zero_le _)
  · have hrf : repP s (!sk) = false := by
      cases hq : repP s (!sk) with
      | false => rfl
      | true => exact absurd (hrp.1 hq) c
    rw [← candP_3 hrf]
    exact main fun hc => absurd hc c
/-- the same answer, where the flight is walked -/
theorem next_same_w {s m : CS} {st : Int} (h : RelS s m st) (hm : Mk m) {f hi : Nat} (hf : m.nxt - m.una = (f : Int)) (hh : m.high - m.una = (hi : Int)) {os : List Bk} (ho : BInv f os) (hl : os.length ≤ 16) (hU : U s.una) {sk : Bool} (hsk : sk = false → os = []) (hwk : sk = true ∨ m.phase = 2) {fresh k off n : Int} (hfr : 0 ≤ fresh) (hN : NwR m sk os f hi fresh k off n) :
    (nextP s (!sk) (os.map (Bk.ab s.una)) fresh).k = k ∧ (nextP s (!sk) (os.map (Bk.ab s.una)) fresh).n = n ∧ (¬ k = 0 → (nextP s (!sk) (os.map (Bk.ab s.una)) fresh).q = seqM st off) := by
  have hfl := h.flight hm
  have hpp := (pipeP_same h hm hf ho hl hU hsk).1 hwk
  unfold nextP
  rw [h.fl.1, hpp, h.win.1]
  rcases hN with ⟨h1, rfl, rfl, rfl⟩ | ⟨h1, k', off', n', h2, h3⟩
  · rw [if_pos h1]
    refine ⟨rfl, ?_, fun _ => h.una⟩
    show min s.mss (flightP s) = _
    rw [hfl, h.cf.2.2.2.2.2.2.2]
  · rw [if_neg (by rw [h1]; decide)]
    obtain ⟨off2, h4, h5⟩ := cand_NxR h hm hf hh ho hl hU hsk fresh
    obtain ⟨e1, e2, e3⟩ := nxR_fun h4 h2
    have hn0 := h2.rng hm hfr
    rw [e2] at h5
    rcases h3 with ⟨c, rfl, rfl, rfl⟩ | ⟨c, rfl, rfl, rfl⟩
    · rw [if_pos (by omega)]
      exact ⟨rfl, rfl, fun h9 => absurd rfl h9⟩
    · rw [if_neg (by omega)]
      exact ⟨e1, e3, fun h9 => h5 (by rw [e1]; exact h9)⟩
/-- and where it is not -/
theorem next_same_n {s m : CS} {st : Int} (h : RelS s m st) (hm : Mk m) {f : Nat} (hf : m.nxt - m.una = (f : Int)) {os : List Bk} (ho : BInv f os) (hl : os.length ≤ 16) (hU : U s.una) {sk : Bool} (hsk : sk = false → os = []) (hwk : sk = false ∧ ¬ m.phase = 2) {fresh k off n : Int} (hN : NnR m fresh k off n) :
    (nextP s (!sk) (os.map (Bk.ab s.una)) fresh).k = k ∧ (nextP s (!sk) (os.map (Bk.ab s.una)) fresh).n = n ∧ (¬ k = 0 → (nextP s (!sk) (os.map (Bk.ab s.una)) fresh).q = seqM st off) := by
  have hp : s.phase = m.phase := h.win.2.2.2.2
  have hfl := h.flight hm
  have hpp := (pipeP_same h hm hf ho hl hU hsk).2 hwk
  have hrf : repP s (!sk) = false := by
    cases hq : repP s (!sk) with
    | false => rfl
    | true =>
      rcases (rep_same h sk).1 hq with h9 | h9
      · rw [hwk.1] at h9; cases h9.1
      · exact absurd h9 hwk.2
  have e2 : cand2 s (!sk) (os.map (Bk.ab s.una)) = g0 := by
    unfold cand2
    rw [if_neg]
    rintro ⟨_, d2⟩
    rw [hwk.1] at d2; cases d2
  unfold nextP
  rw [h.fl.1, hpp, h.win.1, ← candP_3 hrf]
  unfold cand1
  rw [e2, hfl, h.cf.2.2.2.2.2.2.2]
  rcases hN with ⟨h1, rfl, rfl, rfl⟩ | ⟨h1, k', off', n', h2, h3⟩
  · rw [if_pos h1]
    exact ⟨rfl, rfl, fun _ => h.una⟩
  · rw [if_neg (by rw [h1]; decide)]
    rcases h2 with ⟨d1, rfl, rfl, rfl⟩ | ⟨d1, rfl, rfl, rfl⟩
    · rw [if_pos d1]
      simp only
      rcases h3 with ⟨c, rfl, rfl, rfl⟩ | ⟨c, rfl, rfl, rfl⟩
      · rw [if_pos (by omega)]
        exact ⟨rfl, rfl, fun h9 => absurd rfl h9⟩
      · rw [if_neg (by omega)]
        exact ⟨rfl, rfl, fun _ => h.nxt⟩
    · rw [if_neg d1]
      have : g0.n = 0 := rfl
      rw [this]
      rcases h3 with ⟨c, rfl, rfl, rfl⟩ | ⟨c, rfl, rfl, rfl⟩
      · rw [if_pos (by omega)]
        exact ⟨rfl, rfl, fun h9 => absurd rfl h9⟩
      · rw [if_neg (by omega)]
        exact ⟨rfl, rfl, fun h9 => absurd rfl h9⟩

end Go.Proofs.Qxb6500912aGreatDoor

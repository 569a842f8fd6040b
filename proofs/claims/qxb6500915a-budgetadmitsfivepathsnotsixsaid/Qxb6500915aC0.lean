import Derived.Test.Qxb6500915aB6
namespace Go.Proofs.Qxb6500915a
open Go.Eng
set_option linter.unusedVariables false
set_option linter.unusedSimpArgs false

def twB (oc num : List Int) (pl : Int) (i j : Nat) (p q : Nat × Nat) : Bool := decide (cmp2 p.1 p.2 q.1 q.2 = 0) || (prvP oc num pl i p && prvP oc num pl j q)
def pkN (body : List (Nat × Nat)) (K : List Int) (c : Core) : Nat → Option (List Nat)
  | 0 => some []
  | n + 1 => match pkN body K c n with
    | none => none
    | some l => match body[n]? with
      | none => none
      | some p => if bitsOf .and .u64 c.1 (sh64 n) = 0 then (if cmpP (rd2 c p) K < 0 then none else if cmpP (rd2 c p) K = 0 then some (l ++ [n]) else some l) else some l
def twG (body : List (Nat × Nat)) (oc : List Int) (c : Core) (l : List Nat) (q : Nat) (b : Nat × Nat) : Nat → Bool
  | 0 => false
  | t + 1 => match l[t]? with
    | none => false
    | some r => match body[r]? with
      | some a => if twB oc c.2.1 c.1 r q a b then true else twG body oc c l q b t
      | none => false
def flG (body : List (Nat × Nat)) (oc : List Int) (c : Core) (l : List Nat) : Nat → List Core
  | 0 => []
  | k + 1 => match l[k]? with
    | some q => match body[q]? with
      | some b => if twG body oc c l q b k then flG body oc c l k else flG body oc c l k ++ [newC c q b]
      | none => flG body oc c l k
    | none => flG body oc c l k
def digs : Nat → Nat → List Int
  | 0, _ => []
  | n + 1, s => (if s % 32 = 31 then (-1 : Int) else ((s % 32 : Nat) : Int)) :: digs n (s / 32)
def dec (vs s : Nat) : Core := (((s % 4096 : Nat) : Int), digs vs (s / 131072), ((s / 4096 % 32 : Nat) : Int))
def tk (vs : Nat) : List Core → List Nat → Option (List Nat)
  | [], T => some T
  | _ :: _, [] => none
  | c :: cs, t :: T => if c = dec vs t then tk vs cs T else none
def chk (body : List (Nat × Nat)) (oc : List Int) (vs n : Nat) (K : List Int) : List Nat → List Nat → Bool
  | [], [] => true
  | [], _ :: _ => false
  | s :: ss, T => match pkN body K (dec vs s) n with
    | none => false
    | some l => match tk vs (flG body oc (dec vs s) l l.length) T with
      | none => false
      | some T' => chk body oc vs n K ss T'
theorem inner_pk {body : List (Nat × Nat)} {K : List Int} {c : Core} {si : Nat} {ps : List (Nat × Nat)} (hps : ps ≠ []) : ∀ (n : Nat) (l : List Nat), pkN body K c n = some l → innerP body n si c (K, ps) = (K, ps ++ l.map (fun q => (si, q)))
  | 0, l, h => by
    injection h with h; subst h
    rw [innerP_zero]; simp
  | n + 1, l, h => by
    unfold pkN at h
    cases h1 : pkN body K c n with
    | none => rw [h1] at h; cases h
    | some l1 =>
      rw [h1] at h
      cases h2 : body[n]? with
      | none => rw [h2] at h; cases h
      | some p =>
        rw [h2] at h
        simp only at h
        rw [innerP_succ _ _ _ _ _ h2, inner_pk hps n l1 h1]
        have hne : ps ++ l1.map (fun q => (si, q)) ≠ [] := by intro e; exact hps (List.append_eq_nil_iff.1 e).1
        by_cases c1 : bitsOf .and .u64 c.1 (sh64 n) = 0
        · rw [if_pos c1] at h
          by_cases c2 : cmpP (rd2 c p) K < 0
          · rw [if_pos c2] at h; cases h
          · rw [if_neg c2] at h
            by_cases c3 : cmpP (rd2 c p) K = 0
            · rw [if_pos c3] at h
              injection h with h; subst h
              rw [ls_eq (acc := (K, ps ++ l1.map (fun q => (si, q)))) c1 hne c3]; simp
            · rw [if_neg c3] at h
              injection h with h; subst h
              rw [ls_gt (acc := (K, ps ++ l1.map (fun q => (si, q)))) c1 hne (by show 0 < cmpP (rd2 c p) K; omega)]
        · rw [if_neg c1] at h
          injection h with h; subst h
          rw [ls_placed c1]
def pk0 : Nat → List (List Nat) → List (Nat × Nat)
  | _, [] => []
  | i, l :: Ls => l.map (fun q => (i, q)) ++ pk0 (i + 1) Ls
def fc (body : List (Nat × Nat)) (oc : List Int) : List Core → List (List Nat) → List Core
  | c :: cs, l :: Ls => flG body oc c l l.length ++ fc body oc cs Ls
  | _, _ => []
/-- each state's choice at the reading K -/
inductive Each (body : List (Nat × Nat)) (n : Nat) (K : List Int) : List Core → List (List Nat) → Prop
  | nil : Each body n K [] []
  | cons {c : Core} {l : List Nat} {cs : List Core} {Ls : List (List Nat)} : pkN body K c n = some l → Each body n K cs Ls → Each body n K (c :: cs) (l :: Ls)
theorem outer_pk {body : List (Nat × Nat)} {n : Nat} {K : List Int} {cs : List Core} : ∀ (rest pre : List Core) (Ls : List (List Nat)) (A : List (Nat × Nat)), Each body n K rest Ls → cs = pre ++ rest → outerP body n cs pre.length = (K, A) → A ≠ [] → outerP body n cs cs.length = (K, A ++ pk0 pre.length Ls)
  | [], pre, Ls, A, hE, he, ho, hA => by
    cases hE
    subst he
    rw [List.append_nil, ← List.append_nil pre] at *
    simp only [List.append_nil] at *
    rw [ho]; simp [pk0]
  | c :: rest, pre, Ls, A, hE, he, ho, hA => by
    cases hE with
    | cons h1 h2 =>
      rename_i l Ls
      have hc : cs[pre.length]? = some c := by rw [he]; simp
      have h3 := outerP_succ body n cs pre.length hc
      rw [ho, inner_pk hA _ _ h1] at h3
      have h4 := outer_pk (cs := cs) rest (pre ++ [c]) Ls _ h2 (by rw [he]; simp) (by rw [List.length_append]; exact h3) (by intro e; exact hA (List.append_eq_nil_iff.1 e).1)
      rw [h4, List.length_append]
      simp [pk0]
theorem tw_group {X : SX} {c : Core} {picks A B : List (Nat × Nat)} {l : List Nat} {m q : Nat} {b : Nat × Nat} (hp : picks = A ++ (l.map (fun q => (m, q)) ++ B)) (hA : ∀ x, x ∈ A → x.1 < m) : ∀ t, t ≤ l.length → twL X c picks (m, q) b (A.length + t) = twG X.body X.oc c l q b t
  | 0, _ => by
    show twL X c picks (m, q) b A.length = false
    cases hl : A.length with
    | zero => rfl
    | succ a =>
      obtain ⟨x, hx⟩ : ∃ x, A[a]? = some x := ⟨_, List.getElem?_eq_getElem (by omega)⟩
      refine twL_ne (r := x) (by rw [hp, List.getElem?_append_left (by omega)]; exact hx) ?_
      have := hA x (List.mem_of_getElem? hx)
      simp only; omega
  | t + 1, ht => by
    obtain ⟨r, hr⟩ : ∃ r, l[t]? = some r := ⟨_, List.getElem?_eq_getElem (by omega)⟩
    have hk : picks[A.length + t]? = some (m, r) := by
      rw [hp, List.getElem?_append_right (by omega), List.getElem?_append_left (by simp; omega), List.getElem?_map, show A.length + t - A.length = t by omega, hr]; rfl
    have ih := tw_group (X := X) (c := c) (q := q) (b := b) hp hA t (by omega)
    rw [← Nat.add_assoc]
    unfold twL twG
    rw [hk, hr]
    simp only [if_true]
    rw [ih]
    rfl
theorem fol_step {X : SX} {cs : List Core} {picks : List (Nat × Nat)} {k m q : Nat} {c : Core} (h1 : picks[k]? = some (m, q)) (h2 : cs[m]? = some c) : followP X cs picks (k + 1) = match X.body[q]? with | some b => if twL X c picks (m, q) b k then followP X cs picks k else followP X cs picks k ++ [newC c q b] | none => followP X cs picks k := by
  conv => lhs; unfold followP
  rw [List.range_succ, List.foldl_append]
  show fstep X cs picks (followP X cs picks k) k = _
  unfold fstep; rw [h1]; simp only [h2]
  cases X.body[q]? <;> rfl
theorem fol_group {X : SX} {cs : List Core} {picks A B : List (Nat × Nat)} {l : List Nat} {m : Nat} {c : Core} (hc : cs[m]? = some c) (hp : picks = A ++ (l.map (fun q => (m, q)) ++ B)) (hA : ∀ x, x ∈ A → x.1 < m) : ∀ t, t ≤ l.length → followP X cs picks (A.length + t) = followP X cs picks A.length ++ flG X.body X.oc c l t
  | 0, _ => by simp [flG]
  | t + 1, ht => by
    obtain ⟨r, hr⟩ : ∃ r, l[t]? = some r := ⟨_, List.getElem?_eq_getElem (by omega)⟩
    have hk : picks[A.length + t]? = some (m, r) := by
      rw [hp, List.getElem?_append_right (by omega), List.getElem?_append_left (by simp; omega), List.getElem?_map, show A.length + t - A.length = t by omega, hr]; rfl
    rw [← Nat.add_assoc, fol_step hk hc, fol_group hc hp hA t (by omega)]
    conv => rhs; unfold flG
    rw [hr]
    simp only
    cases hb : X.body[r]? with
    | none => rfl
    | some b =>
      simp only
      rw [tw_group hp hA t (by omega)]
      split
      · rfl
      · simp
theorem fol_all {X : SX} {K : List Int} {n : Nat} {cs : List Core} {picks : List (Nat × Nat)} : ∀ (rest pre : List Core) (Ls : List (List Nat)) (A : List (Nat × Nat)), Each X.body n K rest Ls → cs = pre ++ rest → picks = A ++ pk0 pre.length Ls → (∀ x, x ∈ A → x.1 < pre.length) → followP X cs picks picks.length = followP X cs picks A.length ++ fc X.body X.oc rest Ls
  | [], pre, Ls, A, hE, he, hp, hA => by
    cases hE
    have : picks.length = A.length := by rw [hp]; simp [pk0]
    rw [this]; simp [fc]
  | c :: rest, pre, Ls, A, hE, he, hp, hA => by
    cases hE with
    | cons h1 h2 =>
      rename_i l Ls
      have hc : cs[pre.length]? = some c := by rw [he]; simp
      have hg := fol_group (X := X) hc (show picks = A ++ (l.map (fun q => (pre.length, q)) ++ pk0 (pre.length + 1) Ls) from hp) hA l.length (Nat.le_refl _)
      have h4 := fol_all (X := X) (cs := cs) (picks := picks) rest (pre ++ [c]) Ls (A ++ l.map (fun q => (pre.length, q))) h2 (by rw [he]; simp) (by rw [hp, List.length_append]; simp [pk0]) (fun x hx => by
        rw [List.length_append]
        rcases List.mem_append.1 hx with h | h
        · have := hA x h; simp only [List.length_singleton]; omega
        · obtain ⟨q, _, rfl⟩ := List.mem_map.1 h; simp)
      rw [h4, List.length_append, List.length_map, hg]
      simp [fc]
def roundP (X : SX) (cs : List Core) : List Core := followP X cs (outerP X.body X.n cs cs.length).2 (outerP X.body X.n cs cs.length).2.length
theorem round_each {X : SX} {K : List Int} {c0 : Core} {cs : List Core} {l0 : List Nat} {Ls : List (List Nat)} (h0 : innerP X.body X.n 0 c0 ([], []) = (K, l0.map (fun q => (0, q)))) (hl : l0 ≠ []) (hE : Each X.body X.n K (c0 :: cs) (l0 :: Ls)) : roundP X (c0 :: cs) = fc X.body X.oc (c0 :: cs) (l0 :: Ls) := by
  have h1 : outerP X.body X.n (c0 :: cs) 1 = (K, l0.map (fun q => (0, q))) := by
    rw [outerP_succ _ _ _ _ (show (c0 :: cs)[0]? = some c0 from rfl), outerP_zero, h0]
  have hE2 := hE
  cases hE2 with
  | cons _ h2 =>
    have h3 := outer_pk (cs := c0 :: cs) cs [c0] Ls _ h2 rfl h1 (fun e => hl (by simpa using e))
    have h4 : outerP X.body X.n (c0 :: cs) (c0 :: cs).length = (K, pk0 0 (l0 :: Ls)) := h3
    unfold roundP
    rw [h4]
    have h5 := fol_all (X := X) (picks := pk0 0 (l0 :: Ls)) (c0 :: cs) [] (l0 :: Ls) [] hE rfl rfl (fun x hx => by cases hx)
    exact h5
theorem tk_eq {vs : Nat} : ∀ (cs : List Core) (T T' : List Nat), tk vs cs T = some T' → T.map (dec vs) = cs ++ T'.map (dec vs)
  | [], T, T', h => by injection h with h; subst h; rfl
  | _ :: _, [], T', h => by cases h
  | c :: cs, t :: T, T', h => by
    unfold tk at h
    split at h
    · rename_i e
      rw [List.map_cons, ← e, tk_eq cs T T' h]; rfl
    · cases h
theorem chk_each {body : List (Nat × Nat)} {oc : List Int} {vs n : Nat} {K : List Int} : ∀ (Ns Ts : List Nat), chk body oc vs n K Ns Ts = true → ∃ Ls, Each body n K (Ns.map (dec vs)) Ls ∧ fc body oc (Ns.map (dec vs)) Ls = Ts.map (dec vs)
  | [], [], _ => ⟨[], .nil, rfl⟩
  | [], _ :: _, h => by cases h
  | s :: ss, T, h => by
    unfold chk at h
    cases h1 : pkN body K (dec vs s) n with
    | none => rw [h1] at h; cases h
    | some l =>
      rw [h1] at h
      simp only at h
      cases h2 : tk vs (flG body oc (dec vs s) l l.length) T with
      | none => rw [h2] at h; cases h
      | some T' =>
        rw [h2] at h
        simp only at h
        obtain ⟨Ls, h3, h4⟩ := chk_each ss T' h
        refine ⟨l :: Ls, .cons h1 h3, ?_⟩
        rw [tk_eq _ _ _ h2, ← h4]; rfl
/-- one round, checked on packed states -/
def chkR (body : List (Nat × Nat)) (oc : List Int) (vs n : Nat) (K : List Int) (Ns Ts : List Nat) : Bool :=
  match Ns with
  | [] => false
  | s :: _ => match pkN body K (dec vs s) n with
    | none => false
    | some l => decide (innerP body n 0 (dec vs s) ([], []) = (K, l.map (fun q => (0, q)))) && (decide (l ≠ []) && chk body oc vs n K Ns Ts)
theorem chkR_round {X : SX} {body : List (Nat × Nat)} {oc : List Int} {vs n : Nat} {K : List Int} {Ns Ts : List Nat} (h : chkR body oc vs n K Ns Ts = true) (hb : X.body = body) (ho : X.oc = oc) (hn : X.n = n) : roundP X (Ns.map (dec vs)) = Ts.map (dec vs) := by
  subst hb; subst ho; subst hn
  unfold chkR at h
  cases Ns with
  | nil => cases h
  | cons s ss =>
    simp only at h
    cases h1 : pkN X.body K (dec vs s) X.n with
    | none => rw [h1] at h; cases h
    | some l =>
      rw [h1] at h
      simp only [Bool.and_eq_true, decide_eq_true_eq] at h
      obtain ⟨h2, h3, h4⟩ := h
      obtain ⟨Ls, h5, h6⟩ := chk_each _ _ h4
      cases h5 with
      | cons h7 h8 =>
        rw [h1] at h7
        injection h7 with h7
        subst h7
        rw [← h6]
        exact round_each h2 h3 (.cons h1 h8)
/-- the code of a search -/
def codeP (X : SX) : Nat → List Core → Int
  | 0, _ => 0
  | r + 1, cs => if 1024 < (roundP X cs).length then 6 else codeP X r (roundP X cs)
theorem inner_ok {body : List (Nat × Nat)} {si : Nat} {c : Core} {acc : Acc} {m N : Nat} (hm : si < m) (ha : ∀ q, q ∈ acc.2 → q.1 < m ∧ q.2 < N) : ∀ n, n ≤ N → n ≤ body.length → (∀ q, q ∈ (innerP body n si c acc).2 → q.1 < m ∧ q.2 < N) ∧ (innerP body n si c acc).2.length ≤ acc.2.length + n
  | 0, _, _ => ⟨ha, Nat.le_refl _⟩
  | n + 1, hn, hb => by
    obtain ⟨h1, h2⟩ := inner_ok (body := body) (c := c) hm ha n (by omega) (by omega)
    obtain ⟨p, hp⟩ : ∃ p, body[n]? = some p := ⟨_, List.getElem?_eq_getElem (by omega)⟩
    rw [innerP_succ _ _ _ _ _ hp]
    have hs : ∀ q, q ∈ [(si, n)] → q.1 < m ∧ q.2 < N := fun q hq => by rw [List.mem_singleton] at hq; subst hq; exact ⟨hm, hn⟩
    unfold lstep
    split
    · split
      · exact ⟨hs, by simp only [List.length_singleton]; omega⟩
      · split
        · exact ⟨hs, by simp only [List.length_singleton]; omega⟩
        · split
          · exact ⟨fun q hq => (List.mem_append.1 hq).elim (h1 q) (hs q), by simp only [List.length_append, List.length_singleton]; omega⟩
          · exact ⟨h1, by omega⟩
    · exact ⟨h1, by omega⟩
theorem outer_ok {body : List (Nat × Nat)} {cs : List Core} {n : Nat} (hb : body.length = n) : ∀ m, m ≤ cs.length → (∀ q, q ∈ (outerP body n cs m).2 → q.1 < m ∧ q.2 < n) ∧ (outerP body n cs m).2.length ≤ m * n
  | 0, _ => ⟨fun q hq => (by rw [outerP_zero] at hq; cases hq), Nat.zero_le _⟩
  | m + 1, hm => by
    obtain ⟨h1, h2⟩ := outer_ok (cs := cs) hb m (by omega)
    obtain ⟨c, hc⟩ : ∃ c, cs[m]? = some c := ⟨_, List.getElem?_eq_getElem (by omega)⟩
    rw [outerP_succ _ _ _ _ hc]
    obtain ⟨h3, h4⟩ := inner_ok (body := body) (si := m) (c := c) (acc := outerP body n cs m) (m := m + 1) (N := n) (by omega) (fun q hq => ⟨by have := (h1 q hq).1; omega, (h1 q hq).2⟩) n (Nat.le_refl _) (by omega)
    exact ⟨h3, by rw [Nat.succ_mul]; omega⟩
/-- no round is empty -/
def okP (X : SX) : Nat → List Core → Prop
  | 0, _ => True
  | r + 1, cs => roundP X cs ≠ [] ∧ (¬ 1024 < (roundP X cs).length → okP X r (roundP X cs))

end Go.Proofs.Qxb6500915a

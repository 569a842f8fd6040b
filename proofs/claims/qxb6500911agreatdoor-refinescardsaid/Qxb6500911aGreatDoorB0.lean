import Derived.Test.Qxb6500911aGreatDoorA24
namespace Go.Proofs.Qxb6500911aGreatDoor
open Go.Eng
set_option linter.unusedVariables false
set_option linter.unusedSimpArgs false

/-! ## what a shard has got, counted -/
def floS (f : Nat → Int) (m : Ms) : Nat → Int := if m.k = 3 then updI f m.w0.toNat (max (f m.w0.toNat) (m.w1 + 1)) else f
def floF (l : List Ms) : Nat → Int := l.foldl floS (fun _ => 0)
theorem floF_snoc (l : List Ms) (m : Ms) : floF (l ++ [m]) = floS (floF l) m := by unfold floF; rw [List.foldl_append]; rfl
theorem flo_take {l : List Ms} {i : Nat} {m : Ms} (h : l[i]? = some m) : floF (l.take (i + 1)) = floS (floF (l.take i)) m := by
  rw [List.take_add_one, h]; exact floF_snoc _ _
def updG (f : Nat → List Ms) (i : Nat) (v : List Ms) : Nat → List Ms := fun j => if j = i then v else f j
theorem updG_self (f : Nat → List Ms) (i : Nat) (v : List Ms) : updG f i v i = v := if_pos rfl
theorem updG_ne (f : Nat → List Ms) {i j : Nat} (v : List Ms) (h : j ≠ i) : updG f i v j = f j := if_neg h
/-- a list of messages for one core -/
def MsOk (Q : Int) (c : Nat) (l : List Ms) : Prop := ∀ m, m ∈ l → ∃ fr u, fr < 4 ∧ UpOk Q u ∧ u.w % 4 = c ∧ m = upMs fr u
theorem MsOk.mono {Q Q' : Int} {c : Nat} {l : List Ms} (h : MsOk Q c l) (hq : Q ≤ Q') : MsOk Q' c l := fun m hm => by
  obtain ⟨fr, u, h1, h2, h3, h4⟩ := h m hm
  exact ⟨fr, u, h1, ⟨h2.w, ⟨h2.e.1, Int.le_trans h2.e.2 hq⟩, h2.k, h2.s⟩, h3, h4⟩
theorem MsOk.take {Q : Int} {c : Nat} {l : List Ms} (h : MsOk Q c l) (i : Nat) : MsOk Q c (l.take i) := fun m hm => h m (List.mem_of_mem_take hm)
theorem flo_bd {Q : Int} (hQ : 0 ≤ Q) {c : Nat} : ∀ (l : List Ms), MsOk Q c l → ∀ (f : Nat → Int), (∀ t, 0 ≤ f t ∧ f t ≤ Q + 1) → ∀ t, 0 ≤ (l.foldl floS f) t ∧ (l.foldl floS f) t ≤ Q + 1
  | [], _, f, hf, t => hf t
  | m :: l, h, f, hf, t => by
    rw [List.foldl_cons]
    refine flo_bd hQ l (fun x hx => h x (.tail _ hx)) _ (fun s => ?_) t
    obtain ⟨fr, u, _, hu, _, rfl⟩ := h m (.head _)
    have he := hu.e
    unfold floS
    split
    · unfold updI
      split
      · rename_i cs; have := hf (upMs fr u).w0.toNat
        simp only [upMs] at this ⊢; omega
      · exact hf s
    · exact hf s
theorem floF_bd {Q : Int} (hQ : 0 ≤ Q) {c : Nat} {l : List Ms} (h : MsOk Q c l) (t : Nat) : 0 ≤ floF l t ∧ floF l t ≤ Q + 1 := flo_bd hQ l h _ (fun _ => ⟨Int.le_refl _, by omega⟩) t
theorem flo_other {Q : Int} {c t : Nat} (ht : t % 4 ≠ c) : ∀ (l : List Ms), MsOk Q c l → ∀ (f : Nat → Int), f t = 0 → (l.foldl floS f) t = 0
  | [], _, f, hf => hf
  | m :: l, h, f, hf => by
    rw [List.foldl_cons]
    refine flo_other ht l (fun x hx => h x (.tail _ hx)) _ ?_
    obtain ⟨fr, u, _, hu, hc, rfl⟩ := h m (.head _)
    unfold floS
    split
    · unfold updI
      rw [if_neg (fun e => ht (by simp only [upMs] at e; omega))]; exact hf
    · exact hf
theorem uL_other {Q : Int} {c t : Nat} (ht : t % 4 ≠ c) (e : Int) (h : Nat) {l : List Ms} (hl : MsOk Q c l) : uL t e h l = 0 := uL_zero fun m hm => by
  obtain ⟨fr, u, _, hu, hc, rfl⟩ := hl m hm
  rw [cM_up hu]
  exact cU_other (fun e => ht (by omega)) _ _
theorem flo_up (f : Nat → Int) (fr : Nat) (u : Up) (t : Nat) : floS f (upMs fr u) t = if u.k = 3 ∧ t = u.w then max (f u.w) (u.e + 1) else f t := by
  unfold floS
  by_cases c : u.k = 3
  · rw [if_pos (show (upMs fr u).k = 3 from c)]
    show updI f ((u.w : Int).toNat) (max (f ((u.w : Int).toNat)) (u.e + 1)) t = _
    rw [Int.toNat_natCast]
    unfold updI
    by_cases c2 : t = u.w
    · rw [if_pos c2, if_pos ⟨c, c2⟩]
    · rw [if_neg c2, if_neg (fun x => c2 x.2)]
  · rw [if_neg (show ¬ (upMs fr u).k = 3 from c), if_neg (fun x => c x.1)]
structure GotOk (Q : Int) (flr : Nat → Int) (ws : Nat → List Wt) (got : Nat → List Ms) : Prop where
  ms : ∀ c, c < 4 → MsOk Q c (got c)
  fl : ∀ t, t < 16 → flr t = floF (got (t % 4)) t
  nt : ∀ t, t < 16 → ∀ e h, nt (ws t) e h = if e < flr t then 0 else uL t e h (got (t % 4))
theorem GotOk.mono {Q Q' : Int} {flr : Nat → Int} {ws : Nat → List Wt} {got : Nat → List Ms} (h : GotOk Q flr ws got) (hq : Q ≤ Q') : GotOk Q' flr ws got := ⟨fun c hc => (h.ms c hc).mono hq, h.fl, h.nt⟩
theorem GotOk.flK {Q : Int} {flr : Nat → Int} {ws : Nat → List Wt} {got : Nat → List Ms} (h : GotOk Q flr ws got) {c q : Nat} (hc : c < 4) (hq : q < 16) : floF (got c) q = Qxb6500911aGreatDoor.flK flr c q := by
  unfold Qxb6500911aGreatDoor.flK
  split
  · rename_i e; rw [h.fl q hq, e]
  · rename_i e; exact flo_other e _ (h.ms c hc) _ rfl
theorem GotOk.add {Q : Int} {flr : Nat → Int} {ws : Nat → List Wt} {got : Nat → List Ms} {u : Up} {fr : Nat} (h : GotOk Q flr ws got) (hu : UpOk Q u) (hf : fr < 4) (hok : WsOk (ws u.w) (flr u.w)) :
    GotOk Q (updI flr u.w (apF u.k (flr u.w) u.e)) (updW ws u.w (apL u.k (flr u.w) (ws u.w) u.e u.s)) (updG got (u.w % 4) (got (u.w % 4) ++ [upMs fr u])) := by
  have hw := hu.w
  refine ⟨fun c hc m hm => ?_, fun t ht => ?_, fun t ht e k => ?_⟩
  · by_cases cc : c = u.w % 4
    · rw [cc, updG_self] at hm
      rcases List.mem_append.1 hm with hm | hm
      · rw [cc]; exact h.ms _ (by omega) m hm
      · rw [List.mem_singleton.1 hm]; exact ⟨fr, u, hf, hu, cc.symm, rfl⟩
    · rw [updG_ne _ _ cc] at hm; exact h.ms c hc m hm
  · by_cases ct : t = u.w
    · subst ct
      rw [updG_self, floF_snoc, flo_up, ← h.fl _ ht]
      unfold updI apF
      rw [if_pos rfl]
      by_cases c3 : u.k = 3
      · rw [if_pos (show u.k = 3 ∧ u.w = u.w from ⟨c3, rfl⟩)]
        by_cases c4 : flr u.w ≤ u.e
        · rw [if_pos ⟨c3, c4⟩]; omega
        · rw [if_neg (fun x => c4 x.2)]; omega
      · rw [if_neg (fun x => c3 x.1), if_neg (fun x => c3 x.1)]
    · have hl : floF (updG got (u.w % 4) (got (u.w % 4) ++ [upMs fr u]) (t % 4)) t = floF (got (t % 4)) t := by
        by_cases cc : t % 4 = u.w % 4
        · rw [cc, updG_self, floF_snoc, flo_up, if_neg (fun x => ct x.2)]
        · rw [updG_ne _ _ cc]
      rw [hl, updI, if_neg ct]; exact h.fl t ht
  · by_cases ct : t = u.w
    · subst ct
      rw [updG_self, uL_append, uL_cons, cM_up hu]
      simp only [updI, updW, if_true]
      have h0 := h.nt u.w ht e k
      have hu0 : uL u.w e k [] = 0 := rfl
      rw [hu0]
      rcases hu.k with ⟨k3, s0⟩ | ⟨k12, s0⟩
      · have hc : cU u u.w e k = 0 := by unfold cU; rw [k3]; simp
        rw [hc, k3]
        unfold apF apL
        simp only [true_and]
        rw [if_neg (by omega), if_neg (by omega)]
        by_cases c4 : flr u.w ≤ u.e
        · rw [if_pos c4, if_pos c4, end_nt, h0]
          by_cases c5 : e ≤ u.e
          · rw [if_pos c5, if_pos (by omega)]
          · rw [if_neg c5, if_neg (by omega), if_neg (by omega)]; omega
        · rw [if_neg c4, if_neg c4, h0]
          split <;> omega
      · have key : ∀ d : Int, (u.k = 1 ∧ d = 1) ∨ (u.k = 2 ∧ d = -1) → Qxb6500911aGreatDoor.nt (adjS (flr u.w) (ws u.w) u.e u.s d) e k = if e < flr u.w then 0 else uL u.w e k (got (u.w % 4)) + (cU u u.w e k + 0) := by
          intro d hd
          have hc : cU u u.w e k = if u.e = e ∧ u.s.getLsbD k = true then d else 0 := by
            unfold cU
            simp only [true_and]
            split
            · rcases hd with ⟨h1, h2⟩ | ⟨h1, h2⟩ <;> rw [h1, h2] <;> simp
            · rfl
          rw [hc]
          unfold adjS
          by_cases c4 : u.e < flr u.w
          · rw [if_pos (.inl c4), h0]
            by_cases c5 : e < flr u.w
            · rw [if_pos c5, if_pos c5]
            · rw [if_neg c5, if_neg c5, if_neg (fun x => by omega)]; omega
          · rw [if_neg (fun x => x.elim c4 s0), adj_nt hok, h0]
            by_cases c5 : e < flr u.w
            · rw [if_pos c5, if_pos c5, if_neg (fun x => by omega)]; rfl
            · rw [if_neg c5, if_neg c5]
              by_cases c6 : e = u.e ∧ u.s.getLsbD k = true
              · rw [if_pos c6, if_pos ⟨c6.1.symm, c6.2⟩]; omega
              · rw [if_neg c6, if_neg (fun x => c6 ⟨x.1.symm, x.2⟩)]; omega
        rcases k12 with k1 | k2
        · rw [show apF u.k (flr u.w) u.e = flr u.w by unfold apF; rw [if_neg (by omega)], show apL u.k (flr u.w) (ws u.w) u.e u.s = adjS (flr u.w) (ws u.w) u.e u.s 1 by unfold apL; rw [if_pos k1]]
          exact key 1 (.inl ⟨k1, rfl⟩)
        · rw [show apF u.k (flr u.w) u.e = flr u.w by unfold apF; rw [if_neg (by omega)], show apL u.k (flr u.w) (ws u.w) u.e u.s = adjS (flr u.w) (ws u.w) u.e u.s (-1) by unfold apL; rw [if_neg (by omega), if_pos k2]]
          exact key (-1) (.inr ⟨k2, rfl⟩)
    · have hl : uL t e k (updG got (u.w % 4) (got (u.w % 4) ++ [upMs fr u]) (t % 4)) = uL t e k (got (t % 4)) := by
        by_cases cc : t % 4 = u.w % 4
        · rw [cc, updG_self, uL_append, uL_cons, cM_up hu, cU_other (fun x => ct x.symm)]
          show _ + (0 + 0) = _
          omega
        · rw [updG_ne _ _ cc]
      rw [hl]
      simp only [updI, updW, if_neg ct]
      exact h.nt t ht e k
theorem GotOk.start (Q : Int) : GotOk Q (fun _ => 0) (fun _ => []) (fun _ => []) := ⟨fun c _ m hm => (nomatch hm), fun t _ => rfl, fun t _ e h => by split <;> rfl⟩
/-- the edges of a shard, known by their members -/
structure EgIn (c : Nat) (ws : Nat → List Wt) (y : Eg) : Prop where
  w : y.w < 16
  c : y.w % 4 = c
  h : y.h < 16
  n : y.n = nt (ws y.w) y.e y.h
  z : y.n ≠ 0
def egLt (x y : Eg) : Prop := x.w < y.w ∨ (x.w = y.w ∧ (x.e < y.e ∨ (x.e = y.e ∧ x.h < y.h)))
theorem egLt_irr {x y : Eg} (h : egLt x y) : ¬ egLt y x := by unfold egLt at *; omega
theorem edH_iff {w : Nat} {x : Wt} {y : Eg} : ∀ {n}, y ∈ edH w x n ↔ (y.w = w ∧ y.e = x.e ∧ y.h < n ∧ y.n = x.net y.h ∧ y.n ≠ 0)
  | 0 => ⟨fun h => by simp [edH] at h, fun h => absurd h.2.2.1 (Nat.not_lt_zero _)⟩
  | n + 1 => by
    rw [edH, List.mem_append, edH_iff (n := n)]
    constructor
    · rintro (⟨a, b, c, d⟩ | h)
      · exact ⟨a, b, by omega, d⟩
      · split at h
        · cases h
        · rename_i hz
          rw [List.mem_singleton] at h
          subst h
          exact ⟨rfl, rfl, Nat.lt_succ_self _, rfl, hz⟩
    · rintro ⟨a, b, c, d, e⟩
      by_cases cn : y.h < n
      · exact .inl ⟨a, b, cn, d, e⟩
      · have hn : y.h = n := by omega
        rw [hn] at d
        right
        rw [if_neg (by rw [← d]; exact e), List.mem_singleton]
        obtain ⟨yw, yh, ye, yn⟩ := y
        simp only at a b c d hn
        subst a; subst b; subst hn; subst d; rfl
theorem edL_iff {w : Nat} {y : Eg} : ∀ {l : List Wt}, y ∈ edL w l ↔ ∃ x, x ∈ l ∧ y ∈ edH w x 16
  | [] => ⟨fun h => (nomatch h), fun ⟨x, h, _⟩ => (nomatch h)⟩
  | x :: l => by
    rw [edL, List.mem_append, edL_iff (l := l)]
    constructor
    · rintro (h | ⟨z, hz, h⟩)
      · exact ⟨x, .head _, h⟩
      · exact ⟨z, .tail _ hz, h⟩
    · rintro ⟨z, hz, h⟩
      cases hz with
      | head => exact .inl h
      | tail _ hz => exact .inr ⟨z, hz, h⟩
theorem edN_mem' {ws : Nat → List Wt} {y : Eg} : ∀ {n}, y ∈ edN ws n ↔ ∃ w, w < n ∧ y ∈ edL w (ws w)
  | 0 => ⟨fun h => (nomatch h), fun ⟨w, h, _⟩ => absurd h (Nat.not_lt_zero _)⟩
  | n + 1 => by
    rw [edN, List.mem_append, edN_mem' (n := n)]
    constructor
    · rintro (⟨w, h, h2⟩ | h)
      · exact ⟨w, by omega, h2⟩
      · exact ⟨n, Nat.lt_succ_self _, h⟩
    · rintro ⟨w, h, h2⟩
      by_cases c : w < n
      · exact .inl ⟨w, c, h2⟩
      · have : w = n := by omega
        subst this; exact .inr h2
theorem nt_ex {l : List Wt} {e : Int} {h : Nat} (hn : nt l e h ≠ 0) : ∃ x, x ∈ l ∧ x.e = e := by
  apply Classical.byContradiction
  intro hc
  exact hn (nt_none fun x hx hxe => hc ⟨x, hx, hxe⟩)
theorem ed_in {flr : Nat → Int} {ws : Nat → List Wt} (hok : ∀ t, t < 16 → WsOk (ws t) (flr t)) {c : Nat} {y : Eg} : y ∈ edN (wsK ws c) 16 ↔ EgIn c ws y := by
  rw [edN_mem']
  constructor
  · rintro ⟨w, hw, h⟩
    rw [edL_iff] at h
    obtain ⟨x, hx, hy⟩ := h
    unfold wsK at hx
    split at hx
    · rename_i hc
      obtain ⟨a, b, c1, d, e⟩ := edH_iff.1 hy
      refine ⟨by omega, by rw [a]; exact hc, c1, ?_, e⟩
      rw [a, b, nt_of_mem (hok w hw).srt hx]; exact d
    · cases hx
  · intro h
    have h1 := h.n
    obtain ⟨x, hx, hxe⟩ := nt_ex (l := ws y.w) (e := y.e) (h := y.h) (by rw [← h1]; exact h.z)
    refine ⟨y.w, h.w, edL_iff.2 ⟨x, ?_, edH_iff.2 ⟨rfl, hxe.symm, h.h, ?_, h.z⟩⟩⟩
    · unfold wsK; rw [if_pos h.c]; exact hx
    · rw [h1, ← hxe, nt_of_mem (hok _ h.w).srt hx]
theorem edH_srt {w : Nat} {x : Wt} : ∀ n, (edH w x n).Pairwise egLt
  | 0 => List.Pairwise.nil
  | n + 1 => by
    rw [edH, List.pairwise_append]
    refine ⟨edH_srt n, ?_, fun y hy z hz => ?_⟩
    · split
      · exact List.Pairwise.nil
      · exact List.pairwise_singleton _ _
    · obtain ⟨a, b, c, _⟩ := edH_iff.1 hy
      split at hz
      · cases hz
      · rw [List.mem_singleton] at hz
        subst hz
        unfold egLt
        simp only
        omega
theorem edL_srt {w : Nat} : ∀ {l : List Wt}, l.Pairwise (fun x y => x.e < y.e) → (edL w l).Pairwise egLt
  | [], _ => List.Pairwise.nil
  | x :: l, h => by
    rw [edL, List.pairwise_append]
    refine ⟨edH_srt _, edL_srt (List.pairwise_cons.1 h).2, fun y hy z hz => ?_⟩
    obtain ⟨a, b, c, _⟩ := edH_iff.1 hy
    obtain ⟨q, hq, hz⟩ := edL_iff.1 hz
    obtain ⟨a', b', c', _⟩ := edH_iff.1 hz
    have := (List.pairwise_cons.1 h).1 q hq
    unfold egLt
    omega
theorem edN_srt {ws : Nat → List Wt} (h : ∀ w, w < 16 → (ws w).Pairwise (fun x y => x.e < y.e)) : ∀ {n}, n ≤ 16 → (edN ws n).Pairwise egLt
  | 0, _ => List.Pairwise.nil
  | n + 1, hn => by
    rw [edN, List.pairwise_append]
    refine ⟨edN_srt h (by omega), edL_srt (h n (by omega)), fun y hy z hz => ?_⟩
    obtain ⟨w, hw, hy⟩ := edN_mem'.1 hy
    obtain ⟨x, _, hy⟩ := edL_iff.1 hy
    obtain ⟨q, hq, hz⟩ := edL_iff.1 hz
    have h1 := (edH_iff.1 hy).1
    have h2 := (edH_iff.1 hz).1
    unfold egLt
    omega
theorem srt_ext : ∀ {l m : List Eg}, l.Pairwise egLt → m.Pairwise egLt → (∀ x, x ∈ l ↔ x ∈ m) → l = m
  | [], [], _, _, _ => rfl
  | [], y :: m, _, _, h => by have := (h y).2 (.head _); cases this
  | x :: l, [], _, _, h => by have := (h x).1 (.head _); cases this
  | x :: l, y :: m, h1, h2, h => by
    obtain ⟨a1, a2⟩ := List.pairwise_cons.1 h1
    obtain ⟨b1, b2⟩ := List.pairwise_cons.1 h2
    have hxy : x = y := by
      apply Classical.byContradiction
      intro hne
      have hx : x ∈ m := by
        have := (h x).1 (.head _)
        cases this with
        | head => exact absurd rfl hne
        | tail _ h => exact h
      have hy : y ∈ l := by
        have := (h y).2 (.head _)
        cases this with
        | head => exact absurd rfl hne
        | tail _ h => exact h
      exact egLt_irr (a1 y hy) (b1 x hx)
    subst hxy
    have hn : ∀ z, egLt z z → False := fun z hz => egLt_irr hz hz
    congr 1
    refine srt_ext a2 b2 fun z => ⟨fun hz => ?_, fun hz => ?_⟩
    · have := (h z).1 (.tail _ hz)
      cases this with
      | head => exact (hn _ (a1 _ hz)).elim
      | tail _ h => exact h
    · have := (h z).2 (.tail _ hz)
      cases this with
      | head => exact (hn _ (b1 _ hz)).elim
      | tail _ h => exact h
theorem wsK_ok {flr : Nat → Int} {ws : Nat → List Wt} (hok : ∀ t, t < 16 → WsOk (ws t) (flr t)) (c w : Nat) (hw : w < 16) : (wsK ws c w).Pairwise (fun x y => x.e < y.e) := by
  unfold wsK
  split
  · exact (hok w hw).srt
  · exact List.Pairwise.nil
/-- any strictly sorted list with the right members is the list of edges -/
theorem ed_unique {flr : Nat → Int} {ws : Nat → List Wt} (hok : ∀ t, t < 16 → WsOk (ws t) (flr t)) {c : Nat} {l : List Eg} (hs : l.Pairwise egLt) (hm : ∀ y, y ∈ l ↔ EgIn c ws y) : l = edN (wsK ws c) 16 :=
  srt_ext hs (edN_srt (fun w hw => wsK_ok hok c w hw) (Nat.le_refl _)) (fun y => (hm y).trans (ed_in hok).symm)

end Go.Proofs.Qxb6500911aGreatDoor

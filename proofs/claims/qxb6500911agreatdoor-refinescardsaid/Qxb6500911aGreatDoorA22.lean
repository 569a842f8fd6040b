import Derived.Test.Qxb6500911aGreatDoorA21
namespace Go.Proofs.Qxb6500911aGreatDoor
open Go.Eng
set_option linter.unusedVariables false
set_option linter.unusedSimpArgs false

/-! ## what an event does to the waits: the batch's law -/
def WFv (wo : Nat → Option Nat) (hd : Nat → BitVec 16) (w : Nat) : BitVec 16 := match wo w with | some r => hd r &&& ~~~ bitB w | none => 0#16
def b01 (b : Bool) : Int := if b = true then 1 else 0
structure BL (wo0 : Nat → Option Nat) (hd0 : Nat → BitVec 16) (ep0 : Nat → Int) (t : Nat) (wo : Nat → Option Nat) (hd : Nat → BitVec 16) (ep : Nat → Int) (b : Bt) : Prop where
  en : ∀ w, w < 16 → b.ended.getLsbD w = true → (wo0 w).isSome = true ∧ wo w = none ∧ ep w = ep0 w + 1 ∧ b.ep w = ep0 w
  ne : ∀ w, w < 16 → b.ended.getLsbD w = false → wo w = wo0 w ∧ ep w = ep0 w
  df : ∀ w, w < 16 → b.ended.getLsbD w = false → ∀ h, b01 ((WFv wo hd w).getLsbD h) = b01 ((WFv wo0 hd0 w).getLsbD h) + b01 ((b.add w).getLsbD h) - b01 ((b.del w).getLsbD h)
  ad : ∀ w, w < 16 → b.ended.getLsbD w = false → (b.add w ≠ 0#16 ∨ b.del w ≠ 0#16) → b.ep w = ep w ∧ (wo w).isSome = true
  dt : ∀ w h, (b.del w).getLsbD h = true → h = t
  at_ : ∀ w, (b.add w).getLsbD t = false
theorem BL.start (wo : Nat → Option Nat) (hd : Nat → BitVec 16) (ep : Nat → Int) (t : Nat) : BL wo hd ep t wo hd ep bt0 :=
  ⟨fun w _ h => by simp [bt0] at h, fun w _ _ => ⟨rfl, rfl⟩, fun w _ _ h => by simp [bt0, b01], fun w _ _ h => by rcases h with h | h <;> exact absurd rfl h, fun w h hh => by simp [bt0] at hh, fun w => by simp [bt0]⟩
def updO (f : Nat → Option Nat) (i : Nat) (v : Option Nat) : Nat → Option Nat := fun j => if j = i then v else f j
theorem bit_get {w x : Nat} (hx : x < 16) : (bitB w).getLsbD x = decide (w = x) := by
  unfold bitB; rw [BitVec.getLsbD_twoPow]; simp [hx]; intro h; omega
theorem b01_eq {a b : Bool} (h : b01 a = b01 b) : a = b := by cases a <;> cases b <;> simp [b01] at h <;> rfl
/-- one wait ends -/
theorem BL.endOne {wo0 wo : Nat → Option Nat} {hd0 hd : Nat → BitVec 16} {ep0 ep : Nat → Int} {t : Nat} {b b' : Bt} {w : Nat} (h : BL wo0 hd0 ep0 t wo hd ep b) (hw : w < 16) (hs : (wo w).isSome = true)
    (e1 : b'.ended = b.ended ||| bitB w) (e2 : b'.ep = updI b.ep w (ep w)) (e3 : b'.add = b.add) (e4 : b'.del = b.del) : BL wo0 hd0 ep0 t (updO wo w none) hd (updI ep w (ep w + 1)) b' := by
  have hne : b.ended.getLsbD w = false := by
    cases hc : b.ended.getLsbD w
    · rfl
    · have := (h.en w hw hc).2.1; rw [this] at hs; cases hs
  have hb : ∀ x, x < 16 → b'.ended.getLsbD x = (b.ended.getLsbD x || decide (w = x)) := fun x hx => by rw [e1, BitVec.getLsbD_or, bit_get hx]
  refine ⟨fun x hx hx2 => ?_, fun x hx hx2 => ?_, fun x hx hx2 k => ?_, fun x hx hx2 hx3 => ?_, by rw [e4]; exact h.dt, by rw [e3]; exact h.at_⟩
  · rw [hb x hx] at hx2
    rw [e2]
    unfold updO updI
    by_cases c : x = w
    · subst c
      rw [if_pos rfl, if_pos rfl, if_pos rfl]
      have := h.ne x hx hne
      exact ⟨by rw [← this.1]; exact hs, rfl, by rw [this.2], this.2⟩
    · rw [if_neg c, if_neg c, if_neg c]
      have : b.ended.getLsbD x = true := by simpa [show ¬ w = x from fun e => c e.symm] using hx2
      exact h.en x hx this
  · rw [hb x hx] at hx2
    have hx4 : b.ended.getLsbD x = false ∧ ¬ w = x := by simpa using hx2
    unfold updO updI
    rw [if_neg (fun e => hx4.2 e.symm), if_neg (fun e => hx4.2 e.symm)]
    exact h.ne x hx hx4.1
  · rw [hb x hx] at hx2
    have hx4 : b.ended.getLsbD x = false ∧ ¬ w = x := by simpa using hx2
    have : WFv (updO wo w none) hd x = WFv wo hd x := by unfold WFv updO; rw [if_neg (fun e => hx4.2 e.symm)]
    rw [this, e3, e4]
    exact h.df x hx hx4.1 k
  · rw [hb x hx] at hx2
    have hx4 : b.ended.getLsbD x = false ∧ ¬ w = x := by simpa using hx2
    rw [e3, e4] at hx3
    have := h.ad x hx hx4.1 hx3
    rw [e2]
    unfold updO updI
    rw [if_neg (fun e => hx4.2 e.symm), if_neg (fun e => hx4.2 e.symm), if_neg (fun e => hx4.2 e.symm)]
    exact this
theorem BL.ends {wo0 : Nat → Option Nat} {hd0 hd : Nat → BitVec 16} {ep0 : Nat → Int} {t : Nat} : ∀ (wk : List Nat) {wo : Nat → Option Nat} {z : (Nat → Int) × Bt}, BL wo0 hd0 ep0 t wo hd z.1 z.2 → (∀ w, w ∈ wk → w < 16 ∧ (wo w).isSome = true) → wk.Nodup → BL wo0 hd0 ep0 t (fun w => if w ∈ wk then none else wo w) hd (hcA z wk).1 (hcA z wk).2
  | [], wo, z, h, _, _ => by simpa [hcA] using h
  | w :: wk, wo, z, h, hw, hn => by
    obtain ⟨hn1, hn2⟩ := List.nodup_cons.1 hn
    have h1 := h.endOne (b' := (hcA1 z w).2) (hw w (.head _)).1 (hw w (.head _)).2 rfl rfl rfl rfl
    have h2 := BL.ends wk (z := hcA1 z w) h1 (fun x hx => by
      have := hw x (.tail _ hx)
      refine ⟨this.1, ?_⟩
      unfold updO
      rw [if_neg (fun e : x = w => hn1 (e ▸ hx))]; exact this.2) hn2
    have e : (fun x => if x ∈ wk then none else updO wo w none x) = fun x => if x ∈ w :: wk then none else wo x := by
      funext x
      unfold updO
      by_cases c : x = w
      · subst c; simp
      · by_cases c2 : x ∈ wk
        · simp [c2]
        · simp [c, c2]
    rw [e] at h2
    exact h2
theorem hcB_add {ep : Nat → Int} {ca we : BitVec 16} : ∀ (ws : List Nat) (b : Bt), ws.Nodup → ∀ w, (hcB ep ca we b ws).ended = b.ended ∧ (hcB ep ca we b ws).ep w = (if w ∈ ws then ep w else b.ep w) ∧ (hcB ep ca we b ws).add w = (if w ∈ ws then b.add w ||| (ca &&& ~~~ bitB w) else b.add w) ∧ (hcB ep ca we b ws).del w = (if w ∈ ws then b.del w ||| (we &&& ~~~ bitB w) else b.del w)
  | [], b, _, w => by simp [hcB]
  | x :: ws, b, hn, w => by
    obtain ⟨hn1, hn2⟩ := List.nodup_cons.1 hn
    have ih := hcB_add (ep := ep) (ca := ca) (we := we) ws (hcB1 ep ca we b x) hn2 w
    have e : hcB ep ca we b (x :: ws) = hcB ep ca we (hcB1 ep ca we b x) ws := rfl
    rw [e]
    refine ⟨ih.1, ?_, ?_, ?_⟩
    · rw [ih.2.1]
      simp only [hcB1, updI, List.mem_cons]
      by_cases c : w = x
      · subst c; simp [hn1]
      · simp [c]
    · rw [ih.2.2.1]
      simp only [hcB1, updB, List.mem_cons]
      by_cases c : w = x
      · subst c; simp [hn1]
      · simp [c]
    · rw [ih.2.2.2]
      simp only [hcB1, updB, List.mem_cons]
      by_cases c : w = x
      · subst c; simp [hn1]
      · simp [c]
def updM (f : Nat → BitVec 16) (i : Nat) (v : BitVec 16) : Nat → BitVec 16 := updB f i v
/-- the holders of r change -/
theorem BL.holders {wo0 wo : Nat → Option Nat} {hd0 hd : Nat → BitVec 16} {ep0 ep : Nat → Int} {t r : Nat} {b : Bt} {A : BitVec 16} {ws : List Nat} (h : BL wo0 hd0 ep0 t wo hd ep b) (hn : ws.Nodup) (hws : ∀ w, w ∈ ws ↔ (w < 16 ∧ wo w = some r))
    (hgo : ∀ k, (hd r &&& ~~~ A).getLsbD k = true → k = t) (hco : (A &&& ~~~ hd r).getLsbD t = false) : BL wo0 hd0 ep0 t wo (updB hd r A) ep (hcB ep (A &&& ~~~ hd r) (hd r &&& ~~~ A) b ws) := by
  have hb := hcB_add (ep := ep) (ca := A &&& ~~~ hd r) (we := hd r &&& ~~~ A) ws b hn
  refine ⟨fun w hw h1 => ?_, fun w hw h1 => ?_, fun w hw h1 k => ?_, fun w hw h1 h2 => ?_, fun w k hk => ?_, fun w => ?_⟩
  · rw [(hb w).1] at h1
    have h3 := h.en w hw h1
    rw [(hb w).2.1, if_neg (fun hm => by have := ((hws w).1 hm).2; rw [h3.2.1] at this; cases this)]
    exact h3
  · rw [(hb w).1] at h1; exact h.ne w hw h1
  · rw [(hb w).1] at h1
    have hd9 := h.df w hw h1
    rw [(hb w).2.2.1, (hb w).2.2.2]
    by_cases c : w ∈ ws
    · have hwo := ((hws w).1 c).2
      rw [if_pos c, if_pos c]
      have e1 : ∀ H : Nat → BitVec 16, WFv wo H w = H r &&& ~~~ bitB w := fun H => by unfold WFv; rw [hwo]
      rw [e1]
      have e2 := hd9 k
      rw [e1] at e2
      have ht1 := h.at_ w
      have hd1 : (b.del w).getLsbD k = true → k = t := h.dt w k
      have hg1 := hgo k
      have hc1 : k = t → (A &&& ~~~ hd r).getLsbD k = false := fun e => by rw [e]; exact hco
      have ht2 : k = t → (b.add w).getLsbD k = false := fun e => by rw [e]; exact ht1
      rcases Nat.lt_or_ge k 16 with hk | hk
      · simp only [updB, if_true, BitVec.getLsbD_or, BitVec.getLsbD_and, BitVec.getLsbD_not, bit_get hk, hk, decide_true, Bool.true_and] at e2 hg1 hc1 ⊢
        by_cases cw : w = k
        · subst cw
          simp only [decide_true, Bool.not_true, Bool.and_false, Bool.or_false] at e2 ⊢
          exact e2
        · simp only [cw, decide_false, Bool.not_false, Bool.and_true] at e2 ⊢
          by_cases ck : k = t
          · have a1 := ht2 ck
            have a2 := hc1 ck
            rw [a1] at e2 ⊢
            cases hA : A.getLsbD k <;> cases hB : (hd r).getLsbD k <;> cases hD : (b.del w).getLsbD k <;> rw [hA, hB] at a2 <;> rw [hB, hD] at e2 <;> cases hW : (WFv wo0 hd0 w).getLsbD k <;> rw [hW] at e2 <;> simp [b01] at a2 e2 ⊢
          · have a1 : (b.del w).getLsbD k = false := by cases hD : (b.del w).getLsbD k; rfl; exact absurd (hd1 hD) ck
            rw [a1] at e2 ⊢
            cases hA : A.getLsbD k <;> cases hB : (hd r).getLsbD k <;> cases hD : (b.add w).getLsbD k <;> rw [hB, hD] at e2 <;> rw [hA, hB] at hg1 <;> cases hW : (WFv wo0 hd0 w).getLsbD k <;> rw [hW] at e2 <;> simp [b01, ck] at e2 hg1 ⊢
      · have z : ∀ m : BitVec 16, m.getLsbD k = false := fun m => BitVec.getLsbD_of_ge _ _ hk
        simp only [z] at e2 ⊢
        exact e2
    · rw [if_neg c, if_neg c]
      have e1 : WFv wo (updB hd r A) w = WFv wo hd w := by
        unfold WFv
        cases hq : wo w with
        | none => rfl
        | some r' =>
          simp only
          have : r' ≠ r := fun e => c ((hws w).2 ⟨hw, by rw [hq, e]⟩)
          unfold updB; rw [if_neg this]
      rw [e1]; exact hd9 k
  · rw [(hb w).1] at h1
    rw [(hb w).2.2.1, (hb w).2.2.2] at h2
    rw [(hb w).2.1]
    by_cases c : w ∈ ws
    · rw [if_pos c]; exact ⟨rfl, by rw [((hws w).1 c).2]; rfl⟩
    · rw [if_neg c, if_neg c] at h2
      rw [if_neg c]; exact h.ad w hw h1 h2
  · rw [(hb w).2.2.2] at hk
    split at hk
    · rw [BitVec.getLsbD_or, Bool.or_eq_true] at hk
      rcases hk with hk | hk
      · exact h.dt w k hk
      · rw [BitVec.getLsbD_and, Bool.and_eq_true] at hk
        exact hgo k hk.1
    · exact h.dt w k hk
  · rw [(hb w).2.2.1]
    split
    · rw [BitVec.getLsbD_or, h.at_ w, BitVec.getLsbD_and, hco]; rfl
    · exact h.at_ w


/-! ## the batch's law for whole events -/
theorem wo_char {tb : Tab} (hI : TI tb) {w r : Nat} : waitOn tb w 20 = some r ↔ r < 20 ∧ ∃ x, x ∈ tb.q r ∧ x.t = w := by
  constructor
  · exact wait_mem
  · rintro ⟨hr, x, hx, hxt⟩
    cases hq : waitOn tb w 20 with
    | none => exact absurd hxt (not_wait hq hr x hx)
    | some r' =>
      obtain ⟨hr', y, hy, hyt⟩ := wait_mem hq
      rw [hI.dis r' r hr' hr y hy x hx (by rw [hyt, hxt])]
theorem opt_ext {a b : Option Nat} (h : ∀ r, a = some r ↔ b = some r) : a = b := by
  cases a with
  | none =>
    cases b with
    | none => rfl
    | some x => exact absurd ((h x).2 rfl) (by simp)
  | some x => exact ((h x).1 rfl).symm
theorem maskN_get {f : Nat → Int} : ∀ {n}, n ≤ 16 → ∀ k, (maskN f n).getLsbD k = decide (k < n ∧ 0 < f k)
  | 0, _, k => by simp [maskN]
  | n + 1, hn, k => by
    unfold maskN
    have ih := maskN_get (f := f) (n := n) (by omega) k
    by_cases c : 0 < f n
    · rw [if_pos c, BitVec.getLsbD_or, ih]
      rcases Nat.lt_or_ge k 16 with hk | hk
      · rw [bit_get hk]
        by_cases e : n = k
        · subst e; simp [c]
        · have : (k < n + 1 ∧ 0 < f k) ↔ (k < n ∧ 0 < f k) := by omega
          simp [e, this]
      · rw [BitVec.getLsbD_of_ge _ _ hk, Bool.or_false, decide_eq_decide]
        constructor
        · exact fun h => ⟨by omega, h.2⟩
        · exact fun h => absurd h.1 (by omega)
    · rw [if_neg c, ih, decide_eq_decide]
      constructor
      · exact fun h => ⟨by omega, h.2⟩
      · intro h
        refine ⟨?_, h.2⟩
        have : k ≠ n := fun e => c (e ▸ h.2)
        omega
theorem hold_get {tb : Tab} {r k : Nat} : (holdB tb r).getLsbD k = decide (k < 16 ∧ 0 < tb.held r k) := maskN_get (Nat.le_refl _) k
theorem wakeP_held (tot : Int) : ∀ (l : List Rq) (h : Nat → Int), (∀ x, x ∈ l → 1 ≤ x.u) → ∀ k, h k ≤ (wakeP tot l h).1 k ∧ (k ∉ (wakeP tot l h).2.2 → (wakeP tot l h).1 k = h k)
  | [], h, _, k => ⟨Int.le_refl _, fun _ => rfl⟩
  | x :: q, h, hu, k => by
    rw [wakeP]
    split
    · have ih := wakeP_held tot q (giveH h x) (fun y hy => hu y (.tail _ hy)) k
      have h1 := hu x (.head _)
      simp only
      refine ⟨?_, fun hk => ?_⟩
      · have : h k ≤ giveH h x k := by unfold giveH; split; (rename_i c; rw [c]; omega); exact Int.le_refl _
        omega
      · rw [ih.2 (fun hm => hk (.tail _ hm))]
        unfold giveH
        rw [if_neg (fun e : k = x.t => hk (e ▸ .head _))]
    · exact ⟨Int.le_refl _, fun _ => rfl⟩
theorem bv_eq_of {A B : BitVec 16} (h1 : A &&& ~~~ B = 0#16) (h2 : B &&& ~~~ A = 0#16) : A = B := by
  apply BitVec.eq_of_getLsbD_eq
  intro i hi
  have e1 := congrArg (fun m => m.getLsbD i) h1
  have e2 := congrArg (fun m => m.getLsbD i) h2
  simp only [BitVec.getLsbD_and, BitVec.getLsbD_not, hi, decide_true, Bool.true_and, BitVec.getLsbD_zero] at e1 e2
  cases hA : A.getLsbD i <;> cases hB : B.getLsbD i <;> rw [hA, hB] at e1 e2 <;> simp at e1 e2 ⊢
theorem hcP_BL {wo0 wo1 : Nat → Option Nat} {hd0 : Nat → BitVec 16} {ep0 : Nat → Int} {t r : Nat} {tb tb' : Tab} {z : (Nat → Int) × Bt} {wk : List Nat} (h : BL wo0 hd0 ep0 t wo1 (holdB tb) z.1 z.2) (hI' : TI tb') (hr : r < 20) (hwk : ∀ w, w ∈ wk → w < 16 ∧ (wo1 w).isSome = true) (hnd : wk.Nodup)
    (hwo : ∀ w, waitOn tb' w 20 = if w ∈ wk then none else wo1 w) (hh : ∀ r', r' ≠ r → holdB tb' r' = holdB tb r') (hgo : ∀ k, (holdB tb r &&& ~~~ holdB tb' r).getLsbD k = true → k = t) (hco : (holdB tb' r &&& ~~~ holdB tb r).getLsbD t = false) :
    BL wo0 hd0 ep0 t (fun w => waitOn tb' w 20) (holdB tb') (hcP tb' r (holdB tb r) z wk).1 (hcP tb' r (holdB tb r) z wk).2 := by
  have h1 := BL.ends wk h hwk hnd
  have e1 : (fun w => if w ∈ wk then none else wo1 w) = fun w => waitOn tb' w 20 := funext fun w => (hwo w).symm
  rw [e1] at h1
  have e2 : updB (holdB tb) r (holdB tb' r) = holdB tb' := funext fun r' => by
    unfold updB
    split
    · rename_i c; rw [c]
    · rename_i c; rw [hh r' c]
  unfold hcP
  split
  · rename_i c
    have e3 : holdB tb = holdB tb' := funext fun r' => by
      by_cases c2 : r' = r
      · subst c2; exact (bv_eq_of c.1 c.2).symm
      · exact (hh r' c2).symm
    rw [← e3]; exact h1
  · have h2 := BL.holders (A := holdB tb' r) (ws := (tb'.q r).map (·.t)) h1 (hI'.hb r hr).nd (fun w => ?_) hgo hco
    · rw [e2] at h2; exact h2
    · rw [List.mem_map]
      constructor
      · rintro ⟨x, hx, rfl⟩
        exact ⟨(hI'.q r hr x hx).1, (wo_char hI').2 ⟨hr, x, hx, rfl⟩⟩
      · rintro ⟨_, hq⟩
        obtain ⟨_, x, hx, hxt⟩ := (wo_char hI').1 hq
        exact ⟨x, hx, hxt⟩
theorem nodup_app {l m : List Nat} (h : (l ++ m).Nodup) : l.Nodup ∧ ∀ w, w ∈ l → w ∉ m := by
  rw [List.nodup_append] at h
  exact ⟨h.1, fun w h1 h2 => h.2.2 w h1 w h2 rfl⟩
theorem tbU_hold {tb : Tab} {r : Nat} {h : Nat → Int} {l : List Rq} {r' : Nat} (hn : r' ≠ r) : holdB (tbU tb r h l) r' = holdB tb r' := by unfold holdB tbU; simp only [if_neg hn]
theorem tbU_q {tb : Tab} {r : Nat} {h : Nat → Int} {l : List Rq} (r' : Nat) : (tbU tb r h l).q r' = if r' = r then l else tb.q r' := rfl
theorem drop_BL {wo0 : Nat → Option Nat} {hd0 : Nat → BitVec 16} {ep0 : Nat → Int} {t r : Nat} {tb : Tab} {z : (Nat → Int) × Bt} (h : BL wo0 hd0 ep0 t (fun w => waitOn tb w 20) (holdB tb) z.1 z.2) (hI : TI tb) (ht : t < 16) (hr : r < 20) (hnw : waitOn tb t 20 = none) :
    BL wo0 hd0 ep0 t (fun w => waitOn (dropT tb t r).1 w 20) (holdB (dropT tb t r).1) (hcP (dropT tb t r).1 r (holdB tb r) z (dropT tb t r).2.1).1 (hcP (dropT tb t r).1 r (holdB tb r) z (dropT tb t r).2.1).2 ∧ waitOn (dropT tb t r).1 t 20 = none := by
  have hI' := (hI.drop ht hr).1
  unfold dropT at hI' ⊢
  split
  · rename_i c
    rw [if_pos c] at hI'
    refine ⟨hcP_BL h hI' hr (fun w hw => (nomatch hw)) List.nodup_nil (fun w => by simp) (fun _ _ => rfl) (fun k hk => ?_) ?_, hnw⟩
    · rw [BitVec.getLsbD_and, BitVec.getLsbD_not] at hk; exfalso; cases hb9 : (holdB tb r).getLsbD k <;> rw [hb9] at hk <;> simp at hk
    · rw [BitVec.getLsbD_and, BitVec.getLsbD_not]; cases hb9 : (holdB tb r).getLsbD t <;> simp
  · rename_i c
    rw [if_neg c] at hI'
    simp only at hI' ⊢
    obtain ⟨s1, s2⟩ := wakeP_suf (totP r) (tb.q r) (zeroH (tb.held r) t)
    have hnd := (hI.hb r hr).nd
    rw [s1] at hnd
    obtain ⟨n1, n2⟩ := nodup_app hnd
    have hh := wakeP_held (totP r) (tb.q r) (zeroH (tb.held r) t) (fun x hx => (hI.q r hr x hx).2.1)
    have hwm : ∀ w, w ∈ (wakeP (totP r) (tb.q r) (zeroH (tb.held r) t)).2.2 → ∃ x, x ∈ tb.q r ∧ x.t = w := fun w hw => by
      have : w ∈ (tb.q r).map (·.t) := by rw [s1]; exact List.mem_append_left _ hw
      obtain ⟨x, hx, e⟩ := List.mem_map.1 this
      exact ⟨x, hx, e⟩
    have htn : t ∉ (wakeP (totP r) (tb.q r) (zeroH (tb.held r) t)).2.2 := fun hm => by
      obtain ⟨x, hx, e⟩ := hwm t hm
      exact not_wait hnw hr x hx e
    have hwo : ∀ w, waitOn (tbU tb r (wakeP (totP r) (tb.q r) (zeroH (tb.held r) t)).1 (wakeP (totP r) (tb.q r) (zeroH (tb.held r) t)).2.1) w 20 = if w ∈ (wakeP (totP r) (tb.q r) (zeroH (tb.held r) t)).2.2 then none else waitOn tb w 20 := fun w => by
      apply opt_ext
      intro r'
      rw [wo_char hI']
      by_cases cw : w ∈ (wakeP (totP r) (tb.q r) (zeroH (tb.held r) t)).2.2
      · rw [if_pos cw]
        constructor
        · rintro ⟨hr', x, hx, e⟩
          rw [tbU_q] at hx
          exfalso
          by_cases c2 : r' = r
          · rw [if_pos c2] at hx
            exact n2 w cw (List.mem_map.2 ⟨x, hx, e⟩)
          · rw [if_neg c2] at hx
            obtain ⟨y, hy, e2⟩ := hwm w cw
            exact c2 (hI.dis r' r hr' hr x hx y hy (by rw [e, e2]))
        · intro h9; cases h9
      · rw [if_neg cw, wo_char hI]
        constructor
        · rintro ⟨hr', x, hx, e⟩
          refine ⟨hr', x, ?_, e⟩
          rw [tbU_q] at hx
          by_cases c2 : r' = r
          · rw [if_pos c2] at hx; rw [c2]; exact s2 x hx
          · rw [if_neg c2] at hx; exact hx
        · rintro ⟨hr', x, hx, e⟩
          by_cases c2 : r' = r
          · subst c2
            have : w ∈ (tb.q r').map (·.t) := List.mem_map.2 ⟨x, hx, e⟩
            rw [s1] at this
            rcases List.mem_append.1 this with h9 | h9
            · exact absurd h9 cw
            · obtain ⟨y, hy, e2⟩ := List.mem_map.1 h9
              exact ⟨hr', y, by rw [tbU_q, if_pos rfl]; exact hy, e2⟩
          · exact ⟨hr', x, by rw [tbU_q, if_neg c2]; exact hx, e⟩
    have hheld : ∀ k, (tbU tb r (wakeP (totP r) (tb.q r) (zeroH (tb.held r) t)).1 (wakeP (totP r) (tb.q r) (zeroH (tb.held r) t)).2.1).held r k = (wakeP (totP r) (tb.q r) (zeroH (tb.held r) t)).1 k := fun k => by simp only [tbU, if_true]
    refine ⟨hcP_BL h hI' hr (fun w hw => ?_) n1 hwo (fun r' hn => tbU_hold hn) (fun k hk => ?_) ?_, by rw [hwo, if_neg htn]; exact hnw⟩
    · obtain ⟨x, hx, e⟩ := hwm w hw
      exact ⟨by rw [← e]; exact (hI.q r hr x hx).1, by rw [(wo_char hI).2 ⟨hr, x, hx, e⟩]; rfl⟩
    · rw [BitVec.getLsbD_and, BitVec.getLsbD_not, hold_get, hold_get, hheld] at hk
      apply Classical.byContradiction
      intro hn
      have h9 := (hh k).1
      have h10 : zeroH (tb.held r) t k = tb.held r k := if_neg hn
      rw [h10] at h9
      simp at hk
      obtain ⟨⟨k1, k2⟩, k3, k4⟩ := hk
      omega
    · rw [BitVec.getLsbD_and, hold_get, hheld, (hh t).2 htn]
      unfold zeroH
      simp
theorem with_BL {wo0 : Nat → Option Nat} {hd0 : Nat → BitVec 16} {ep0 : Nat → Int} {t r : Nat} {tb : Tab} {z : (Nat → Int) × Bt} (h : BL wo0 hd0 ep0 t (fun w => waitOn tb w 20) (holdB tb) z.1 z.2) (hI : TI tb) (ht : t < 16) (hw : waitOn tb t 20 = some r) :
    BL wo0 hd0 ep0 t (fun w => waitOn (withT tb t r).1 w 20) (holdB (withT tb t r).1) (hcP (withT tb t r).1 r (holdB tb r) (updI z.1 t (z.1 t + 1), endB z.2 z.1 t) (withT tb t r).2).1 (hcP (withT tb t r).1 r (holdB tb r) (updI z.1 t (z.1 t + 1), endB z.2 z.1 t) (withT tb t r).2).2 ∧ waitOn (withT tb t r).1 t 20 = none := by
  have hr := (wait_mem hw).1
  have hI' := (hI.withd (t := t) hr).1
  have h1 := h.endOne (b' := endB z.2 z.1 t) ht (by rw [hw]; rfl) rfl rfl rfl rfl
  unfold withT at hI' ⊢
  simp only at hI' ⊢
  obtain ⟨s1, s2⟩ := wakeP_suf (totP r) (othQ t (tb.q r)) (tb.held r)
  have hnd := ((hI.hb r hr).oth t).nd
  rw [s1] at hnd
  obtain ⟨n1, n2⟩ := nodup_app hnd
  have hh := wakeP_held (totP r) (othQ t (tb.q r)) (tb.held r) (fun x hx => (hI.q r hr x (List.mem_filter.1 hx).1).2.1)
  have hwm : ∀ w, w ∈ (wakeP (totP r) (othQ t (tb.q r)) (tb.held r)).2.2 → (∃ x, x ∈ tb.q r ∧ x.t = w) ∧ w ≠ t := fun w hw => by
    have : w ∈ (othQ t (tb.q r)).map (·.t) := by rw [s1]; exact List.mem_append_left _ hw
    obtain ⟨x, hx, e⟩ := List.mem_map.1 this
    have h9 := List.mem_filter.1 hx
    exact ⟨⟨x, h9.1, e⟩, by rw [← e]; exact of_decide_eq_true h9.2⟩
  have htn : t ∉ (wakeP (totP r) (othQ t (tb.q r)) (tb.held r)).2.2 := fun hm => (hwm t hm).2 rfl
  have hwo : ∀ w, waitOn (tbU tb r (wakeP (totP r) (othQ t (tb.q r)) (tb.held r)).1 (wakeP (totP r) (othQ t (tb.q r)) (tb.held r)).2.1) w 20 = if w ∈ (wakeP (totP r) (othQ t (tb.q r)) (tb.held r)).2.2 then none else updO (fun w => waitOn tb w 20) t none w := fun w => by
    apply opt_ext
    intro r'
    rw [wo_char hI']
    by_cases cw : w ∈ (wakeP (totP r) (othQ t (tb.q r)) (tb.held r)).2.2
    · rw [if_pos cw]
      constructor
      · rintro ⟨hr', x, hx, e⟩
        rw [tbU_q] at hx
        exfalso
        by_cases c2 : r' = r
        · rw [if_pos c2] at hx
          exact n2 w cw (List.mem_map.2 ⟨x, hx, e⟩)
        · rw [if_neg c2] at hx
          obtain ⟨⟨y, hy, e2⟩, _⟩ := hwm w cw
          exact c2 (hI.dis r' r hr' hr x hx y hy (by rw [e, e2]))
      · intro h9; cases h9
    · rw [if_neg cw]
      unfold updO
      by_cases ct : w = t
      · rw [if_pos ct]
        constructor
        · rintro ⟨hr', x, hx, e⟩
          rw [tbU_q] at hx
          exfalso
          by_cases c2 : r' = r
          · rw [if_pos c2] at hx
            have := (List.mem_filter.1 (s2 x hx)).2
            exact absurd (by rw [e, ct]) (of_decide_eq_true this)
          · rw [if_neg c2] at hx
            obtain ⟨_, y, hy, e2⟩ := wait_mem hw
            exact c2 (hI.dis r' r hr' hr x hx y hy (by rw [e, e2, ct]))
        · intro h9; cases h9
      · rw [if_neg ct]
        simp only
        rw [wo_char hI]
        constructor
        · rintro ⟨hr', x, hx, e⟩
          refine ⟨hr', x, ?_, e⟩
          rw [tbU_q] at hx
          by_cases c2 : r' = r
          · rw [if_pos c2] at hx; rw [c2]; exact (List.mem_filter.1 (s2 x hx)).1
          · rw [if_neg c2] at hx; exact hx
        · rintro ⟨hr', x, hx, e⟩
          by_cases c2 : r' = r
          · subst c2
            have : w ∈ (othQ t (tb.q r')).map (·.t) := List.mem_map.2 ⟨x, List.mem_filter.2 ⟨hx, decide_eq_true (by rw [e]; exact ct)⟩, e⟩
            rw [s1] at this
            rcases List.mem_append.1 this with h9 | h9
            · exact absurd h9 cw
            · obtain ⟨y, hy, e2⟩ := List.mem_map.1 h9
              exact ⟨hr', y, by rw [tbU_q, if_pos rfl]; exact hy, e2⟩
          · exact ⟨hr', x, by rw [tbU_q, if_neg c2]; exact hx, e⟩
  have hheld : ∀ k, (tbU tb r (wakeP (totP r) (othQ t (tb.q r)) (tb.held r)).1 (wakeP (totP r) (othQ t (tb.q r)) (tb.held r)).2.1).held r k = (wakeP (totP r) (othQ t (tb.q r)) (tb.held r)).1 k := fun k => by simp only [tbU, if_true]
  refine ⟨hcP_BL h1 hI' hr (fun w hw9 => ?_) n1 hwo (fun r' hn => tbU_hold hn) (fun k hk => ?_) ?_, by rw [hwo, if_neg htn]; unfold updO; rw [if_pos rfl]⟩
  · obtain ⟨⟨x, hx, e⟩, hne⟩ := hwm w hw9
    refine ⟨by rw [← e]; exact (hI.q r hr x hx).1, ?_⟩
    unfold updO
    rw [if_neg hne]
    simp only
    rw [(wo_char hI).2 ⟨hr, x, hx, e⟩]; rfl
  · exfalso
    rw [BitVec.getLsbD_and, BitVec.getLsbD_not, hold_get, hold_get, hheld] at hk
    have h9 := (hh k).1
    simp at hk
    obtain ⟨⟨k1, k2⟩, k3, k4⟩ := hk
    omega
  · rw [BitVec.getLsbD_and, BitVec.getLsbD_not, hold_get, hold_get, hheld, (hh t).2 htn]
    by_cases c9 : 0 < tb.held r t <;> simp [c9]
theorem wd_BL {wo0 : Nat → Option Nat} {hd0 : Nat → BitVec 16} {ep0 : Nat → Int} {t : Nat} {tb : Tab} {z : (Nat → Int) × Bt} (h : BL wo0 hd0 ep0 t (fun w => waitOn tb w 20) (holdB tb) z.1 z.2) (hI : TI tb) (ht : t < 16) : BL wo0 hd0 ep0 t (fun w => waitOn (wdK tb z t).1 w 20) (holdB (wdK tb z t).1) (wdK tb z t).2.1.1 (wdK tb z t).2.1.2 ∧ waitOn (wdK tb z t).1 t 20 = none := by
  cases hq : waitOn tb t 20 with
  | none => rw [wdK_none hq]; exact ⟨h, hq⟩
  | some r => rw [wdK_some hq]; exact with_BL h hI ht hq
theorem ab_BL {wo0 : Nat → Option Nat} {hd0 : Nat → BitVec 16} {ep0 : Nat → Int} {t : Nat} (ht : t < 16) : ∀ (rs : List Nat) {z : Tab × ((Nat → Int) × Bt)}, (∀ r, r ∈ rs → r < 20) → TI z.1 → BL wo0 hd0 ep0 t (fun w => waitOn z.1 w 20) (holdB z.1) z.2.1 z.2.2 → waitOn z.1 t 20 = none → BL wo0 hd0 ep0 t (fun w => waitOn (abN t z rs).1 w 20) (holdB (abN t z rs).1) (abN t z rs).2.1 (abN t z rs).2.2
  | [], z, _, _, h, _ => h
  | r :: rs, z, hrs, hI, h, hn => by
    have hr := hrs r (.head _)
    have h1 := drop_BL (z := z.2) h hI ht hr hn
    exact ab_BL ht rs (z := abS t z r) (fun r' hr' => hrs r' (.tail _ hr')) (hI.drop ht hr).1 h1.1 h1.2
/-- an event of a batch: from g, tables, epochs and batch -/
def BLg (g : Gs) (t : Nat) (tb : Tab) (ep : Nat → Int) (b : Bt) : Prop := BL (fun w => waitOn g.tb w 20) (holdB g.tb) g.ep t (fun w => waitOn tb w 20) (holdB tb) ep b
theorem rel_BL {g : Gs} {t : Nat} {r : Int} (hI : TI g.tb) (ht : t < 16) (h0 : (relT g.tb t r).2.2 = 0) : BLg g t (relT g.tb t r).1 (relH g t r).1 (relH g t r).2 := by
  obtain ⟨h1, h2⟩ := rel_r h0
  obtain ⟨rn, rfl⟩ : ∃ n : Nat, r = n := ⟨r.toNat, by omega⟩
  unfold relH bfR
  rw [if_pos ⟨h1, h2⟩, Int.toNat_natCast]
  have hw : waitOn g.tb t 20 = none := by
    cases hq : waitOn g.tb t 20 with
    | none => rfl
    | some r' =>
      unfold relT at h0
      rw [if_pos ⟨h1, h2⟩, hq] at h0
      simp at h0
  have e : relT g.tb t rn = dropT g.tb t rn := by
    unfold relT; rw [if_pos ⟨h1, h2⟩, if_neg (by rw [hw]; simp), Int.toNat_natCast]
  rw [e]
  exact (drop_BL (z := (g.ep, bt0)) (BL.start _ _ _ t) hI ht (by omega) hw).1
theorem can_BL {g : Gs} {t : Nat} (hI : TI g.tb) (ht : t < 16) : BLg g t (wdK g.tb (g.ep, bt0) t).1 (wdK g.tb (g.ep, bt0) t).2.1.1 (wdK g.tb (g.ep, bt0) t).2.1.2 := (wd_BL (z := (g.ep, bt0)) (BL.start _ _ _ t) hI ht).1
theorem abo_BL {g : Gs} {t : Nat} {Q : Int} (hI : TI g.tb) (ht : t < 16) (he : EpI Q g.ep) (hQ : 0 ≤ Q) : BLg g t (abK g t).1 (abK g t).2.1 (abK g t).2.2 := by
  have h1 := wd_BL (z := (g.ep, bt0)) (BL.start _ _ _ t) hI ht
  exact ab_BL ht _ (fun r hr => heldBy_lt hr) (wdK_ok (z := (g.ep, bt0)) hI he (bt0_ok hQ)).1 h1.1 h1.2

end Go.Proofs.Qxb6500911aGreatDoor

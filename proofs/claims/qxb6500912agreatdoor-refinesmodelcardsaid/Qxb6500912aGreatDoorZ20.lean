import Derived.Test.Qxb6500912aGreatDoorZ19
namespace Go.Proofs.Qxb6500912aGreatDoor
open Go.Eng
set_option linter.unusedVariables false
set_option linter.unusedSimpArgs false

/-! ## holes, in offsets -/
theorem ab_const {os : List Bk} {k1 k2 : Nat} (h : ∀ x, x ∈ os → (k1 < x.s ↔ k2 < x.s)) : abB os k1 = abB os k2 ∧ abR os k1 = abR os k2 := by
  have e : (os.filter fun x => decide (k1 < x.s)) = os.filter fun x => decide (k2 < x.s) := List.filter_congr fun x hx => decide_eq_decide.2 (h x hx)
  unfold abB abR
  rw [e]; exact ⟨rfl, rfl⟩
/-- all bytes of a gap share a verdict, but for the split at 'recover' -/
theorem ls_const {m : CS} {f : Nat} {os : List Bk} (ho : BInv f os) {k1 k2 : Nat} (h1 : ¬ Cov os k1) (h2 : ¬ Cov os k2) (h : ∀ x, x ∈ os → (k1 < x.s ↔ k2 < x.s)) (hr : m.phase = 2 → (m.una + (k1 : Int) < m.recov ↔ m.una + (k2 : Int) < m.recov)) : lsG m f (covB os) k1 = lsG m f (covB os) k2 := by
  obtain ⟨e1, e2⟩ := ab_const h
  unfold lsG
  by_cases c : m.phase = 2
  · rw [if_pos c, if_pos c, decide_eq_decide.2 (hr c)]
  · rw [if_neg c, if_neg c, cnt_cov ho h1, cnt_cov ho h2, cnt_runs ho, cnt_runs ho, e1, e2]
structure HN where
  a : Nat
  e : Nat
  lost : Bool
  tail : Bool
def rvN (m : CS) : Nat := (m.recov - m.una).toNat
def segN (m : CS) (l : Nat → Bool) (a e : Nat) (t : Bool) : List HN :=
  if m.phase = 2 ∧ a < rvN m ∧ rvN m < e then [⟨a, rvN m, true, t⟩, ⟨rvN m, e, l (rvN m), t⟩] else if a < e then [⟨a, e, l a, t⟩] else []
def holesN (m : CS) (l : Nat → Bool) (f : Nat) : List Bk → Nat → List HN
  | [], a => segN m l a f true
  | x :: r, a => segN m l a x.s false ++ holesN m l f r x.e
def HN.ho (u : Int) (h : HN) : Hole := ⟨(u + (h.a : Int)) % 4294967296, (u + (h.e : Int)) % 4294967296, h.lost, h.tail⟩
theorem seg_same {s m : CS} {st : Int} (h : RelS s m st) (hm : Mk m) {f : Nat} (hf : m.nxt - m.una = (f : Int)) {os : List Bk} (ho : BInv f os) (hl : os.length ≤ 16) {a e : Nat} (hae : a ≤ f) (hef : e ≤ f) (hk : ∀ k, a ≤ k → k < e → ¬ Cov os k) (t : Bool) :
    hsegP s (os.map (Bk.ab s.una)) ((s.una + (a : Int)) % 4294967296) ((s.una + (e : Int)) % 4294967296) t = (segN m (lsG m f (covB os)) a e t).map (HN.ho s.una) := by
  have h1 := hm.una; have h2 := hm.fl; have h3 := hm.recov
  have hp : s.phase = m.phase := h.win.2.2.2.2
  unfold hsegP segN
  rw [hp, less_b (u := s.una) (x := a) (y := e) (by omega) (by omega)]
  by_cases c : m.phase = 2
  · obtain ⟨r1, r2⟩ := h.rec1 (by omega)
    have er : s.recov = (s.una + (rvN m : Int)) % 4294967296 := by
      rw [r1, h.una, seq_add]; unfold rvN; congr 1; omega
    have hrf : rvN m ≤ f := by unfold rvN; omega
    rw [er, less_b (u := s.una) (x := a) (y := rvN m) (by omega) (by omega), less_b (u := s.una) (x := rvN m) (y := e) (by omega) (by omega)]
    by_cases c2 : a < rvN m ∧ rvN m < e
    · rw [if_pos ⟨c, decide_eq_true c2.1, decide_eq_true c2.2⟩, if_pos ⟨c, c2⟩, lost_same h hm hf ho hl (by omega) (hk _ (by omega) c2.2)]
      rfl
    · have n1 : ¬ (m.phase = 2 ∧ decide (a < rvN m) = true ∧ decide (rvN m < e) = true) := fun q => c2 ⟨of_decide_eq_true q.2.1, of_decide_eq_true q.2.2⟩
      have n2 : ¬ (m.phase = 2 ∧ a < rvN m ∧ rvN m < e) := fun q => c2 q.2
      rw [if_neg n1, if_neg n2]
      by_cases c3 : a < e
      · rw [if_pos (decide_eq_true c3), if_pos c3, lost_same h hm hf ho hl (by omega) (hk _ (Nat.le_refl _) c3)]
        rfl
      · rw [if_neg (by simp; omega), if_neg c3]; rfl
  · have n1 : ¬ (m.phase = 2 ∧ lessP ((s.una + (a : Int)) % 4294967296) s.recov = true ∧ lessP s.recov ((s.una + (e : Int)) % 4294967296) = true) := fun q => c q.1
    have n2 : ¬ (m.phase = 2 ∧ a < rvN m ∧ rvN m < e) := fun q => c q.1
    rw [if_neg n1, if_neg n2]
    by_cases c3 : a < e
    · rw [if_pos (decide_eq_true c3), if_pos c3, lost_same h hm hf ho hl (by omega) (hk _ (Nat.le_refl _) c3)]
      rfl
    · rw [if_neg (by simp; omega), if_neg c3]; rfl
theorem holes_same {s m : CS} {st : Int} (h : RelS s m st) (hm : Mk m) {f : Nat} (hf : m.nxt - m.una = (f : Int)) {os : List Bk} (ho : BInv f os) (hl : os.length ≤ 16) : ∀ (r : List Bk) (ao : Nat), ao ≤ f → BInv f r → (∀ y, y ∈ r → ao ≤ y.s) → (∀ k, ao ≤ k → ¬ Cov r k → ¬ Cov os k) →
    holesF s (os.map (Bk.ab s.una)) (r.map (Bk.ab s.una)) ((s.una + (ao : Int)) % 4294967296) = (holesN m (lsG m f (covB os)) f r ao).map (HN.ho s.una)
  | [], ao, hao, _, _, hc => by
    have e : s.nxt = (s.una + (f : Int)) % 4294967296 := by
      rw [h.nxt, h.una, seq_add]; congr 1; omega
    show hsegP s _ _ s.nxt true = _
    rw [e]
    exact seg_same h hm hf ho hl hao (Nat.le_refl _) (fun k hk _ => hc k hk fun ⟨z, hz, _⟩ => by cases hz) true
  | x :: r, ao, hao, hr, hy, hc => by
    have hx := hr.1
    have hx1 := hx.1; have hx2 := hx.2
    show hsegP s _ _ ((s.una + (x.s : Int)) % 4294967296) false ++ holesF s _ (r.map (Bk.ab s.una)) ((s.una + (x.e : Int)) % 4294967296) = _
    rw [seg_same h hm hf ho hl hao (by omega) (fun k hk hk2 => hc k hk fun ⟨z, hz, h1, h2⟩ => by
      rcases List.mem_cons.1 hz with e | e
      · rw [e] at h1; omega
      · have := hr.2.1 z e; omega) false,
      holes_same h hm hf ho hl r x.e hx2 hr.2.2 (fun y hy2 => by have := hr.2.1 y hy2; omega) (fun k hk hk2 => hc k (by have := hy x List.mem_cons_self; omega) fun ⟨z, hz, h1, h2⟩ => by
        rcases List.mem_cons.1 hz with e | e
        · rw [e] at h2; omega
        · exact hk2 ⟨z, e, h1, h2⟩)]
    rw [show holesN m (lsG m f (covB os)) f (x :: r) ao = segN m (lsG m f (covB os)) ao x.s false ++ holesN m (lsG m f (covB os)) f r x.e from rfl, List.map_append]
theorem holesP_same {s m : CS} {st : Int} (h : RelS s m st) (hm : Mk m) {f : Nat} (hf : m.nxt - m.una = (f : Int)) {os : List Bk} (ho : BInv f os) (hl : os.length ≤ 16) (hU : U s.una) :
    holesP s (os.map (Bk.ab s.una)) = (holesN m (lsG m f (covB os)) f os 0).map (HN.ho s.una) := by
  have := holes_same h hm hf ho hl os 0 (Nat.zero_le _) ho (fun _ _ => Nat.zero_le _) (fun _ _ h => h)
  unfold holesP
  rw [← this]
  congr 1
  omega

end Go.Proofs.Qxb6500912aGreatDoor

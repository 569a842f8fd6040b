import Derived.Test.Qxb6500914aI3
namespace Go.Proofs.Qxb6500914a
open Go.Eng
set_option linter.unusedVariables false
set_option linter.unusedSimpArgs false

/-- the kinds of the memory's cells -/
def kd75 (i : Nat) : TypeDesc := if i < 8192 then .int .u64 else if i < 12288 then .bool else if i < 16385 then .int .i64 else if i = 16385 then .int .u8 else if i = 16386 then .int .u32 else if i = 16387 then .int .u8 else if i = 16388 then .bool else .int .u64
def litM (m : MS) (i : Nat) : Lit := match unlit (encM m i) with | some l => l | none => .bool false
theorem unlit_encM (m : MS) (i : Nat) : unlit (encM m i) = some (litM m i) := by
  unfold litM
  cases h : unlit (encM m i) with
  | some l => rfl
  | none =>
    exfalso
    unfold encM at h
    (repeat' split at h) <;> simp [unlit] at h
theorem unlit_mapM (m : MS) : ∀ l : List Nat, unlitL (l.map (encM m)) = some (l.map (litM m))
  | [] => rfl
  | i :: l => by simp only [List.map_cons, unlitL, unlit_encM, unlit_mapM m l]
theorem litM_ok (m : MS) (h : MW m) (i : Nat) : litOk (kd75 i) (litM m i) := by
  have hu := unlit_encM m i
  unfold encM at hu
  unfold kd75
  by_cases c0 : i < 4096
  · rw [if_pos c0] at hu
    rw [if_pos (by omega)]
    simp only [unlit, Option.some.injEq] at hu
    rw [← hu]; exact ⟨rfl, h.word _⟩
  rw [if_neg c0] at hu
  by_cases c1 : i < 8192
  · rw [if_pos c1] at hu
    rw [if_pos c1]
    simp only [unlit, Option.some.injEq] at hu
    rw [← hu]; exact ⟨rfl, h.gen _⟩
  rw [if_neg c1] at hu ⊢
  by_cases c2 : i < 12288
  · rw [if_pos c2] at hu ⊢
    simp only [unlit, Option.some.injEq] at hu
    rw [← hu]; trivial
  rw [if_neg c2] at hu ⊢
  by_cases c3 : i < 16384
  · rw [if_pos c3] at hu
    rw [if_pos (by omega)]
    simp only [unlit, Option.some.injEq] at hu
    rw [← hu]; exact ⟨rfl, h.size _⟩
  rw [if_neg c3] at hu
  by_cases c4 : i = 16384
  · rw [if_pos c4] at hu
    rw [if_pos (by omega)]
    simp only [unlit, Option.some.injEq] at hu
    rw [← hu]; exact ⟨rfl, h.cnt⟩
  rw [if_neg c4] at hu
  rw [if_neg (show ¬ i < 16385 by omega)]
  by_cases c5 : i = 16385
  · rw [if_pos c5] at hu ⊢
    simp only [unlit, Option.some.injEq] at hu
    rw [← hu]; exact ⟨rfl, h.lk⟩
  rw [if_neg c5] at hu ⊢
  by_cases c6 : i = 16386
  · rw [if_pos c6] at hu ⊢
    simp only [unlit, Option.some.injEq] at hu
    rw [← hu]; exact ⟨rfl, h.la⟩
  rw [if_neg c6] at hu ⊢
  by_cases c7 : i = 16387
  · rw [if_pos c7] at hu ⊢
    simp only [unlit, Option.some.injEq] at hu
    rw [← hu]; exact ⟨rfl, h.ls⟩
  rw [if_neg c7] at hu ⊢
  by_cases c8 : i = 16388
  · rw [if_pos c8] at hu ⊢
    simp only [unlit, Option.some.injEq] at hu
    rw [← hu]; trivial
  rw [if_neg c8] at hu ⊢
  by_cases c9 : i = 16389
  · rw [if_pos c9] at hu
    simp only [unlit, Option.some.injEq] at hu
    rw [← hu]; exact ⟨rfl, h.lb⟩
  rw [if_neg c9] at hu
  simp only [unlit, Option.some.injEq] at hu
  rw [← hu]; exact ⟨rfl, h.lf⟩
theorem lits_mapM (m : MS) (h : MW m) : ∀ l : List Nat, LitsOk (l.map kd75) (l.map (litM m))
  | [] => trivial
  | i :: l => ⟨litM_ok m h i, lits_mapM m h l⟩
def kinds75 : List TypeDesc := (List.range 16391).map kd75
set_option maxRecDepth 20000 in
theorem shp75 : shapeT Try.prog 8 75 = some kinds75 := by kernel_rfl
theorem eqf75 : eqOk Try.prog 8 75 = true := by kernel_rfl
theorem eqLits_self {ds : List TypeDesc} {xs : List Lit} (h : LitsFit ds xs) : eqLits xs xs = true := (eqLits_iff h.ok h.ok).2 rfl
theorem r_eql75 {n : Nat} {L : List (Nat × Value)} {a : Act} {w : World} {T : TypeId} {pos : String} {aft : Array Edge} {g : Option (Nat × Bool)} {dst : Option Nat} {x y : Operand} {u : TypeId} {m : MS} (hl : Sl n L a)
    (hx : val L x = some (.agg ⟨arrL 16391 (encM m)⟩)) (hy : val L y = some (.agg ⟨arrL 16391 (encM m)⟩)) (hw : MW m) : Gives Try.prog a ⟨dst, .binOp .eql 75 x y u, T, pos, aft, g⟩ w (.bool true) w := by
  have hu : unlitL (arrL 16391 (encM m)) = some ((List.range 16391).map (litM m)) := by unfold arrL; generalize List.range 16391 = l; exact unlit_mapM m l
  have ho : LitsFit kinds75 ((List.range 16391).map (litM m)) := by
    refine ⟨?_⟩
    unfold kinds75
    generalize List.range 16391 = l
    exact lits_mapM m hw l
  have h1 := r_eqlA (P := Try.prog) (w := w) (T := T) (pos := pos) (aft := aft) (g := g) (dst := dst) (u := u) (lx := (List.range 16391).map (litM m)) (ly := (List.range 16391).map (litM m)) (s := kinds75) (m := 8) (d := 8) (t := 75) hl hx hy eqf75 shp75 hu hu ho ho
  rw [eqLits_self ho] at h1
  exact h1
section
variable {P : Program} {n : Nat} {L : List (Nat × Value)} {a : Act} {w : World} {T : TypeId} {pos : String} {aft : Array Edge} {g : Option (Nat × Bool)} {dst : Option Nat} {x y : Operand} {t size len cap : Nat} {k : IntKind} {i : Int}
theorem r_slice01g {p : Option Addr} (hl : Sl n L a) (hx : val L x = some (.slice p len cap)) (hy : val L y = some (.int k i)) (ht : slcOk P t size = true) (h : 0 ≤ i ∧ i ≤ cap) {q : Nat} (hq : i.toNat = q) :
    Gives P a ⟨dst, .slice t x none (some y) none, T, pos, aft, g⟩ w (.slice p q cap) w := by
  subst hq
  obtain ⟨e, inf, h2, h3, rfl⟩ := slcOk_spec ht
  have e0 : (if cap = 0 then p else p.map (·.add 0)) = p := by split <;> cases p <;> simp [Addr.add]
  simp [Gives, execOp, hl.ev hx, hl.ev hy, Instr.sliceAt, Instr.slice, run_underlying h2, Instr.sliceBounds, Instr.sliceBound, asIntOf, sizeOf, typeInfo, h3, h.1, h.2, e0]
theorem r_slice10g {p : Option Addr} (hl : Sl n L a) (hx : val L x = some (.slice p len cap)) (hy : val L y = some (.int k i)) (ht : slcOk P t size = true) (h : 0 ≤ i ∧ i ≤ len ∧ len ≤ cap) {q : Nat} (hq : i.toNat = q) :
    Gives P a ⟨dst, .slice t x (some y) none none, T, pos, aft, g⟩ w (.slice (if cap = q then p else p.map (·.add (q * size))) (len - q) (cap - q)) w := by
  subst hq
  obtain ⟨e, inf, h2, h3, rfl⟩ := slcOk_spec ht
  obtain ⟨h4, h5, h6⟩ := h
  simp [Gives, execOp, hl.ev hx, hl.ev hy, Instr.sliceAt, Instr.slice, run_underlying h2, Instr.sliceBounds, Instr.sliceBound, asIntOf, sizeOf, typeInfo, h3, h4, h5]
end

end Go.Proofs.Qxb6500914a

import Derived.Test.Qxb6500908aGreatEng
set_option linter.unusedVariables false
set_option linter.unusedSimpArgs false
namespace Go.Eng
section fun_
variable {P : Program} {n : Nat} {L : List (Nat × Value)} {a : Act} {w : World} {T : TypeId} {pos : String} {aft : Array Edge} {g : Option (Nat × Bool)} {dst : Option Nat} {x y : Operand}
theorem r_makeFunc {f : FuncId} {ys : List Operand} {vs : List Value} (hl : Sl n L a) (hv : vals L ys = some vs) :
    Gives P a ⟨dst, .makeFunc (.func f) #[] ⟨ys⟩, T, pos, aft, g⟩ w (.func (.func f) #[] ⟨vs⟩) w := by
  have he := hl.evs ys vs hv
  have hm : (Array.map a.eval ⟨ys⟩ : Array Value) = ⟨vs⟩ := by
    apply Array.ext'
    simp [he]
  simp [Gives, execOp, Instr.makeFunc, hm]
def arrTOk (P : Program) (t : TypeId) (len size e : Nat) : Bool :=
  match P.underlying t with
  | some (.array l e') => l == len && e' == e && (match P.info? e with | some i => i.size == size | none => false)
  | _ => false
theorem arrTOk_spec {t : TypeId} {len size e : Nat} (h : arrTOk P t len size e = true) : ∃ i, P.underlying t = some (.array len e) ∧ P.info? e = some i ∧ i.size = size := by
  unfold arrTOk at h
  split at h
  · rename_i l e' hu
    simp only [Bool.and_eq_true, beq_iff_eq] at h
    obtain ⟨⟨rfl, rfl⟩, h⟩ := h
    split at h
    · rename_i i hi
      simp only [beq_iff_eq] at h
      exact ⟨i, hu, hi, h⟩
    · cases h
  · cases h
/-- a cell of an array value -/
theorem r_indexAgg {t : TypeId} {len size e : Nat} {k : IntKind} {i : Int} {cs : List Value} {v : Value} (hl : Sl n L a) (hx : val L x = some (.agg ⟨cs⟩)) (hy : val L y = some (.int k i))
    (ht : arrTOk P t len size e = true) (he : oneOk P e = true) (h0 : 0 ≤ i) (h1 : i < len) {q : Nat} (hq : i.toNat = q) (hc : cs[q * size]? = some v) : Gives P a ⟨dst, .index t x y, T, pos, aft, g⟩ w v w := by
  subst hq
  obtain ⟨inf, h2, h3, rfl⟩ := arrTOk_spec ht
  simp [Gives, execOp, hl.ev hx, hl.ev hy, Instr.index, asIntOf, run_underlying h2, sizeOf, typeInfo, h3, h0, h1, part, (oneOk_run he).1, hc]
end fun_
theorem keeps_left {A B : List (Nat × Obj)} : Keeps (A ++ B) A B := ⟨List.Perm.refl _⟩
theorem keeps_right {A B : List (Nat × Obj)} : Keeps (A ++ B) B A := ⟨List.perm_append_comm⟩
theorem keeps_swap {A B : List (Nat × Obj)} : Keeps (B ++ A) (A ++ B) [] := ⟨by simpa using List.perm_append_comm⟩
theorem has_tail2 {D : List Nat} {w0 w : World} {A B : List (Nat × Obj)} {x y : Nat × Obj} (h : Has D w0 (x :: y :: (A ++ B)) w) : Has D w0 (x :: y :: (B ++ A)) w :=
  h.perm (List.Perm.cons x (List.Perm.cons y List.perm_append_comm))
end Go.Eng

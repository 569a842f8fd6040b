import Derived.Test.Qxb6500908aGreatEng
set_option linter.unusedVariables false
set_option linter.unusedSimpArgs false
namespace Go.Eng
/-- a row of n cells, by a function -/
@[irreducible] def arrL (n : Nat) (g : Nat → Value) : List Value := (List.range n).map g
def updV (g : Nat → Value) (i : Nat) (v : Value) : Nat → Value := fun j => if j = i then v else g j
theorem arrL_length (n : Nat) (g : Nat → Value) : (arrL n g).length = n := by simp [arrL]
theorem arrL_get {n : Nat} {g : Nat → Value} {i : Nat} (h : i < n) : (arrL n g)[i]? = some (g i) := by simp [arrL, h]
theorem arrL_congr {n : Nat} {g g' : Nat → Value} (h : ∀ i, i < n → g i = g' i) : arrL n g = arrL n g' := by
  unfold arrL
  exact List.map_congr_left fun i hi => h i (List.mem_range.1 hi)
theorem arrL_set {n : Nat} {g : Nat → Value} {i : Nat} {v : Value} (h : i < n) : setL (arrL n g) i [v] = arrL n (updV g i v) := by
  have hl := arrL_length n g
  apply List.ext_getElem?
  intro j
  simp only [setL, List.length_cons, List.length_nil, Nat.zero_add]
  by_cases h1 : j < i
  · rw [List.append_assoc, List.getElem?_append_left (by simp [hl]; omega), List.getElem?_take, if_pos h1, arrL_get (by omega), arrL_get (by omega)]
    simp [updV, show ¬ j = i by omega]
  · by_cases h2 : j = i
    · subst h2
      rw [List.append_assoc, List.getElem?_append_right (by simp [hl]; omega), arrL_get h]
      simp [hl, updV, show min j n = j by omega]
    · rw [List.append_assoc, List.getElem?_append_right (by simp [hl]; omega)]
      simp only [List.length_take, hl, show min i n = i by omega]
      rw [List.getElem?_append_right (by simp; omega)]
      simp only [List.getElem?_drop, List.length_cons, List.length_nil, Nat.zero_add]
      rw [show i + 1 + (j - i - 1) = j by omega]
      by_cases h3 : j < n
      · rw [arrL_get h3, arrL_get h3]; simp [updV, h2]
      · rw [List.getElem?_eq_none (by omega), List.getElem?_eq_none (by rw [arrL_length]; omega)]
theorem arr_load {n : Nat} {g : Nat → Value} {i : Nat} (h : i < n) : (arrL n g)[0 + i * 1]? = some (g i) := by
  rw [Nat.zero_add, Nat.mul_one]; exact arrL_get h
theorem arr_store {n : Nat} {g : Nat → Value} {i : Nat} {v : Value} (h : i < n) : setL (arrL n g) (0 + i * 1) [v] = arrL n (updV g i v) := by
  rw [Nat.zero_add, Nat.mul_one]; exact arrL_set h
theorem arr_obj {n : Nat} {g g' : Nat → Value} {T : TypeId} (h : ∀ i, i < n → g i = g' i) : C (arrL n g) T = C (arrL n g') T := by rw [arrL_congr h]

/-- guarded by what was itself left out -/
def GuardU (ops : Array Oper) (L : List (Nat × Value)) : Option (Nat × Bool) → Prop
  | none => False
  | some (j, _) => ∃ oj d, ops[j]? = some oj ∧ oj.dst = some d ∧ look L d = some undef
theorem wanted_U {n : Nat} {L : List (Nat × Value)} {a : Act} {ops : Array Oper} (hl : Sl n L a) {o : Oper} (hg : GuardU ops L o.guard) : Region.wanted o (yielded ops a.tmps) = false := by
  unfold Region.wanted
  cases h : o.guard with
  | none => rw [h] at hg; exact hg.elim
  | some p =>
    obtain ⟨j, b⟩ := p
    rw [h] at hg
    obtain ⟨oj, d, h1, h2, h3⟩ := hg
    simp [yielded, h1, h2, hl.get d _ h3, undef]
theorem wl_skipU {P : Program} {n : Nat} {L : List (Nat × Value)} {a : Act} {w : World} {ops : Array Oper} {Q : Exit → Act → World → Prop} {K : Act → World → Prop} {T : TypeId} {pos : String} {aft : Array Edge} {g : Option (Nat × Bool)} {op : Op} {d : Nat}
    (hl : Sl n L a) (hd : Nat.blt d n = true) (hg : GuardU ops L g) (k : ∀ a', Sl n ((d, undef) :: L) a' → K a' w) : OpW P ops Q ⟨some d, op, T, pos, aft, g⟩ K a w := by
  unfold OpW
  rw [if_neg (by rw [wanted_U hl (o := ⟨some d, op, T, pos, aft, g⟩) hg]; simp)]
  exact k _ (hl.put hd undef)
theorem wl_skipU0 {P : Program} {n : Nat} {L : List (Nat × Value)} {a : Act} {w : World} {ops : Array Oper} {Q : Exit → Act → World → Prop} {K : Act → World → Prop} {T : TypeId} {pos : String} {aft : Array Edge} {g : Option (Nat × Bool)} {op : Op}
    (hl : Sl n L a) (hg : GuardU ops L g) (k : K a w) : OpW P ops Q ⟨none, op, T, pos, aft, g⟩ K a w := by
  unfold OpW
  rw [if_neg (by rw [wanted_U hl (o := ⟨none, op, T, pos, aft, g⟩) hg]; simp)]
  exact k

/-! fields and cells of values -/
def fieldTOk (P : Program) (s f off ft : Nat) : Bool :=
  match P.underlying s with
  | some (.struct fs) => (match fs[f]? with | some fl => fl.offset == off && fl.type == ft | none => false)
  | _ => false
theorem fieldTOk_spec {P : Program} {s f off ft : Nat} (h : fieldTOk P s f off ft = true) : ∃ fs fl, P.underlying s = some (.struct fs) ∧ fs[f]? = some fl ∧ fl.offset = off ∧ fl.type = ft := by
  unfold fieldTOk at h
  split at h
  · rename_i fs hu
    split at h
    · rename_i fl hf
      simp only [Bool.and_eq_true, beq_iff_eq] at h
      exact ⟨fs, fl, hu, hf, h.1, h.2⟩
    · cases h
  · cases h
section vals
variable {P : Program} {n : Nat} {L : List (Nat × Value)} {a : Act} {w : World} {T : TypeId} {pos : String} {aft : Array Edge} {g : Option (Nat × Bool)} {dst : Option Nat} {x y : Operand}
theorem r_fieldV {s f off ft : Nat} {cs : List Value} {v : Value} (hl : Sl n L a) (hx : val L x = some (.agg ⟨cs⟩)) (hf : fieldTOk P s f off ft = true) (ht : oneOk P ft = true) (hc : cs[off]? = some v) :
    Gives P a ⟨dst, .field s x f, T, pos, aft, g⟩ w v w := by
  obtain ⟨fs, fl, h1, h2, rfl, rfl⟩ := fieldTOk_spec hf
  simp [Gives, execOp, hl.ev hx, Instr.field, run_underlying h1, h2, asAgg, part, (oneOk_run ht).1, hc]
theorem run_eq_bool {t : TypeId} {p q : Bool} (ht : P.underlying t = some .bool) : (Op.equal t (.bool p) (.bool q)).run P w = .ok (p == q) w := by
  unfold Op.equal
  show (Op.equalIn (9999 + 1) t (.bool p) (.bool q)).run P w = _
  unfold Op.equalIn
  simp [run_underlying ht]
theorem r_eql_bool {t u : TypeId} {p q : Bool} (hl : Sl n L a) (hx : val L x = some (.bool p)) (hy : val L y = some (.bool q)) (ht : P.underlying t = some .bool) : Gives P a ⟨dst, .binOp .eql t x y u, T, pos, aft, g⟩ w (.bool (p == q)) w := by
  simp [Gives, execOp, hl.ev hx, hl.ev hy, eqGuard, binOp, run_eq_bool ht]
theorem r_neq_bool {t u : TypeId} {p q : Bool} (hl : Sl n L a) (hx : val L x = some (.bool p)) (hy : val L y = some (.bool q)) (ht : P.underlying t = some .bool) : Gives P a ⟨dst, .binOp .neq t x y u, T, pos, aft, g⟩ w (.bool (!(p == q))) w := by
  simp [Gives, execOp, hl.ev hx, hl.ev hy, eqGuard, binOp, run_eq_bool ht]
end vals
end Go.Eng

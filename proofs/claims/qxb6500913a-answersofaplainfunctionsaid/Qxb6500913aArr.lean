import Derived.Test.Qxb6500913aEng
set_option linter.unusedVariables false
set_option linter.unusedSimpArgs false
namespace Go.Eng
/-- a row of n cells, by a function -/
@[irreducible] def arrL (n : Nat) (g : Nat → Value) : List Value := (List.range n).map g
def updV (g : Nat → Value) (i : Nat) (v : Value) : Nat → Value := fun j => if j = i then v else g j
theorem arrL_length (n : Nat) (g : Nat → Value) : (arrL n g).length = n := by simp [arrL]
theorem arrL_get {n : Nat} {g : Nat → Value} {i : Nat} (h : i < n) : (arrL n g)[i]? = some (g i) := by simp [arrL, h]
theorem arrL_congr {n : Nat} {g g' : Nat → Value} (h : ∀ i, i < n → g i = g' i) : arrL n g = arrL n g' := by
  unfold arrL
  exact List.map_congr_left fun i hi => h i (List.mem_range.1 hi)
theorem arrL_set {n : Nat} {g : Nat → Value} {i : Nat} {v : Value} (h : i < n) : setL (arrL n g) i [v] = arrL n (updV g i v) := by
  have hl := arrL_length n g
  apply List.ext_getElem?
  intro j
  simp only [setL, List.length_cons, List.length_nil, Nat.zero_add]
  by_cases h1 : j < i
  · rw [List.append_assoc, List.getElem?_append_left (by simp [hl]; omega), List.getElem?_take, if_pos h1, arrL_get (by omega), arrL_get (by omega)]
    simp [updV, show ¬ j = i by omega]
  · by_cases h2 : j = i
    · subst h2
      rw [List.append_assoc, List.getElem?_append_right (by simp [hl]; omega), arrL_get h]
      simp [hl, updV, show min j n = j by omega]
    · rw [List.append_assoc, List.getElem?_append_right (by simp [hl]; omega)]
      simp only [List.length_take, hl, show min i n = i by omega]
      rw [List.getElem?_append_right (by simp; omega)]
      simp only [List.getElem?_drop, List.length_cons, List.length_nil, Nat.zero_add]
      rw [show i + 1 + (j - i - 1) = j by omega]
      by_cases h3 : j < n
      · rw [arrL_get h3, arrL_get h3]; simp [updV, h2]
      · rw [List.getElem?_eq_none (by omega), List.getElem?_eq_none (by rw [arrL_length]; omega)]
theorem arr_load {n : Nat} {g : Nat → Value} {i : Nat} (h : i < n) : (arrL n g)[0 + i * 1]? = some (g i) := by
  rw [Nat.zero_add, Nat.mul_one]; exact arrL_get h
theorem arr_store {n : Nat} {g : Nat → Value} {i : Nat} {v : Value} (h : i < n) : setL (arrL n g) (0 + i * 1) [v] = arrL n (updV g i v) := by
  rw [Nat.zero_add, Nat.mul_one]; exact arrL_set h
theorem arr_obj {n : Nat} {g g' : Nat → Value} {T : TypeId} (h : ∀ i, i < n → g i = g' i) : C (arrL n g) T = C (arrL n g') T := by rw [arrL_congr h]

/-- guarded by what was itself left out -/
def GuardU (ops : Array Oper) (L : List (Nat × Value)) : Option (Nat × Bool) → Prop
  | none => False
  | some (j, _) => ∃ oj d, ops[j]? = some oj ∧ oj.dst = some d ∧ look L d = some undef
theorem wanted_U {n : Nat} {L : List (Nat × Value)} {a : Act} {ops : Array Oper} (hl : Sl n L a) {o : Oper} (hg : GuardU ops L o.guard) : Region.wanted o (yielded ops a.tmps) = false := by
  unfold Region.wanted
  cases h : o.guard with
  | none => rw [h] at hg; exact hg.elim
  | some p =>
    obtain ⟨j, b⟩ := p
    rw [h] at hg
    obtain ⟨oj, d, h1, h2, h3⟩ := hg
    simp [yielded, h1, h2, hl.get d _ h3, undef]
theorem wl_skipU {P : Program} {n : Nat} {L : List (Nat × Value)} {a : Act} {w : World} {ops : Array Oper} {Q : Exit → Act → World → Prop} {K : Act → World → Prop} {T : TypeId} {pos : String} {aft : Array Edge} {g : Option (Nat × Bool)} {op : Op} {d : Nat}
    (hl : Sl n L a) (hd : Nat.blt d n = true) (hg : GuardU ops L g) (k : ∀ a', Sl n ((d, undef) :: L) a' → K a' w) : OpW P ops Q ⟨some d, op, T, pos, aft, g⟩ K a w := by
  unfold OpW
  rw [if_neg (by rw [wanted_U hl (o := ⟨some d, op, T, pos, aft, g⟩) hg]; simp)]
  exact k _ (hl.put hd undef)
theorem wl_skipU0 {P : Program} {n : Nat} {L : List (Nat × Value)} {a : Act} {w : World} {ops : Array Oper} {Q : Exit → Act → World → Prop} {K : Act → World → Prop} {T : TypeId} {pos : String} {aft : Array Edge} {g : Option (Nat × Bool)} {op : Op}
    (hl : Sl n L a) (hg : GuardU ops L g) (k : K a w) : OpW P ops Q ⟨none, op, T, pos, aft, g⟩ K a w := by
  unfold OpW
  rw [if_neg (by rw [wanted_U hl (o := ⟨none, op, T, pos, aft, g⟩) hg]; simp)]
  exact k
end Go.Eng

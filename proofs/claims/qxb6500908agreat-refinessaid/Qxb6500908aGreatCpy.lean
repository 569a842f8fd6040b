import Derived.Test.Qxb6500908aGreatEng
import Derived.Test.Qxb6500908aGreatArr
set_option linter.unusedVariables false
set_option linter.unusedSimpArgs false
namespace Go.Eng
section cpy
variable {P : Program} {ops : Array Oper} {Q : Exit → Act → World → Prop} {n : Nat} {L : List (Nat × Value)} {D : List Nat} {w0 : World} {F G : List (Nat × Obj)} {a : Act} {w : World} {K : Act → World → Prop} {T : TypeId} {pos : String} {aft : Array Edge} {g : Option (Nat × Bool)} {dst : Option Nat}
variable {x y z : Operand} {t : TypeId} {b o len size : Nat} {k k' : IntKind} {i j : Int}
/-- a slice of an array, also at its very end -/
theorem r_sliceA11g (hl : Sl n L a) (hx : val L x = some (.pointer (some ⟨b, o, none⟩))) (hy : val L y = some (.int k i)) (hz : val L z = some (.int k' j)) (ht : arrOk P t len size = true) (h : 0 ≤ i ∧ i ≤ j ∧ j ≤ len) {q : Nat} (hq : i.toNat = q) {q2 : Nat} (hq2 : j.toNat = q2) :
    Gives P a ⟨dst, .slice t x (some y) (some z) none, T, pos, aft, g⟩ w (.slice (some ⟨b, o + (if len = q then 0 else q * size), none⟩) (q2 - q) (len - q)) w := by
  subst hq
  subst hq2
  obtain ⟨e, inf, h2, h3, rfl⟩ := arrOk_spec ht
  obtain ⟨h4, h5, h6⟩ := h
  have h8 : ¬ max j 0 < i := by omega
  by_cases hne : len = i.toNat
  · simp [Gives, execOp, hl.ev hx, hl.ev hy, hl.ev hz, Instr.sliceAt, run_underlying h2, Instr.sureAddr, Instr.sliceBounds, Instr.sliceBound, asIntOf, sizeOf, typeInfo, h3, h4, h6, show 0 ≤ j by omega, h8, ← hne]
  · simp [Gives, execOp, hl.ev hx, hl.ev hy, hl.ev hz, Instr.sliceAt, run_underlying h2, Instr.sureAddr, Instr.sliceBounds, Instr.sliceBound, asIntOf, sizeOf, typeInfo, h3, h4, h6, show 0 ≤ j by omega, h8, hne, add_off]
theorem r_sliceA10g (hl : Sl n L a) (hx : val L x = some (.pointer (some ⟨b, o, none⟩))) (hy : val L y = some (.int k i)) (ht : arrOk P t len size = true) (h : 0 ≤ i ∧ i ≤ len) {q : Nat} (hq : i.toNat = q) :
    Gives P a ⟨dst, .slice t x (some y) none none, T, pos, aft, g⟩ w (.slice (some ⟨b, o + (if len = q then 0 else q * size), none⟩) (len - q) (len - q)) w := by
  subst hq
  obtain ⟨e, inf, h2, h3, rfl⟩ := arrOk_spec ht
  obtain ⟨h4, h5⟩ := h
  by_cases hne : len = i.toNat
  · simp [Gives, execOp, hl.ev hx, hl.ev hy, Instr.sliceAt, run_underlying h2, Instr.sureAddr, Instr.sliceBounds, Instr.sliceBound, asIntOf, sizeOf, typeInfo, h3, h4, h5, ← hne]
  · simp [Gives, execOp, hl.ev hx, hl.ev hy, Instr.sliceAt, run_underlying h2, Instr.sureAddr, Instr.sliceBounds, Instr.sliceBound, asIntOf, sizeOf, typeInfo, h3, h4, h5, hne, add_off]
/-- copy within one block -/
theorem w_copy {d : Nat} {t2 : TypeId} {od os dl dc sl sc c : Nat} {l : List Value} {T' : TypeId} (hl : Sl n L a) (hh : Has D w0 F w) (hd : Nat.blt d n = true) (hg : GuardOk ops L g) (ht : slcOk P t size = true)
    (hx : val L x = some (.slice (some ⟨b, od, none⟩) dl dc)) (hy : val L y = some (.slice (some ⟨b, os, none⟩) sl sc)) (hf : Find F b (C l T') G) (hn : Nat.min sl dl = c) (h1 : od + c * size ≤ l.length) (h2 : os + c * size ≤ l.length) (h3 : l.all (·.oneCell') = true)
    {l' : List Value} (hset : setL l od ((l.drop os).take (c * size)) = l') (kk : ∀ a' w', Sl n ((d, .int .i64 c) :: L) a' → Has D w0 ((b, C l' T') :: G) w' → K a' w') :
    OpW P ops Q ⟨some d, .call { callee := .builtin .copy, args := #[x, y], argTypes := #[t, t2] }, T, pos, aft, g⟩ K a w := by
  have hm := hh.mem b _ hf.mem
  obtain ⟨e, inf, hu, hi, rfl⟩ := slcOk_spec ht
  have hlen : ((l.drop os).take (c * inf.size)).length = c * inf.size := by rw [List.length_take, List.length_drop]; omega
  have hld := run_loadCellsC (P := P) (o := os) (cs := (l.drop os).take (c * inf.size)) hm (by rw [hlen])
  rw [hlen] at hld
  have hst := run_storeC (P := P) (vs := (l.drop os).take (c * inf.size)) (o := od) hm (by rw [hlen]; exact h1) (by
    rw [List.all_eq_true] at h3 ⊢
    exact fun v hv => h3 v (List.mem_of_mem_drop (List.mem_of_mem_take hv)))
  refine wl_val hl hd hg (v := .int .i64 c) (w' := w.setRow b ⟨setL l od ((l.drop os).take (c * inf.size))⟩) ?_ fun a' hl' => kk a' _ hl' (hset ▸ hh.write hf (heap_setRow hm) rfl rfl rfl)
  simp [Gives, execOp, resolve, invoke, builtin, hl.ev hx, hl.ev hy, Builtin.copy_, run_underlying hu, Builtin.lenOf, hn, sizeOf, typeInfo, hi, Builtin.firstCells, hld, hst, goInt]
end cpy
theorem arrL_copy {N od os c : Nat} {g : Nat → Value} (h1 : od + c ≤ N) (h2 : os + c ≤ N) : setL (arrL N g) od (((arrL N g).drop os).take c) = arrL N (fun j => if od ≤ j ∧ j < od + c then g (os + (j - od)) else g j) := by
  have hl := arrL_length N g
  have hc : (((arrL N g).drop os).take c).length = c := by rw [List.length_take, List.length_drop, hl]; omega
  apply List.ext_getElem?
  intro j
  simp only [setL, hc]
  by_cases e1 : j < od
  · rw [List.append_assoc, List.getElem?_append_left (by rw [List.length_take, hl]; omega), List.getElem?_take, if_pos e1, arrL_get (by omega), arrL_get (by omega), if_neg (by omega)]
  · rw [List.append_assoc, List.getElem?_append_right (by rw [List.length_take, hl]; omega)]
    rw [show (List.take od (arrL N g)).length = od by rw [List.length_take, hl]; omega]
    by_cases e2 : j < od + c
    · rw [List.getElem?_append_left (by rw [hc]; omega), List.getElem?_take, if_pos (by omega), List.getElem?_drop, arrL_get (by omega), arrL_get (by omega), if_pos (by omega)]
    · rw [List.getElem?_append_right (by rw [hc]; omega), hc, List.getElem?_drop]
      by_cases e3 : j < N
      · rw [show od + c + (j - od - c) = j by omega, arrL_get e3, arrL_get e3, if_neg (by omega)]
      · rw [List.getElem?_eq_none (by rw [hl]; omega), List.getElem?_eq_none (by rw [arrL_length]; omega)]
theorem arrL_set2 {N o : Nat} {g : Nat → Value} {x y : Value} (h : o + 1 < N) : setL (arrL N g) o [x, y] = arrL N (updV (updV g o x) (o + 1) y) := by
  have hl := arrL_length N g
  apply List.ext_getElem?
  intro j
  simp only [setL, List.length_cons, List.length_nil, Nat.zero_add, Nat.reduceAdd]
  by_cases e1 : j < o
  · rw [List.append_assoc, List.getElem?_append_left (by rw [List.length_take, hl]; omega), List.getElem?_take, if_pos e1, arrL_get (by omega), arrL_get (by omega)]
    unfold updV
    rw [if_neg (by omega), if_neg (by omega)]
  · rw [List.append_assoc, List.getElem?_append_right (by rw [List.length_take, hl]; omega)]
    rw [show (List.take o (arrL N g)).length = o by rw [List.length_take, hl]; omega]
    by_cases e2 : j = o
    · subst e2
      rw [Nat.sub_self, arrL_get (by omega)]
      unfold updV
      rw [if_neg (by omega), if_pos rfl]; rfl
    · by_cases e3 : j = o + 1
      · subst e3
        rw [show o + 1 - o = 1 by omega, arrL_get (by omega)]
        unfold updV
        rw [if_pos rfl]; rfl
      · rw [List.getElem?_append_right (by simp; omega), List.getElem?_drop]
        simp only [List.length_cons, List.length_nil]
        by_cases e4 : j < N
        · rw [show o + 2 + (j - o - (0 + 1 + 1)) = j by omega, arrL_get e4, arrL_get e4]
          unfold updV
          rw [if_neg e3, if_neg e2]
        · rw [List.getElem?_eq_none (by rw [hl]; omega), List.getElem?_eq_none (by rw [arrL_length]; omega)]
theorem ite_one {c : Prop} [Decidable c] {x y : Value} (hx : x.oneCell' = true) (hy : y.oneCell' = true) : (if c then x else y).oneCell' = true := by split <;> assumption
theorem ite_same {c : Prop} [Decidable c] {x y x' y' : Value} (h1 : c → x = x') (h2 : ¬ c → y = y') : (if c then x else y) = (if c then x' else y') := by
  by_cases h : c
  · rw [if_pos h, if_pos h]; exact h1 h
  · rw [if_neg h, if_neg h]; exact h2 h
theorem arrL_all {N : Nat} {g : Nat → Value} (h : ∀ i, (g i).oneCell' = true) : (arrL N g).all (·.oneCell') = true := by
  unfold arrL
  rw [List.all_eq_true]
  intro v hv
  obtain ⟨i, _, rfl⟩ := List.mem_map.1 hv
  exact h i
end Go.Eng

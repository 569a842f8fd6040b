import Derived.Test.Qxb6500908aGreatEng
import Derived.Test.Qxb6500908aGreatArr
set_option linter.unusedVariables false
set_option linter.unusedSimpArgs false
namespace Go.Eng
section mkn
variable {P : Program} {n : Nat} {L : List (Nat × Value)} {a : Act} {w : World} {T : TypeId} {pos : String} {aft : Array Edge} {g : Option (Nat × Bool)} {dst : Option Nat} {x y : Operand}
variable {ops : Array Oper} {Q : Exit → Act → World → Prop} {K : Act → World → Prop} {D : List Nat} {w0 : World} {F G : List (Nat × Obj)}
/-- a slice of c zeros -/
theorem run_makeSliceN {t e size bytes : Nat} {z1 : Value} (ht : appOk P t e size bytes = true) (hz1 : zeroOk P e z1) (c : Nat) (hc : c ≤ 1000000) (hb : bytes ≤ 1000) :
    ∃ junk : List Value, (junk.length = c * size ∧ ∀ j, j < c * size → junk[j]? = some (z1.cells[j % size]!)) ∧ (Instr.makeSlice t (.int .i64 (c : Int)) (.int .i64 (c : Int))).run P w = .ok (.slice (some ⟨w.heap.size, 0, none⟩) c c) (w.alloc (C junk e)) := by
  obtain ⟨i, z, hu, hi, hz, rfl, rfl, hzs⟩ := appOk_spec ht
  obtain rfl : z1 = z := by
    unfold zeroOk at hz1
    rw [hi] at hz1
    simp only [Option.map_some, Option.some.injEq] at hz1
    rw [hz] at hz1
    exact (Option.some.inj hz1).symm
  have hw : IntKind.i64.wrap (c : Int) = (c : Int) := wrap_fits (by simp only [Fits]; omega)
  have hm : (i.bytes : Int) * (c : Int) ≤ 1000 * 1000000 := Int.mul_le_mul (by omega) (by omega) (by omega) (by omega)
  have hm2 : c * i.bytes ≤ 1000000 * 1000 := Nat.mul_le_mul hc hb
  have hr : ¬ c * i.bytes > roomBytes := by unfold roomBytes; omega
  refine ⟨((Array.range (c * i.size)).map (fun q => (if c * i.size = 0 then (#[] : Array Value) else z1.cells)[q % (if c * i.size = 0 then (#[] : Array Value) else z1.cells).size]!)).toList, ⟨by simp, fun j hj => ?_⟩, ?_⟩
  · rw [if_neg (by omega), hzs]
    simp [hj]
  · by_cases c0 : c * i.size = 0
    · simp [Instr.makeSlice, run_underlying hu, Sem.run_bind, asInt, asIntOf, typeInfo, hi, hw, askRoom, hr, sizeOf, c0, newRow, newObj, Sem.run, C, show ¬ (c : Int) < 0 by omega, show ¬ ((2 : Int) ^ 48 < (i.bytes : Int) * (c : Int)) by omega]
      rw [if_neg (by omega)]
      congr 3
      apply Array.ext'; simp
    · simp [Instr.makeSlice, run_underlying hu, Sem.run_bind, asInt, asIntOf, typeInfo, hi, hw, askRoom, hr, sizeOf, c0, newRow, newObj, Sem.run, C, zeroValue, hz, show ¬ (c : Int) < 0 by omega, show ¬ ((2 : Int) ^ 48 < (i.bytes : Int) * (c : Int)) by omega]
      rw [if_neg (by omega)]
      congr 3
      apply Array.ext'; simp
theorem w_makeSliceN {d : Nat} {t e size bytes c : Nat} {z1 : Value} (hl : Sl n L a) (hh : Has D w0 F w) (hd : Nat.blt d n = true) (hg : GuardOk ops L g) (ht : appOk P t e size bytes = true) (hz1 : zeroOk P e z1) (hx : val L x = some (.int .i64 (c : Int))) (hy : val L y = some (.int .i64 (c : Int))) (hc : c ≤ 1000000) (hb : bytes ≤ 1000)
    (k : ∀ b junk a' w', (junk.length = c * size ∧ ∀ j, j < c * size → junk[j]? = some (z1.cells[j % size]!)) → Sl n ((d, .slice (some ⟨b, 0, none⟩) c c) :: L) a' → Has D w0 ((b, C junk e) :: F) w' → K a' w') :
    OpW P ops Q ⟨some d, .makeSlice t x y, T, pos, aft, g⟩ K a w := by
  obtain ⟨junk, h1, h2⟩ := run_makeSliceN (w := w) ht hz1 c hc hb
  refine wl_val hl hd hg (v := .slice (some ⟨w.heap.size, 0, none⟩) c c) (w' := w.alloc (C junk e)) ?_ fun a' hl' => k _ junk a' _ h1 hl' (hh.alloc (C junk e))
  simp only [Gives, execOp, hl.ev hx, hl.ev hy, Sem.run_bind, h2, Result.andThen]
  rfl
/-- a function of the library that has no body -/
theorem r_extern2 {f : FuncId} {ts : Array TypeId} {v1 v2 v : Value} (hl : Sl n L a) (hx : val L x = some v1) (hy : val L y = some v2) (hc : ∀ w, (callFunc f #[v1, v2]).run P w = .ok (.value v) w) :
    Gives P a ⟨dst, .call { callee := .value (.func f), args := #[x, y], argTypes := ts }, T, pos, aft, g⟩ w v w := by
  have hf : a.eval (.func f) = .func (.func f) #[] #[] := rfl
  simp [Gives, execOp, resolve, invoke, hl.ev hx, hl.ev hy, hf, Deferred.ofValue, hc]
theorem r_xorI {t : TypeId} {i : Int} (hl : Sl n L a) (hx : val L x = some (.int .u64 i)) : Gives P a ⟨dst, .unOp .xor t x, T, pos, aft, g⟩ w (.int .u64 (bitsOf .xor .u64 18446744073709551615 i)) w := by
  have hm : IntKind.u64.max = 18446744073709551615 := rfl
  simp [Gives, execOp, hl.ev hx, Op.unary, Op.intBits, bitsOf, IntKind.signed, hm]
/-- a region, whatever its order: one state after it -/
theorem cut_region {c : Code} (I : Act → World → Prop) (h1 : c.wp P (fun e a w => e = Exit.normal ∧ I a w) a w) (h2 : ∀ a w, I a w → Q .normal a w) : c.wp P Q a w :=
  Code.wp_mono (fun e a w h => by obtain ⟨rfl, h⟩ := h; exact h2 a w h) h1
/-- any of three -/
theorem d_three {Lt : List Nat} {Cw : World → Prop} {fuel : Nat} {listed : Array Bool} {i j k : Nat} {oi oj ok : Oper} (hr : Region.ready .any ops listed = [i, j, k]) (hi : ops[i]? = some oi) (hj : ops[j]? = some oj) (hk : ops[k]? = some ok)
    (h1 : OpW P ops Q oi (fun a' w' => (Lt.contains i = false → Cw w') ∧ wpAnyR P ops Lt Cw Q fuel (listed.setIfInBounds i true) a' w') a w)
    (h2 : OpW P ops Q oj (fun a' w' => (Lt.contains j = false → Cw w') ∧ wpAnyR P ops Lt Cw Q fuel (listed.setIfInBounds j true) a' w') a w)
    (h3 : OpW P ops Q ok (fun a' w' => (Lt.contains k = false → Cw w') ∧ wpAnyR P ops Lt Cw Q fuel (listed.setIfInBounds k true) a' w') a w) : wpAnyR P ops Lt Cw Q (fuel + 1) listed a w :=
  ⟨fun h0 => (by rw [hr] at h0; cases h0), fun m hm => by
    rw [hr] at hm
    rcases List.mem_cons.1 hm with e | hm
    · subst e; exact wo hi h1
    · rcases List.mem_cons.1 hm with e | hm
      · subst e; exact wo hj h2
      · simp only [List.mem_singleton] at hm; subst hm; exact wo hk h3⟩
end mkn
end Go.Eng

import Derived.Test.Qxb6500908aGreatEng
import Derived.Test.Qxb6500908aGreatArr
set_option linter.unusedVariables false
set_option linter.unusedSimpArgs false
namespace Go.Eng
section mks
variable {P : Program} {n : Nat} {L : List (Nat × Value)} {a : Act} {w : World} {T : TypeId} {pos : String} {aft : Array Edge} {g : Option (Nat × Bool)} {dst : Option Nat} {x y : Operand}
variable {ops : Array Oper} {Q : Exit → Act → World → Prop} {K : Act → World → Prop} {D : List Nat} {w0 : World} {F G : List (Nat × Obj)}
theorem r_min {ts : Array TypeId} {k : IntKind} {i j : Int} (hl : Sl n L a) (hx : val L x = some (.int k i)) (hy : val L y = some (.int k j)) :
    Gives P a ⟨dst, .call { callee := .builtin .min, args := #[x, y], argTypes := ts }, T, pos, aft, g⟩ w (.int k (if j < i then j else i)) w := by
  by_cases c : j < i
  · simp [Gives, execOp, resolve, invoke, builtin, hl.ev hx, hl.ev hy, Builtin.min_, Builtin.min2, c]
  · simp [Gives, execOp, resolve, invoke, builtin, hl.ev hx, hl.ev hy, Builtin.min_, Builtin.min2, c]
/-- an empty slice with room for c -/
theorem run_makeSlice0 {t e size bytes : Nat} (ht : appOk P t e size bytes = true) (c : Nat) (hc : c ≤ 1000000) (hb : bytes ≤ 1000) :
    ∃ junk : List Value, junk.length = c * size ∧ (Instr.makeSlice t (.int .i64 0) (.int .i64 (c : Int))).run P w = .ok (.slice (some ⟨w.heap.size, 0, none⟩) 0 c) (w.alloc (C junk e)) := by
  obtain ⟨i, z, hu, hi, hz, rfl, rfl, hzs⟩ := appOk_spec ht
  have hw : IntKind.i64.wrap (c : Int) = (c : Int) := wrap_fits (by simp only [Fits]; omega)
  have hw0 : IntKind.i64.wrap 0 = 0 := rfl
  have hm : (i.bytes : Int) * (c : Int) ≤ 1000 * 1000000 := Int.mul_le_mul (by omega) (by omega) (by omega) (by omega)
  have hm2 : c * i.bytes ≤ 1000000 * 1000 := Nat.mul_le_mul hc hb
  have hr : ¬ c * i.bytes > roomBytes := by unfold roomBytes; omega
  refine ⟨((Array.range (c * i.size)).map (fun q => (if c * i.size = 0 then (#[] : Array Value) else z.cells)[q % (if c * i.size = 0 then (#[] : Array Value) else z.cells).size]!)).toList, by simp, ?_⟩
  by_cases c0 : c * i.size = 0
  · simp [Instr.makeSlice, run_underlying hu, Sem.run_bind, asInt, asIntOf, typeInfo, hi, hw, hw0, askRoom, hr, sizeOf, c0, newRow, newObj, Sem.run, C, show ¬ (c : Int) < 0 by omega, show ¬ ((2 : Int) ^ 48 < (i.bytes : Int) * (c : Int)) by omega]
    rw [if_neg (by omega)]
    congr 3
    apply Array.ext'; simp
  · simp [Instr.makeSlice, run_underlying hu, Sem.run_bind, asInt, asIntOf, typeInfo, hi, hw, hw0, askRoom, hr, sizeOf, c0, newRow, newObj, Sem.run, C, zeroValue, hz, show ¬ (c : Int) < 0 by omega, show ¬ ((2 : Int) ^ 48 < (i.bytes : Int) * (c : Int)) by omega]
    rw [if_neg (by omega)]
    congr 3
    apply Array.ext'; simp
theorem w_makeSlice0 {d : Nat} {t e size bytes c : Nat} (hl : Sl n L a) (hh : Has D w0 F w) (hd : Nat.blt d n = true) (hg : GuardOk ops L g) (ht : appOk P t e size bytes = true) (hx : val L x = some (.int .i64 0)) (hy : val L y = some (.int .i64 (c : Int))) (hc : c ≤ 1000000) (hb : bytes ≤ 1000)
    (k : ∀ b junk a' w', junk.length = c * size → Sl n ((d, .slice (some ⟨b, 0, none⟩) 0 c) :: L) a' → Has D w0 ((b, C junk e) :: F) w' → K a' w') :
    OpW P ops Q ⟨some d, .makeSlice t x y, T, pos, aft, g⟩ K a w := by
  obtain ⟨junk, h1, h2⟩ := run_makeSlice0 (w := w) ht c hc hb
  refine wl_val hl hd hg (v := .slice (some ⟨w.heap.size, 0, none⟩) 0 c) (w' := w.alloc (C junk e)) ?_ fun a' hl' => k _ junk a' _ h1 hl' (hh.alloc (C junk e))
  simp only [Gives, execOp, hl.ev hx, hl.ev hy, Sem.run_bind, h2, Result.andThen]
  rfl
/-- a literal without members -/
theorem w_buildSlice0 {d : Nat} {t e size bytes : Nat} (hl : Sl n L a) (hh : Has D w0 F w) (hd : Nat.blt d n = true) (hg : GuardOk ops L g) (ht : appOk P t e size bytes = true)
    (k : ∀ b a' w', Sl n ((d, .slice (some ⟨b, 0, none⟩) 0 0) :: L) a' → Has D w0 ((b, C [] e) :: F) w' → K a' w') :
    OpW P ops Q ⟨some d, .buildSlice t 0 #[], T, pos, aft, g⟩ K a w := by
  obtain ⟨i, z, hu, hi, hz, rfl, rfl, hzs⟩ := appOk_spec ht
  refine wl_val hl hd hg (v := .slice (some ⟨w.heap.size, 0, none⟩) 0 0) (w' := w.alloc (C [] e)) ?_ fun a' hl' => k _ a' _ hl' (hh.alloc (C [] e))
  simp [Gives, execOp, Instr.buildSlice, Sem.run_bind, run_underlying hu, sizeOf, typeInfo, hi, Instr.fill, newRow, newObj, Sem.run, C]
  congr 2
  apply Array.ext'; simp
/-- nothing is appended -/
theorem r_append0 {t e size bytes b o cnt cap b2 o2 c2 : Nat} (hl : Sl n L a) (hx : val L x = some (.slice (some ⟨b, o, none⟩) cnt cap)) (hy : val L y = some (.slice (some ⟨b2, o2, none⟩) 0 c2)) (ht : appOk P t e size bytes = true) (hc : cnt ≤ cap) :
    Gives P a ⟨dst, .call { callee := .builtin .append, args := #[x, y], argTypes := #[t, t] }, T, pos, aft, g⟩ w (.slice (some ⟨b, o, none⟩) cnt cap) w := by
  obtain ⟨i, z, hu, hi, hz, rfl, rfl, hzs⟩ := appOk_spec ht
  simp [Gives, execOp, resolve, invoke, builtin, hl.ev hx, hl.ev hy, Builtin.append_, run_underlying hu, sizeOf, typeInfo, hi, Builtin.lenOf, hc, Builtin.firstCells, loadCells, loadCellsFrom, storeCells, Sem.run]
theorem r_sliceS10x {t : TypeId} {size b o len cap : Nat} {k : IntKind} {i : Int} (hl : Sl n L a) (hx : val L x = some (.slice (some ⟨b, o, none⟩) len cap)) (hy : val L y = some (.int k i)) (ht : slcOk P t size = true) (h : 0 ≤ i ∧ i ≤ len ∧ len ≤ cap) {q : Nat} (hq : i.toNat = q) :
    Gives P a ⟨dst, .slice t x (some y) none none, T, pos, aft, g⟩ w (.slice (if cap = q then some ⟨b, o, none⟩ else some ⟨b, o + q * size, none⟩) (len - q) (cap - q)) w := by
  by_cases c : cap = q
  · rw [if_pos c]
    have := r_sliceS10e (T := T) (pos := pos) (aft := aft) (g := g) (dst := dst) (w := w) hl hx hy ht (by omega) hq
    rw [show cap - q = 0 by omega]; exact this
  · rw [if_neg c]
    exact r_sliceS10 hl hx hy ht (by omega) hq
theorem r_sliceS10z {t : TypeId} {size cap : Nat} {p : Option Addr} {k : IntKind} (hl : Sl n L a) (hx : val L x = some (.slice p 0 cap)) (hy : val L y = some (.int k 0)) (ht : slcOk P t size = true) :
    ∃ p', Gives P a ⟨dst, .slice t x (some y) none none, T, pos, aft, g⟩ w (.slice p' 0 cap) w := by
  obtain ⟨e, inf, h2, h3, rfl⟩ := slcOk_spec ht
  refine ⟨if cap = 0 then p else p.map (·.add 0), ?_⟩
  by_cases c : cap = 0
  · simp [Gives, execOp, hl.ev hx, hl.ev hy, Instr.sliceAt, Instr.slice, run_underlying h2, Instr.sliceBounds, Instr.sliceBound, asIntOf, sizeOf, typeInfo, h3, c]
  · simp [Gives, execOp, hl.ev hx, hl.ev hy, Instr.sliceAt, Instr.slice, run_underlying h2, Instr.sliceBounds, Instr.sliceBound, asIntOf, sizeOf, typeInfo, h3, c]
/-- nothing is copied -/
theorem r_copy0 {t t2 : TypeId} {size b o dl dc c2 : Nat} {p : Option Addr} (hl : Sl n L a) (hx : val L x = some (.slice (some ⟨b, o, none⟩) dl dc)) (hy : val L y = some (.slice p 0 c2)) (ht : slcOk P t size = true) :
    Gives P a ⟨dst, .call { callee := .builtin .copy, args := #[x, y], argTypes := #[t, t2] }, T, pos, aft, g⟩ w (.int .i64 0) w := by
  obtain ⟨e, inf, h2, h3, rfl⟩ := slcOk_spec ht
  cases p with
  | none => simp [Gives, execOp, resolve, invoke, builtin, hl.ev hx, hl.ev hy, Builtin.copy_, run_underlying h2, Builtin.lenOf, sizeOf, typeInfo, h3, Builtin.firstCells, storeCells, goInt, Sem.run]
  | some p => simp [Gives, execOp, resolve, invoke, builtin, hl.ev hx, hl.ev hy, Builtin.copy_, run_underlying h2, Builtin.lenOf, sizeOf, typeInfo, h3, Builtin.firstCells, loadCells, loadCellsFrom, storeCells, goInt, Sem.run]
/-- copy out of a block that is only read -/
theorem w_copyR {d : Nat} {t t2 : TypeId} {size b b2 od os dl dc sl sc c : Nat} {l l2 : List Value} {T' T2 : TypeId} {fr : Nat × Nat} (hl : Sl n L a) (hh : Has D w0 F w) (hd : Nat.blt d n = true) (hg : GuardOk ops L g) (ht : slcOk P t size = true)
    (hx : val L x = some (.slice (some ⟨b, od, none⟩) dl dc)) (hy : val L y = some (.slice (some ⟨b2, os, none⟩) sl sc)) (hf : Find F b (C l T') G) (hm2 : w.heap[b2]? = some (.cells ⟨l2⟩ T2 fr)) (hn : Nat.min sl dl = c) (h1 : od + c * size ≤ l.length) (h2 : os + c * size ≤ l2.length)
    {cs : List Value} (hcs : (l2.drop os).take (c * size) = cs) (h3 : cs.all (·.oneCell') = true)
    {l' : List Value} (hset : setL l od cs = l') (kk : ∀ a' w', Sl n ((d, .int .i64 c) :: L) a' → Has D w0 ((b, C l' T') :: G) w' → K a' w') :
    OpW P ops Q ⟨some d, .call { callee := .builtin .copy, args := #[x, y], argTypes := #[t, t2] }, T, pos, aft, g⟩ K a w := by
  have hm := hh.mem b _ hf.mem
  obtain ⟨e, inf, hu, hi, rfl⟩ := slcOk_spec ht
  have hlen : cs.length = c * inf.size := by rw [← hcs, List.length_take, List.length_drop]; omega
  have hld := run_loadCellsC (P := P) (o := os) (cs := cs) hm2 (by rw [hlen]; exact hcs)
  rw [hlen] at hld
  have hst := run_storeC (P := P) (vs := cs) (o := od) hm (by rw [hlen]; exact h1) h3
  refine wl_val hl hd hg (v := .int .i64 c) (w' := w.setRow b ⟨setL l od cs⟩) ?_ fun a' hl' => kk a' _ hl' (hset ▸ hh.write hf (heap_setRow hm) rfl rfl rfl)
  simp [Gives, execOp, resolve, invoke, builtin, hl.ev hx, hl.ev hy, Builtin.copy_, run_underlying hu, Builtin.lenOf, hn, sizeOf, typeInfo, hi, Builtin.firstCells, hld, hst, goInt]
end mks
end Go.Eng

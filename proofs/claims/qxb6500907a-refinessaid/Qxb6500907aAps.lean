import Derived.Test.Qxb6500907aEng
import Derived.Deep.AppendSrc
import Derived.Lib.AppendStr
set_option linter.unusedVariables false
set_option linter.unusedSimpArgs false
namespace Go.Eng
open Go.Lib
/-! ## a text's bytes put onto a row of bytes -/
section app
variable {P : Program} {n : Nat} {L : List (Nat × Value)} {a : Act} {w : World} {T : TypeId} {pos : String} {aft : Array Edge} {g : Option (Nat × Bool)}
variable {ops : Array Oper} {Q : Exit → Act → World → Prop} {K : Act → World → Prop} {D : List Nat} {w0 : World} {F G : List (Nat × Obj)}
theorem run_appendStr {t u ty e bytes : Nat} {v : Value} {cnt : Nat} {xs : List Value} {E : List (Nat × Obj)} {s : ByteArray} (ht : appOk P t e 1 bytes = true) (hus : P.underlying u = some .string) (hR : Row v cnt xs 1 e E) (hh : Has D w0 (E ++ G) w)
    (hm : 0 < s.size) (hb : (cnt + s.size) * bytes ≤ 70368744177664) (hb2 : cnt + s.size ≤ 4611686018427387904) (hby : bytes ≤ 4294967296) :
    ∃ v' E' w', (Builtin.append_ #[t, u] ty #[v, .string s]).run P w = .ok v' w' ∧ Row v' (cnt + s.size) (xs ++ strCells s) 1 e E' ∧ Has D w0 (E' ++ G) w' := by
  obtain ⟨i, z, hu, hi, hz, hsz, rfl, hzs⟩ := appOk_spec ht
  have hsl := strCells_length s
  have hG : Has D w0 G w := by
    have h' := hh.perm List.perm_append_comm
    exact h'.keep (G := E) ⟨List.Perm.refl _⟩
  rcases hR with ⟨rfl, rfl, rfl, rfl⟩ | ⟨b, cap, junk, rfl, hxl, hjl, hnc, rfl⟩
  · have hsrc : Src P i.size u (.string s) s.size (strCells s) w := by rw [hsz]; exact Src.ofString w hus s
    have hfit2 : Builtin.nextslicecap (0 + s.size) 0 * i.bytes ≤ 281474976710656 := growslice_fits (by omega) (by omega)
    have hr := run_append_grow_src (P := P) w t u ty e i z hu hi hz none 0 0 [] (run_firstCells_none w.drew i.size 0 0 0) (.string s) s.size (strCells s) hsrc (by omega) (by omega) hfit2
    have hge : 0 + s.size ≤ grownCap w (0 + s.size) 0 e := grownCap_ge w (0 + s.size) 0 e
    refine ⟨_, _, _, hr, .inr ⟨w.heap.size, grownCap w (0 + s.size) 0 e, (Builtin.zeroCells z.cells (grownCap w (0 + s.size) 0 e - (0 + s.size))).toList, rfl, ?_, ?_, hge, rfl⟩, ?_⟩
    · simp [hsl]
    · have := size_zeroCells z.cells (grownCap w (0 + s.size) 0 e - (0 + s.size))
      simp only [List.nil_append, List.length_append, hsl, Array.length_toList, this, hzs]
      omega
    · have := hG.drew.alloc (C ([] ++ strCells s ++ (Builtin.zeroCells z.cells (grownCap w (0 + s.size) 0 e - (0 + s.size))).toList) e)
      have e1 : (([] ++ strCells s).toArray ++ Builtin.zeroCells z.cells (grownCap w (0 + s.size) 0 e - (0 + s.size))) = (⟨[] ++ strCells s ++ (Builtin.zeroCells z.cells (grownCap w (0 + s.size) 0 e - (0 + s.size))).toList⟩ : Array Value) := by apply Array.ext'; simp
      rw [e1]
      exact this
  · have hf : Find ([(b, C (xs ++ junk) e)] ++ G) b (C (xs ++ junk) e) G := find_head
    have hm' := hh.mem b _ hf.mem
    have hxl' : xs.length = cnt := by rw [hxl, Nat.mul_one]
    rw [Nat.mul_one] at hjl
    by_cases hroom : cnt + s.size ≤ cap
    · have hr := run_append_room_string (P := P) w t u ty e i hu hus hi hsz b cnt cap ⟨xs ++ junk⟩ hm' s hroom (by simp only [List.size_toArray, hjl]; exact hroom)
      have e1 : (List.take cnt (xs ++ junk) ++ strCells s ++ List.drop (cnt + s.size) (xs ++ junk)) = (xs ++ strCells s) ++ junk.drop s.size := by
        rw [← hxl', List.take_left, List.drop_append, List.drop_eq_nil_of_le (by omega)]
        simp
      refine ⟨_, _, _, hr, .inr ⟨b, cap, junk.drop s.size, rfl, ?_, ?_, hroom, rfl⟩, ?_⟩
      · simp [hxl', hsl]
      · simp only [List.length_append] at hjl ⊢
        simp only [List.length_drop]; omega
      · have := hh.write hf (heap_setRow hm' (cs := ⟨(xs ++ strCells s) ++ junk.drop s.size⟩)) rfl rfl rfl
        rw [show (⟨xs ++ junk⟩ : Array Value).toList = xs ++ junk from rfl, e1]
        exact this
    · have hfit2 : Builtin.nextslicecap (cnt + s.size) cap * i.bytes ≤ 281474976710656 := growslice_fits (by omega) (by omega)
      have holds : ∀ j u, xs[j]? = some u → w.cell? ((⟨b, 0, none⟩ : Addr).add j) = some u := fun j u hj => by
        rw [add_off]
        have hlt : j < xs.length := (List.getElem?_eq_some_iff.1 hj).1
        simp only [World.cell?, hm', C, Nat.zero_add]
        simpa [List.getElem?_append_left hlt] using hj
      have hr := run_append_grow_string (P := P) w t u ty e i z hu hus hi hz ⟨b, 0, none⟩ cnt cap xs (by rw [hsz, Nat.mul_one]; exact hxl') holds s (by omega) (by omega) hfit2
      have hge : cnt + s.size ≤ grownCap w (cnt + s.size) cap e := grownCap_ge w (cnt + s.size) cap e
      refine ⟨_, _, _, hr, .inr ⟨w.heap.size, grownCap w (cnt + s.size) cap e, (Builtin.zeroCells z.cells (grownCap w (cnt + s.size) cap e - (cnt + s.size))).toList, rfl, ?_, ?_, hge, rfl⟩, ?_⟩
      · simp [hxl', hsl]
      · have := size_zeroCells z.cells (grownCap w (cnt + s.size) cap e - (cnt + s.size))
        simp only [List.length_append, hsl, hxl', Array.length_toList, this, hzs]
        omega
      · have := hG.drew.alloc (C (xs ++ strCells s ++ (Builtin.zeroCells z.cells (grownCap w (cnt + s.size) cap e - (cnt + s.size))).toList) e)
        have e1 : (xs.toArray ++ (strCells s).toArray ++ Builtin.zeroCells z.cells (grownCap w (cnt + s.size) cap e - (cnt + s.size))) = (⟨xs ++ strCells s ++ (Builtin.zeroCells z.cells (grownCap w (cnt + s.size) cap e - (cnt + s.size))).toList⟩ : Array Value) := by apply Array.ext'; simp
        rw [e1]
        exact this
theorem w_appendStr {d : Nat} {x y : Operand} {t u e bytes : Nat} {v : Value} {cnt : Nat} {xs : List Value} {E G : List (Nat × Obj)} {s : ByteArray} (hl : Sl n L a) (hh : Has D w0 F w) (hd : Nat.blt d n = true) (hg : GuardOk ops L g)
    (ht : appOk P t e 1 bytes = true) (hus : P.underlying u = some .string) (hx : val L x = some v) (hy : val L y = some (.string s)) (hR : Row v cnt xs 1 e E) (hp : Keeps F E G)
    (hm : 0 < s.size) (hb : (cnt + s.size) * bytes ≤ 70368744177664) (hb2 : cnt + s.size ≤ 4611686018427387904) (hby : bytes ≤ 4294967296)
    (k : ∀ v' E' a' w', Row v' (cnt + s.size) (xs ++ strCells s) 1 e E' → Sl n ((d, v') :: L) a' → Has D w0 (E' ++ G) w' → K a' w') :
    OpW P ops Q ⟨some d, .call { callee := .builtin .append, args := #[x, y], argTypes := #[t, u] }, T, pos, aft, g⟩ K a w := by
  obtain ⟨v', E', w', hr, hR', hh'⟩ := run_appendStr (P := P) (ty := T) ht hus hR (hh.perm hp.perm) hm hb hb2 hby
  refine wl_val hl hd hg (v := v') (w' := w') ?_ fun a' hl' => k v' E' a' w' hR' hl' hh'
  simp [Gives, execOp, resolve, invoke, builtin, hl.ev hx, hl.ev hy, hr]
end app
end Go.Eng

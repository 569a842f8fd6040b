import Derived.Test.Qxb6500915aGreatDoorEng
import Derived.Test.Qxb6500915aGreatDoorRw
import Derived.Shelf.SlSortFuncK.WholeK
import Derived.Shelf.GgSortFunc.Tiny
import Derived.Shelf.Lay
import Derived.Ground.GgsProg
set_option linter.unusedVariables false
set_option linter.unusedSimpArgs false
/-! sorting with a closure that may lay blocks: rows of structs and their swaps -/
namespace Go.Eng
open Go.Sort Go.RowKit
section srt
variable {α : Type} [Inhabited α] (enc : α → List Value) (k : Nat)
theorem flat_eqG (hk : ∀ x, (enc x).length = k) (hk0 : 0 < k) (l : List α) : (flatK enc k l.toArray).toList = fl enc l := by
  apply List.ext_getElem?
  intro t
  by_cases ht : t < l.length * k
  · have h1 : t < (flatK enc k l.toArray).size := by simpa using ht
    have h2 : t / k < l.length := Nat.div_lt_of_lt_mul (by rw [Nat.mul_comm]; exact ht)
    have hq : l[t / k]? = some l[t / k] := List.getElem?_eq_getElem h2
    have hg := get_flatK enc k l.toArray t (by simpa using ht)
    rw [getElem!_pos _ t h1] at hg
    rw [Array.getElem?_toList, Array.getElem?_eq_getElem h1, hg]
    have e1 : (l.toArray)[t / k]! = l[t / k] := by
      rw [getElem!_pos l.toArray (t / k) (by simpa using h2)]; rfl
    rw [e1]
    have hm : t % k < k := Nat.mod_lt _ hk0
    have hj : (enc l[t / k])[t % k]? = some (enc l[t / k])[t % k]! := by
      rw [getElem!_pos _ _ (by rw [hk]; exact hm)]
      exact List.getElem?_eq_getElem _
    have := fl_cell hk hq hj []
    rw [List.append_nil] at this
    rw [← this]
    congr 1
    rw [Nat.zero_add, Nat.mul_comm]; exact Nat.div_add_mod t k
  · rw [List.getElem?_eq_none (by simp; omega), List.getElem?_eq_none (by rw [fl_len (s := k) hk]; omega)]
theorem put_cellsG (hk : ∀ x, (enc x).length = k) (hk0 : 0 < k) (l l' : List α) (junk : List Value) (hl : l'.length = l.length) : putCells id 0 (flatK enc k l'.toArray) (⟨fl enc l ++ junk⟩ : Array Value) = ⟨fl enc l' ++ junk⟩ := by
  have hfl := flat_eqG enc k hk hk0 l'
  apply Array.ext'
  unfold putCells
  rw [Array.toList_mapIdx]
  apply List.ext_getElem?
  intro t
  rw [List.getElem?_mapIdx]
  by_cases ht : t < l.length * k
  · have h1 : t < (fl enc l).length := by rw [fl_len hk]; exact ht
    have h2 : t < (fl enc l').length := by rw [fl_len hk, hl]; exact ht
    rw [List.getElem?_append_left h1, List.getElem?_append_left h2, List.getElem?_eq_getElem h1]
    have hs : t < (flatK enc k l'.toArray).size := by simp [hl]; exact ht
    rw [Option.map_some, if_pos ⟨Nat.zero_le _, by simpa using hs⟩, ← hfl]
    rw [Nat.sub_zero, getElem!_pos _ t hs]
    simp [hs]
  · have h1 : (fl enc l).length ≤ t := by rw [fl_len hk]; omega
    have h2 : (fl enc l').length ≤ t := by rw [fl_len hk, hl]; omega
    have e : (fl enc l).length = (fl enc l').length := by rw [fl_len hk, fl_len hk, hl]
    rw [List.getElem?_append_right h1, List.getElem?_append_right h2, e]
    cases junk[t - (fl enc l').length]? with
    | none => rfl
    | some v =>
      rw [Option.map_some, if_neg]
      rintro ⟨_, h3⟩
      simp at h3
      rw [hl] at h3
      omega
theorem holds_rowG (hk : ∀ x, (enc x).length = k) (hk0 : 0 < k) (d : Array α) (junk : List Value) (w : World) (b : Nat) (T : TypeId) (hb : w.heap[b]? = some (C (fl enc d.toList ++ junk) T)) : HoldsK enc k w b 0 d := by
  obtain ⟨l⟩ := d
  intro j hj
  have hj2 : j < (fl enc l).length := by rw [fl_len hk]; simpa using hj
  have hfl := flat_eqG enc k hk hk0 l
  have e : (flatK enc k l.toArray)[j]! = (fl enc l)[j] := by
    rw [getElem!_pos _ j hj]
    simp only [← hfl, Array.getElem_toList]
  refine ⟨?_, ?_⟩
  · show w.cell? ⟨b, 0 + j, none⟩ = some ((flatK enc k l.toArray)[j]!)
    rw [e]
    simp only [World.cell?, hb, C, Nat.zero_add]
    show (if (Option.isSome (none : Option Nat)) = true then none else ((⟨fl enc l ++ junk⟩ : Array Value))[j]?) = _
    simp [List.getElem?_append_left hj2, hj2]
  · simp [World.frozen?, hb, C]
/-- the row rewritten, as one write of its block -/
theorem heap_putG (hk : ∀ x, (enc x).length = k) (hk0 : 0 < k) (d d' : Array α) (junk : List Value) (hs : d'.size = d.size) (w : World) (b : Nat) (T : TypeId) (hb : w.heap[b]? = some (C (fl enc d.toList ++ junk) T)) :
    (putRowK enc k w b 0 d').heap = w.heap.setIfInBounds b (C (fl enc d'.toList ++ junk) T) := by
  have hbl : b < w.heap.size := (Array.getElem?_eq_some_iff.1 hb).1
  have hh : (putRowK enc k w b 0 d').heap = w.heap.modify b (onCells (putCells id 0 (flatK enc k d'))) := rfl
  have hp := put_cellsG enc k hk hk0 d.toList d'.toList junk (by simpa using hs)
  rw [hh]
  apply Array.ext_getElem?
  intro i
  rw [Array.getElem?_modify, Array.getElem?_setIfInBounds]
  by_cases c : b = i
  · subst c
    rw [if_pos rfl, if_pos rfl, if_pos hbl, hb]
    show some (Obj.cells (putCells id 0 (flatK enc k d') ⟨fl enc d.toList ++ junk⟩) T (0, 0)) = _
    rw [show d' = d'.toList.toArray from by simp, hp]; simp [C]
  · rw [if_neg c, if_neg c]
end srt
section rule
variable {P : Program} {n : Nat} {L : List (Nat × Value)} {a : Act} {w : World} {T : TypeId} {pos : String} {aft : Array Edge} {g : Option (Nat × Bool)} {dfs : List Deferred}
variable {ops : Array Oper} {Q : Exit → Act → World → Prop} {K : Act → World → Prop} {D : List Nat} {w0 : World} {F G : List (Nat × Obj)}
/-- a call of the swap that reflectlite makes -/
theorem w_swap {α : Type} [Inhabited α] {enc : α → List Value} {sz : Nat} {d : Nat} {f : FuncId} {xs : List Operand} {fo : Operand} {cap : Array Value} {ts : Array TypeId} {i1 j1 : Int} {b : Nat} {dk : Array α} {junk : List Value} {T' : TypeId}
    (i j : Nat) (hk : ∀ x, (enc x).length = sz) (hk0 : 0 < sz) (hl : SlD dfs n L a) (hh : Has D w0 F w) (hd : Nat.blt d n = true) (hg : GuardOk ops L g) (hf : val L fo = some (.func (.func f) #[] cap)) (hv : vals L xs = some [.int .i64 i1, .int .i64 j1])
    (hb : Find F b (C (fl enc dk.toList ++ junk) T') G) (hs : Go.Proofs.SwapSwapsK P f cap enc sz b 0 dk.size) (hi1 : i1 = (i : Int)) (hj1 : j1 = (j : Int)) (hi : i < dk.size) (hj : j < dk.size)
    (k : ∀ a' w', SlD dfs n ((d, .tuple #[]) :: L) a' → Has D w0 ((b, C (fl enc (swp dk i j).toList ++ junk) T') :: G) w' → K a' w') :
    OpW P ops Q ⟨some d, .call { callee := .value fo, args := ⟨xs⟩, argTypes := ts }, T, pos, aft, g⟩ K a w := by
  subst hi1; subst hj1
  have hm := hh.mem b _ hb.mem
  have hH := holds_rowG enc sz hk hk0 dk junk w b T' hm
  have hr := hs w dk hH rfl i j hi hj
  have hw : (w.setCells b (0 + i * sz) (enc dk[j]!)).setCells b (0 + j * sz) (enc dk[i]!) = putRowK enc sz w b 0 (swp dk i j) := by
    have := putRowK_swp enc sz hk w b 0 dk i j hi hj
    rw [putRowK_self enc sz w b 0 dk hH] at this
    exact this
  rw [hw] at hr
  have he := hl.evs xs _ hv
  have hmap : (Array.map a.eval ⟨xs⟩ : Array Value) = ⟨[.int .i64 (i : Int), .int .i64 (j : Int)]⟩ := by
    apply Array.ext'
    simp [he]
  refine wl_val hl hd hg (v := .tuple #[]) (w' := putRowK enc sz w b 0 (swp dk i j)) ?_ fun a' hl' => k a' _ hl' (hh.write hb (heap_putG enc sz hk hk0 dk (swp dk i j) junk (by simp [swp]) w b T' hm) rfl rfl rfl)
  have hr' : (callFunc f (⟨[.int .i64 (i : Int), .int .i64 (j : Int)]⟩ ++ cap)).run P w = .ok (.value (.tuple #[])) (putRowK enc sz w b 0 (swp dk i j)) := hr
  simp [Gives, execOp, resolve, hl.ev hf, Deferred.ofValue, invoke, hmap, hr']
end rule
end Go.Eng

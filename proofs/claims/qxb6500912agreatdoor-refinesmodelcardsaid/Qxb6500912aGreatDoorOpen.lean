import Derived.Test.Qxb6500912aGreatDoorRow
import Derived.Test.Qxb6500912aGreatDoorZ29
import Derived.Stop.LaidErr
import Derived.SizedLaws
namespace Go.Proofs.Qxb6500912aGreatDoor
open Go.Eng
set_option linter.unusedVariables false
set_option linter.unusedSimpArgs false

open Go.ChangeShapes Go.WideShapes Go.ChangeAt Go.RowKit Go.Deep
theorem own : ownKnob Tryz.prog.godebug = none := by kernel_rfl
theorem laidOut : laidOutB Tryz.prog = true := by kernel_rfl
theorem cells50 : Tryz.prog.cellsOf 50 = 16 := by kernel_rfl
theorem cells33 : Tryz.prog.cellsOf 33 = 10 := by kernel_rfl
theorem cells31 : Tryz.prog.cellsOf 31 = 7 := by kernel_rfl
theorem cells29 : Tryz.prog.cellsOf 29 = 1 := by kernel_rfl
theorem cells47 : Tryz.prog.cellsOf 47 = 1 := by kernel_rfl
theorem cells38 : Tryz.prog.cellsOf 38 = 1 := by kernel_rfl
theorem cells4 : Tryz.prog.cellsOf 4 = 1 := by kernel_rfl
theorem cells48 : Tryz.prog.cellsOf 48 = 1 := by kernel_rfl
theorem cells73 : Tryz.prog.cellsOf 73 = 2 := by kernel_rfl
theorem bytes73 : Tryz.prog.bytesOf 73 = 8 := by kernel_rfl
theorem read22 : Tryz.prog.readableRec 22 = true := by kernel_rfl
theorem size22 : 22 < Tryz.prog.types.size := of_decide_eq_true (by kernel_rfl)
section
variable {H : Type} {enc : TypeId × Value → H} {W : World} {sp : Nat → Bool} {hd : Bool}
theorem wf_u8 {z : Int} (h : (Lit.int .u8 z).wf = true) : 0 ≤ z ∧ z ≤ 255 := by
  have e1 : IntKind.u8.min = 0 := rfl
  have e2 : IntKind.u8.max = 255 := rfl
  simpa [Lit.wf, e1, e2] using h
theorem wf_u32 {z : Int} (h : (Lit.int .u32 z).wf = true) : 0 ≤ z ∧ z ≤ 4294967295 := by
  have e1 : IntKind.u32.min = 0 := rfl
  have e2 : IntKind.u32.max = 4294967295 := rfl
  simpa [Lit.wf, e1, e2] using h
theorem u8_open {fuel : Nat} {t : TypeId} {c : Value} {x : DataW H × List MemPlace} (ht : Tryz.prog.underlying t = some (.int .u8)) (h : DataW.trod enc Tryz.prog W 0 sp hd fuel t [c] = some x) : ∃ m : Int, c = .int .u8 m ∧ 0 ≤ m ∧ m ≤ 255 := by
  obtain ⟨z, hz, _, hw⟩ := DataW.trod_int ht h
  injection hz with hz _
  exact ⟨z, hz, wf_u8 hw⟩
theorem u32_open {fuel : Nat} {t : TypeId} {c : Value} {x : DataW H × List MemPlace} (ht : Tryz.prog.underlying t = some (.int .u32)) (h : DataW.trod enc Tryz.prog W 0 sp hd fuel t [c] = some x) : ∃ m : Int, c = .int .u32 m ∧ U m ∧ x = (.lit (.int .u32 m), []) := by
  obtain ⟨z, hz, hx, hw⟩ := DataW.trod_int ht h
  injection hz with hz _
  have := wf_u32 hw
  exact ⟨z, hz, ⟨by omega, by omega⟩, hx⟩
theorem bool_open {fuel : Nat} {t : TypeId} {c : Value} {x : DataW H × List MemPlace} (ht : Tryz.prog.underlying t = some .bool) (h : DataW.trod enc Tryz.prog W 0 sp hd fuel t [c] = some x) : ∃ m : Bool, c = .bool m ∧ x = (.lit (.bool m), []) := by
  obtain ⟨b, hz, hx⟩ := DataW.trod_bool ht h
  injection hz with hz _
  exact ⟨b, hz, hx⟩
def cfD {H : Type} (c : CF) : DataW H := .agg [.agg [.lit (.int .u32 c.init), .lit (.int .u32 c.maxc), .lit (.int .u32 c.bn), .lit (.int .u32 c.bd), .lit (.int .u32 c.abc), .lit (.int .u32 c.dupt), .lit (.bool c.idle)], .lit (.int .u32 c.mss), .lit (.int .u32 c.start), .lit (.bool c.sack)]
theorem lst4 {α : Type} {l : List α} (h : l.length = 4) : ∃ a b c d, l = [a, b, c, d] := by
  match l, h with
  | [a, b, c, d], _ => exact ⟨a, b, c, d, rfl⟩
theorem lst7 {α : Type} {l : List α} (h : l.length = 7) : ∃ a b c d e f g, l = [a, b, c, d, e, f, g] := by
  match l, h with
  | [a, b, c, d, e, f, g], _ => exact ⟨a, b, c, d, e, f, g, rfl⟩
set_option maxRecDepth 20000 in
theorem prof_open {fuel : Nat} {c0 c1 c2 c3 c4 c5 c6 : Value} {x : DataW H × List MemPlace} (h : DataW.trod enc Tryz.prog W 0 sp hd fuel 31 [c0, c1, c2, c3, c4, c5, c6] = some x) : ∃ (a0 a1 a2 a3 a4 a5 : Int) (a6 : Bool), c0 = .int .u32 a0 ∧ c1 = .int .u32 a1 ∧ c2 = .int .u32 a2 ∧ c3 = .int .u32 a3 ∧ c4 = .int .u32 a4 ∧ c5 = .int .u32 a5 ∧ c6 = .bool a6 ∧
    x.1 = .agg [.lit (.int .u32 a0), .lit (.int .u32 a1), .lit (.int .u32 a2), .lit (.int .u32 a3), .lit (.int .u32 a4), .lit (.int .u32 a5), .lit (.bool a6)] ∧ U a0 ∧ U a1 ∧ U a2 ∧ U a3 ∧ U a4 ∧ U a5 := by
  obtain ⟨xs, n, _, hx, _, hxl, hf⟩ := DataW.trod_struct Tryz.underlying31 h
  have h0 : DataW.trod enc Tryz.prog W 0 sp hd n 29 (([c0, c1, c2, c3, c4, c5, c6].drop 0).take (Tryz.prog.cellsOf 29)) = xs[0]? := hf 0 _ rfl
  have h1 : DataW.trod enc Tryz.prog W 0 sp hd n 29 (([c0, c1, c2, c3, c4, c5, c6].drop 1).take (Tryz.prog.cellsOf 29)) = xs[1]? := hf 1 _ rfl
  have h2 : DataW.trod enc Tryz.prog W 0 sp hd n 29 (([c0, c1, c2, c3, c4, c5, c6].drop 2).take (Tryz.prog.cellsOf 29)) = xs[2]? := hf 2 _ rfl
  have h3 : DataW.trod enc Tryz.prog W 0 sp hd n 29 (([c0, c1, c2, c3, c4, c5, c6].drop 3).take (Tryz.prog.cellsOf 29)) = xs[3]? := hf 3 _ rfl
  have h4 : DataW.trod enc Tryz.prog W 0 sp hd n 29 (([c0, c1, c2, c3, c4, c5, c6].drop 4).take (Tryz.prog.cellsOf 29)) = xs[4]? := hf 4 _ rfl
  have h5 : DataW.trod enc Tryz.prog W 0 sp hd n 29 (([c0, c1, c2, c3, c4, c5, c6].drop 5).take (Tryz.prog.cellsOf 29)) = xs[5]? := hf 5 _ rfl
  have h6 : DataW.trod enc Tryz.prog W 0 sp hd n 4 (([c0, c1, c2, c3, c4, c5, c6].drop 6).take (Tryz.prog.cellsOf 4)) = xs[6]? := hf 6 _ rfl
  rw [cells29] at h0 h1 h2 h3 h4 h5
  rw [cells4] at h6
  obtain ⟨y0, y1, y2, y3, y4, y5, y6, rfl⟩ := lst7 (show xs.length = 7 from hxl)
  obtain ⟨a0, rfl, r0, rfl⟩ := u32_open Tryz.underlying29 (show DataW.trod enc Tryz.prog W 0 sp hd n 29 [c0] = some y0 from h0)
  obtain ⟨a1, rfl, r1, rfl⟩ := u32_open Tryz.underlying29 (show DataW.trod enc Tryz.prog W 0 sp hd n 29 [c1] = some y1 from h1)
  obtain ⟨a2, rfl, r2, rfl⟩ := u32_open Tryz.underlying29 (show DataW.trod enc Tryz.prog W 0 sp hd n 29 [c2] = some y2 from h2)
  obtain ⟨a3, rfl, r3, rfl⟩ := u32_open Tryz.underlying29 (show DataW.trod enc Tryz.prog W 0 sp hd n 29 [c3] = some y3 from h3)
  obtain ⟨a4, rfl, r4, rfl⟩ := u32_open Tryz.underlying29 (show DataW.trod enc Tryz.prog W 0 sp hd n 29 [c4] = some y4 from h4)
  obtain ⟨a5, rfl, r5, rfl⟩ := u32_open Tryz.underlying29 (show DataW.trod enc Tryz.prog W 0 sp hd n 29 [c5] = some y5 from h5)
  obtain ⟨a6, rfl, rfl⟩ := bool_open Tryz.underlying4 (show DataW.trod enc Tryz.prog W 0 sp hd n 4 [c6] = some y6 from h6)
  exact ⟨a0, a1, a2, a3, a4, a5, a6, rfl, rfl, rfl, rfl, rfl, rfl, rfl, by rw [hx]; rfl, r0, r1, r2, r3, r4, r5⟩
set_option maxRecDepth 20000 in
theorem cfg_open {fuel : Nat} {cs : List Value} {x : DataW H × List MemPlace} (h : DataW.trod enc Tryz.prog W 0 sp hd fuel 33 cs = some x) : ∃ c : CF, CFok c ∧ cs = cfL c ∧ x.1 = cfD c := by
  obtain ⟨xs, n, _, hx, hlen, hxl, hf⟩ := DataW.trod_struct Tryz.underlying33 h
  rw [cells33] at hlen
  match cs, hlen with
  | [c0, c1, c2, c3, c4, c5, c6, c7, c8, c9], _ =>
    have h0 : DataW.trod enc Tryz.prog W 0 sp hd n 31 (([c0, c1, c2, c3, c4, c5, c6, c7, c8, c9].drop 0).take (Tryz.prog.cellsOf 31)) = xs[0]? := hf 0 _ rfl
    have h1 : DataW.trod enc Tryz.prog W 0 sp hd n 29 (([c0, c1, c2, c3, c4, c5, c6, c7, c8, c9].drop 7).take (Tryz.prog.cellsOf 29)) = xs[1]? := hf 1 _ rfl
    have h2 : DataW.trod enc Tryz.prog W 0 sp hd n 29 (([c0, c1, c2, c3, c4, c5, c6, c7, c8, c9].drop 8).take (Tryz.prog.cellsOf 29)) = xs[2]? := hf 2 _ rfl
    have h3 : DataW.trod enc Tryz.prog W 0 sp hd n 4 (([c0, c1, c2, c3, c4, c5, c6, c7, c8, c9].drop 9).take (Tryz.prog.cellsOf 4)) = xs[3]? := hf 3 _ rfl
    rw [cells31] at h0
    rw [cells29] at h1 h2
    rw [cells4] at h3
    obtain ⟨y0, y1, y2, y3, rfl⟩ := lst4 (show xs.length = 4 from hxl)
    obtain ⟨a0, a1, a2, a3, a4, a5, a6, rfl, rfl, rfl, rfl, rfl, rfl, rfl, hy0, r0, r1, r2, r3, r4, r5⟩ := prof_open (show DataW.trod enc Tryz.prog W 0 sp hd n 31 [c0, c1, c2, c3, c4, c5, c6] = some y0 from h0)
    obtain ⟨a7, rfl, r7, rfl⟩ := u32_open Tryz.underlying29 (show DataW.trod enc Tryz.prog W 0 sp hd n 29 [c7] = some y1 from h1)
    obtain ⟨a8, rfl, r8, rfl⟩ := u32_open Tryz.underlying29 (show DataW.trod enc Tryz.prog W 0 sp hd n 29 [c8] = some y2 from h2)
    obtain ⟨a9, rfl, rfl⟩ := bool_open Tryz.underlying4 (show DataW.trod enc Tryz.prog W 0 sp hd n 4 [c9] = some y3 from h3)
    exact ⟨⟨a0, a1, a2, a3, a4, a5, a6, a7, a8, a9⟩, ⟨r0, r1, r2, r3, r4, r5, r7, r8⟩, rfl, by rw [hx]; simp only [List.map_cons, List.map_nil, hy0, cfD]⟩
set_option maxRecDepth 20000 in
theorem blk_open {fuel : Nat} {cs : List Value} {x : DataW H × List MemPlace} (h : DataW.trod enc Tryz.prog W 0 sp hd fuel 73 cs = some x) : ∃ q : Int × Int, cs = pc q := by
  obtain ⟨xs, n, _, hx, hlen, hxl, hf⟩ := DataW.trod_struct Tryz.underlying73 h
  rw [cells73] at hlen
  match cs, hlen with
  | [c0, c1], _ =>
    have h0 : DataW.trod enc Tryz.prog W 0 sp hd n 29 (([c0, c1].drop 0).take (Tryz.prog.cellsOf 29)) = xs[0]? := hf 0 _ rfl
    have h1 : DataW.trod enc Tryz.prog W 0 sp hd n 29 (([c0, c1].drop 1).take (Tryz.prog.cellsOf 29)) = xs[1]? := hf 1 _ rfl
    have hx2 : xs.length = 2 := hxl
    rw [cells29, List.getElem?_eq_getElem (by omega)] at h0 h1
    obtain ⟨a0, rfl, r0, _⟩ := u32_open Tryz.underlying29 h0
    obtain ⟨a1, rfl, r1, _⟩ := u32_open Tryz.underlying29 h1
    exact ⟨(a0, a1), rfl⟩
/-- what a slice of blocks holds -/
def Src (p : Option Addr) (dat : List (Int × Int)) (Sc : List (Nat × Obj)) : Prop :=
  (dat = [] ∧ Sc = []) ∨ ∃ (db off : Nat) (c : List Value) (T : TypeId) (fr : Nat × Nat), p = some ⟨db, off, none⟩ ∧ Sc = [(db, .cells ⟨c⟩ T fr)] ∧ ∀ i q, dat[i]? = some q → (c.drop (off + i * 2)).take 2 = pc q
theorem blocks_open {fuel : Nat} {cs : List Value} {x : DataW H × List MemPlace} (h : DataW.trod enc Tryz.prog W 0 (fun _ => true) true fuel 48 cs = some x) :
    ∃ p cap dat Sc, cs = [.slice p dat.length cap] ∧ Src p dat Sc ∧ Mem Sc W ∧ (dat = [] ∨ ∃ elems spare, x.1 = .slice elems spare ∧ elems.length = dat.length) := by
  rcases open_slice Tryz.underlying48 h with ⟨rfl, _⟩ | ⟨a, len, cap, m, n, D, Pl, rfl, hb, hl, hm, hmm, hxx, hx⟩
  · exact ⟨none, 0, [], [], rfl, .inl ⟨rfl, rfl⟩, fun b o m => (by cases m), .inl rfl⟩
  · simp only [if_true] at hmm
    subst m
    rw [cells73] at hx
    have hop : ∀ i, i < len → ∃ q : Int × Int, W.cells? 0 (a.add (i * 2)) 2 = some (pc q) := by
      intro i hi
      obtain ⟨cs', h1, h2⟩ := hx i (by omega)
      obtain ⟨q, rfl⟩ := blk_open h2
      exact ⟨q, h1⟩
    by_cases h0 : len = 0
    · subst h0
      exact ⟨some a, cap, [], [], rfl, .inl ⟨rfl, rfl⟩, fun b o m => (by cases m), .inl rfl⟩
    · obtain ⟨f, hfx⟩ := choose_lt (α := Int × Int) (p := fun i q => W.cells? 0 (a.add (i * 2)) 2 = some (pc q)) hop
      have c0 := hfx 0 (by omega)
      obtain ⟨hs, c, T, fr, hblk, _⟩ := cells_row c0 (by omega)
      obtain ⟨b, so, spot⟩ := a
      have hsp : spot = none := by simpa [Addr.add] using hs
      subst hsp
      have hblk' : W.heap[b]? = some (.cells ⟨c⟩ T fr) := by rw [add_plain] at hblk; exact hblk
      refine ⟨some ⟨b, so, none⟩, cap, (List.range len).map f, [(b, .cells ⟨c⟩ T fr)], by simp, .inr ⟨b, so, c, T, fr, rfl, rfl, ?_⟩, ?_, .inr ⟨_, _, by rw [hxx], by simp⟩⟩
      · intro i q hi
        rw [List.getElem?_map] at hi
        rcases Nat.lt_or_ge i len with hlt | hge
        · rw [List.getElem?_range hlt] at hi
          simp only [Option.map_some, Option.some.injEq] at hi
          subst hi
          have ci := hfx i hlt
          rw [add_plain] at ci
          obtain ⟨_, c', T', fr', hb', ht⟩ := cells_row ci (by omega)
          have e : c' = c := by
            have hb2 : W.heap[b]? = some (.cells ⟨c'⟩ T' fr') := hb'
            rw [hblk'] at hb2
            injection hb2 with hb2
            injection hb2 with hb3 _ _
            injection hb3 with hb4
            exact hb4.symm
          subst e
          exact ht
        · rw [List.getElem?_eq_none (by simpa using hge)] at hi; cases hi
      · intro b' o m
        simp only [List.mem_singleton, Prod.mk.injEq] at m
        rw [m.1, m.2]; exact hblk'
def OpW (o : DO) (d : DataW H) : Prop := (d.weights Tryz.prog 50).all (· ≤ reachBytes) = true → o.dat.length ≤ 140737488351232
theorem w38 (l : List (DataW H)) : DataW.weights Tryz.prog 50 (.agg l) = DataW.weightsEach Tryz.prog [47, 33, 29, 29, 4, 38, 48] l := by
  simp only [DataW.weights, Tryz.underlying50]; rfl
set_option maxRecDepth 20000 in
/-- one op, read -/
theorem op_open {fuel : Nat} {cs : List Value} {x : DataW H × List MemPlace} (h : DataW.trod enc Tryz.prog W 0 (fun _ => true) true fuel 50 cs = some x) : ∃ o : DO, (o.ok ∧ Mem o.Sc W) ∧ cs = o.vals ∧ OpW o x.1 := by
  obtain ⟨xs, n, _, hx, hlen, hxl, hf⟩ := DataW.trod_struct Tryz.underlying50 h
  rw [cells50] at hlen
  match cs, hlen with
  | [c0, c1, c2, c3, c4, c5, c6, c7, c8, c9, c10, c11, c12, c13, c14, c15], _ =>
    generalize hL : [c0, c1, c2, c3, c4, c5, c6, c7, c8, c9, c10, c11, c12, c13, c14, c15] = L at hf
    have h0 : DataW.trod enc Tryz.prog W 0 (fun _ => true) true n 47 ((L.drop 0).take (Tryz.prog.cellsOf 47)) = xs[0]? := hf 0 _ rfl
    have h1 : DataW.trod enc Tryz.prog W 0 (fun _ => true) true n 33 ((L.drop 1).take (Tryz.prog.cellsOf 33)) = xs[1]? := hf 1 _ rfl
    have h2 : DataW.trod enc Tryz.prog W 0 (fun _ => true) true n 29 ((L.drop 11).take (Tryz.prog.cellsOf 29)) = xs[2]? := hf 2 _ rfl
    have h3 : DataW.trod enc Tryz.prog W 0 (fun _ => true) true n 29 ((L.drop 12).take (Tryz.prog.cellsOf 29)) = xs[3]? := hf 3 _ rfl
    have h4 : DataW.trod enc Tryz.prog W 0 (fun _ => true) true n 4 ((L.drop 13).take (Tryz.prog.cellsOf 4)) = xs[4]? := hf 4 _ rfl
    have h5 : DataW.trod enc Tryz.prog W 0 (fun _ => true) true n 38 ((L.drop 14).take (Tryz.prog.cellsOf 38)) = xs[5]? := hf 5 _ rfl
    have h6 : DataW.trod enc Tryz.prog W 0 (fun _ => true) true n 48 ((L.drop 15).take (Tryz.prog.cellsOf 48)) = xs[6]? := hf 6 _ rfl
    subst hL
    rw [cells47] at h0
    rw [cells33] at h1
    rw [cells29] at h2 h3
    rw [cells4] at h4
    rw [cells38] at h5
    rw [cells48] at h6
    obtain ⟨y0, y1, y2, y3, y4, y5, y6, rfl⟩ := lst7 (show xs.length = 7 from hxl)
    obtain ⟨kd, rfl, r0⟩ := u8_open Tryz.underlying47 (show DataW.trod enc Tryz.prog W 0 (fun _ => true) true n 47 [c0] = some y0 from h0)
    obtain ⟨cf, r1, e1, _⟩ := cfg_open (show DataW.trod enc Tryz.prog W 0 (fun _ => true) true n 33 [c1, c2, c3, c4, c5, c6, c7, c8, c9, c10] = some y1 from h1)
    obtain ⟨A, rfl, r2, _⟩ := u32_open Tryz.underlying29 (show DataW.trod enc Tryz.prog W 0 (fun _ => true) true n 29 [c11] = some y2 from h2)
    obtain ⟨B, rfl, r3, _⟩ := u32_open Tryz.underlying29 (show DataW.trod enc Tryz.prog W 0 (fun _ => true) true n 29 [c12] = some y3 from h3)
    obtain ⟨dup, rfl, _⟩ := bool_open Tryz.underlying4 (show DataW.trod enc Tryz.prog W 0 (fun _ => true) true n 4 [c13] = some y4 from h4)
    obtain ⟨gr, rfl, _⟩ := u8_open Tryz.underlying38 (show DataW.trod enc Tryz.prog W 0 (fun _ => true) true n 38 [c14] = some y5 from h5)
    obtain ⟨p, cap, dat, Sc, e6, hS, hM, hW⟩ := blocks_open (show DataW.trod enc Tryz.prog W 0 (fun _ => true) true n 48 [c15] = some y6 from h6)
    have e7 : c15 = .slice p dat.length cap := by simpa using e6
    subst e7
    refine ⟨⟨kd, cf, A, B, dup, gr, p, cap, dat, Sc⟩, ⟨⟨r0, r1, r2, r3, hS⟩, hM⟩, ?_, ?_⟩
    · unfold cfL at e1
      simp only [List.cons.injEq, and_true] at e1
      obtain ⟨rfl, rfl, rfl, rfl, rfl, rfl, rfl, rfl, rfl, rfl⟩ := e1
      rfl
    · intro hw
      rw [hx, w38] at hw
      rcases hW with rfl | ⟨elems, spare, he, hel⟩
      · simp
      · have hb : (elems.length + spare.length) * Tryz.prog.bytesOf 73 ≤ reachBytes := of_decide_eq_true (List.all_eq_true.1 hw _ (DataW.weights_mem_each (ts := [47, 33, 29, 29, 4, 38, 48]) (j := 6) (t := 48) rfl (by simp only [List.map_cons, List.map_nil, he]; rfl) ((elems.length + spare.length) * Tryz.prog.bytesOf 73) (by simp [DataW.weights, Tryz.underlying48])))
        have e : reachBytes = 140737488351232 := rfl
        rw [bytes73, e] at hb
        show dat.length ≤ _
        omega
theorem weightsAll_mem {P : Program} {e : TypeId} : ∀ {l : List (DataW H)} {d : DataW H}, d ∈ l → ∀ n ∈ d.weights P e, n ∈ DataW.weightsAll P e l
  | _ :: _, _, hd, n, hn => by
    simp only [DataW.weightsAll, List.mem_append]
    rcases List.mem_cons.1 hd with rfl | h
    · exact Or.inl hn
    · exact Or.inr (weightsAll_mem h n hn)
theorem ops_open {v : Value} {d : DataW H} {ps : List MemPlace} (hv : ∃ p len cap, v = .slice p len cap) (h : DataW.Trod enc Tryz.prog W 0 (fun _ => true) true 22 v d ps) (hw : (d.weights Tryz.prog 22).all (· ≤ reachBytes) = true) :
    ∃ sb c T fr p n cap ops, v = .slice p n cap ∧ n = ops.length ∧ n ≤ 9223372036854775807 ∧ DOps sb c p cap ops ∧ DIn sb c T fr ops W := by
  obtain ⟨p, len, cap, rfl⟩ := hv
  obtain ⟨fuel, hf⟩ := h
  have hcells : (Value.slice p len cap).cells.toList = [.slice p len cap] := rfl
  rw [hcells] at hf
  rcases open_slice Tryz.underlying22 hf with ⟨hcs, _⟩ | ⟨a, len', cap', m, n, D, Pl, hcs, hb, hl, hm, hmm, hxx, hx⟩
  · injection hcs with e _
    injection e with e1 e2 e3
    subst e1; subst e2; subst e3
    exact ⟨0, [], 0, (0, 0), none, 0, 0, [], rfl, rfl, by omega, ⟨Nat.le_refl _, fun o m => (by cases m), fun o m => (by cases m), fun h => absurd h (by simp)⟩, fun h => absurd h (by simp), fun d m => by cases m⟩
  · injection hcs with e _
    injection e with e1 e2 e3
    subst e1; subst e2; subst e3
    simp only [if_true] at hmm
    subst m
    have hbig : len ≤ 9223372036854775807 := by unfold maxLen at hm; omega
    rw [cells50] at hx
    injection hxx with hxd _
    have hop : ∀ i, i < len → ∃ o : DO, ((o.ok ∧ Mem o.Sc W) ∧ o.dat.length ≤ 140737488351232) ∧ W.cells? 0 (a.add (i * 16)) 16 = some o.vals := by
      intro i hi
      obtain ⟨cs', h1, h2⟩ := hx i (by omega)
      obtain ⟨o, ho, rfl, hsm⟩ := op_open h2
      refine ⟨o, ⟨ho, hsm ?_⟩, h1⟩
      rw [List.all_eq_true] at hw ⊢
      intro n hn
      refine hw n ?_
      rw [hxd]
      simp only [DataW.weights, Tryz.underlying22, List.mem_cons, List.mem_append]
      exact .inr (.inl (weightsAll_mem (List.mem_map.2 ⟨i, List.mem_range.2 hi, rfl⟩) n hn))
    by_cases h0 : len = 0
    · subst h0
      exact ⟨0, [], 0, (0, 0), some a, 0, cap, [], rfl, rfl, by omega, ⟨Nat.zero_le _, fun o m => (by cases m), fun o m => (by cases m), fun h => absurd h (by simp)⟩, fun h => absurd h (by simp), fun d m => by cases m⟩
    · haveI : Inhabited DO := ⟨⟨0, cfg0, 0, 0, false, 0, none, 0, [], []⟩⟩
      obtain ⟨f, hfx⟩ := choose_lt (α := DO) (p := fun i o => ((o.ok ∧ Mem o.Sc W) ∧ o.dat.length ≤ 140737488351232) ∧ W.cells? 0 (a.add (i * 16)) 16 = some o.vals) hop
      obtain ⟨_, c0⟩ := hfx 0 (by omega)
      obtain ⟨hs, c, T, fr, hblk, _⟩ := cells_row c0 (by omega)
      obtain ⟨b, so, spot⟩ := a
      have hsp : spot = none := by simpa [Addr.add] using hs
      subst hsp
      have hblk' : W.heap[b]? = some (.cells ⟨c⟩ T fr) := by rw [add_plain] at hblk; exact hblk
      refine ⟨b, c, T, fr, some ⟨b, so, none⟩, len, cap, (List.range len).map f, rfl, by simp, hbig, ⟨by simpa using hl, ?_, ?_, fun _ => ⟨so, rfl, ?_⟩⟩, fun _ => hblk', ?_⟩
      · intro o ho
        obtain ⟨i, hi, rfl⟩ := List.mem_map.1 ho
        exact (hfx i (List.mem_range.1 hi)).1.1.1
      · intro o ho
        obtain ⟨i, hi, rfl⟩ := List.mem_map.1 ho
        exact (hfx i (List.mem_range.1 hi)).1.2
      · intro i o hi
        rw [List.getElem?_map] at hi
        rcases Nat.lt_or_ge i len with hlt | hge
        · rw [List.getElem?_range hlt] at hi
          simp only [Option.map_some, Option.some.injEq] at hi
          subst hi
          obtain ⟨_, ci⟩ := hfx i hlt
          rw [add_plain] at ci
          obtain ⟨_, c', T', fr', hb', ht⟩ := cells_row ci (by omega)
          have e : c' = c := by
            have hb2 : W.heap[b]? = some (.cells ⟨c'⟩ T' fr') := hb'
            rw [hblk'] at hb2
            injection hb2 with hb2
            injection hb2 with hb3 _ _
            injection hb3 with hb4
            exact hb4.symm
          subst e
          exact ht
        · rw [List.getElem?_eq_none (by simpa using hge)] at hi; cases hi
      · intro o ho
        obtain ⟨i, hi, rfl⟩ := List.mem_map.1 ho
        exact (hfx i (List.mem_range.1 hi)).1.1.2
end

end Go.Proofs.Qxb6500912aGreatDoor

import Derived.Test.Qxb6500915aGreatDoorRow
import Derived.Test.Qxb6500915aGreatDoorC3
import Derived.Stop.LaidErr
import Derived.SizedLaws
namespace Go.Proofs.Qxb6500915aGreatDoor
open Go.Eng
set_option linter.unusedVariables false
set_option linter.unusedSimpArgs false

open Go.ChangeShapes Go.WideShapes Go.ChangeAt Go.RowKit Go.Deep
theorem own : ownKnob Tryz.prog.godebug = none := by kernel_rfl
theorem laidOut : laidOutB Tryz.prog = true := by kernel_rfl
theorem cells51 : Tryz.prog.cellsOf 51 = 9 := by kernel_rfl
theorem cells41 : Tryz.prog.cellsOf 41 = 1 := by kernel_rfl
theorem cells9 : Tryz.prog.cellsOf 9 = 1 := by kernel_rfl
theorem cells42 : Tryz.prog.cellsOf 42 = 1 := by kernel_rfl
theorem cells43 : Tryz.prog.cellsOf 43 = 1 := by kernel_rfl
theorem cells44 : Tryz.prog.cellsOf 44 = 1 := by kernel_rfl
theorem cells48 : Tryz.prog.cellsOf 48 = 4 := by kernel_rfl
theorem cells46 : Tryz.prog.cellsOf 46 = 2 := by kernel_rfl
theorem cells49 : Tryz.prog.cellsOf 49 = 1 := by kernel_rfl
theorem cells54 : Tryz.prog.cellsOf 54 = 4 := by kernel_rfl
theorem cells52 : Tryz.prog.cellsOf 52 = 1 := by kernel_rfl
theorem cells3 : Tryz.prog.cellsOf 3 = 1 := by kernel_rfl
theorem cells2 : Tryz.prog.cellsOf 2 = 1 := by kernel_rfl
theorem bytes39 : Tryz.prog.bytesOf 54 = 40 := by kernel_rfl
theorem bytes76 : Tryz.prog.bytesOf 51 = 112 := by kernel_rfl
theorem read22 : Tryz.prog.readableRec 22 = true := by kernel_rfl
theorem size22 : 22 < Tryz.prog.types.size := of_decide_eq_true (by kernel_rfl)
section
variable {H : Type} {enc : TypeId × Value → H} {W : World} {sp : Nat → Bool} {hd : Bool}
theorem wf_u8 {z : Int} (h : (Lit.int .u8 z).wf = true) : 0 ≤ z ∧ z ≤ 255 := by
  have e1 : IntKind.u8.min = 0 := rfl
  have e2 : IntKind.u8.max = 255 := rfl
  simpa [Lit.wf, e1, e2] using h
theorem wf_i64 {z : Int} (h : (Lit.int .i64 z).wf = true) : I64 z := by
  have e1 : IntKind.i64.min = -9223372036854775808 := rfl
  have e2 : IntKind.i64.max = 9223372036854775807 := rfl
  simpa [Lit.wf, e1, e2] using h
theorem u8_open {fuel : Nat} {t : TypeId} {c : Value} {x : DataW H × List MemPlace} (ht : Tryz.prog.underlying t = some (.int .u8)) (h : DataW.trod enc Tryz.prog W 0 sp hd fuel t [c] = some x) : ∃ m : Int, c = .int .u8 m ∧ 0 ≤ m ∧ m ≤ 255 := by
  obtain ⟨z, hz, _, hw⟩ := DataW.trod_int ht h
  injection hz with hz _
  exact ⟨z, hz, wf_u8 hw⟩
theorem i64_open {fuel : Nat} {t : TypeId} {c : Value} {x : DataW H × List MemPlace} (ht : Tryz.prog.underlying t = some (.int .i64)) (h : DataW.trod enc Tryz.prog W 0 sp hd fuel t [c] = some x) : ∃ m : Int, c = .int .i64 m ∧ I64 m := by
  obtain ⟨z, hz, _, hw⟩ := DataW.trod_int ht h
  injection hz with hz _
  exact ⟨z, hz, wf_i64 hw⟩
theorem u64_open {fuel : Nat} {t : TypeId} {c : Value} {x : DataW H × List MemPlace} (ht : Tryz.prog.underlying t = some (.int .u64)) (h : DataW.trod enc Tryz.prog W 0 sp hd fuel t [c] = some x) : ∃ m : Int, c = .int .u64 m := by
  obtain ⟨z, hz, _, hw⟩ := DataW.trod_int ht h
  injection hz with hz _
  exact ⟨z, hz⟩
theorem str_open {fuel : Nat} {c : Value} {x : DataW H × List MemPlace} (h : DataW.trod enc Tryz.prog W 0 sp hd fuel 9 [c] = some x) : ∃ s : ByteArray, c = .string s ∧ s.size ≤ maxLen ∧ ((x.1.weights Tryz.prog 9).all (· ≤ reachBytes) = true → s.size ≤ 140737488351232) := by
  obtain ⟨s, hz, rfl, hw⟩ := DataW.trod_string Tryz.underlying9 h
  injection hz with hz _
  refine ⟨s, hz, hw, fun h9 => ?_⟩
  have e : reachBytes = 140737488351232 := rfl
  simp only [DataW.weights, List.all_cons, List.all_nil, Bool.and_true, decide_eq_true_eq, e] at h9
  exact h9
theorem each_all {ts : List TypeId} {ds : List (DataW H)} {j : Nat} {t : TypeId} {d : DataW H} (h : (DataW.weightsEach Tryz.prog ts ds).all (· ≤ reachBytes) = true) (ht : ts[j]? = some t) (hd : ds[j]? = some d) : (d.weights Tryz.prog t).all (· ≤ reachBytes) = true := List.all_eq_true.2 fun n hn => List.all_eq_true.1 h n (DataW.weights_mem_each (j := j) ht hd n hn)
theorem weightsAll_mem {P : Program} {e : TypeId} : ∀ {l : List (DataW H)} {d : DataW H}, d ∈ l → ∀ n ∈ d.weights P e, n ∈ DataW.weightsAll P e l
  | _ :: _, _, hd, n, hn => by
    simp only [DataW.weightsAll, List.mem_append]
    rcases List.mem_cons.1 hd with rfl | h
    · exact Or.inl hn
    · exact Or.inr (weightsAll_mem h n hn)
theorem pieces {α : Type} {f : α → List Value} {s : Nat} (hs : ∀ a, (f a).length = s) (c : List Value) : ∀ (l : List α) (o : Nat), (∀ i a, l[i]? = some a → (c.drop (o + i * s)).take s = f a) → (c.drop o).take (l.length * s) = fl f l
  | [], o, _ => by simp [fl]
  | a :: l, o, h => by
    have h0 := h 0 a rfl
    rw [Nat.zero_mul, Nat.add_zero] at h0
    have h1 := pieces hs c l (o + s) fun i b hb => by
      have := h (i + 1) b (by simpa using hb)
      rw [Nat.add_mul, Nat.one_mul] at this
      rw [show o + s + i * s = o + (i * s + s) by omega]; exact this
    rw [List.length_cons, Nat.add_mul, Nat.one_mul, Nat.add_comm, List.take_add, List.drop_drop, h0, h1, fl_cons]
/-- a slice of things that can be read -/
theorem slice_open {α : Type} {f : α → List Value} {s : Nat} (hs : ∀ a, (f a).length = s) (hs0 : 0 < s) {t e : TypeId} (ht : Tryz.prog.underlying t = some (.slice e)) (hc : Tryz.prog.cellsOf e = s) (Pe : α → DataW H → Prop)
    (hel : ∀ fuel cs x, DataW.trod enc Tryz.prog W 0 (fun _ => true) true fuel e cs = some x → ∃ a, cs = f a ∧ Pe a x.1) {fuel : Nat} {cs : List Value} {x : DataW H × List MemPlace} (h : DataW.trod enc Tryz.prog W 0 (fun _ => true) true fuel t cs = some x) :
    ∃ (p : Option Addr) (cap : Nat) (l : List α) (Z : List (Nat × Obj)), cs = [.slice p l.length cap] ∧ VwG s (.slice p l.length cap) l.length (fl f l) Z ∧ Mem Z W ∧ (l = [] ∨ ∃ elems spare, x.1 = .slice elems spare ∧ elems.length = l.length ∧ ∀ (i : Nat) (a : α), l[i]? = some a → ∃ d : DataW H, elems[i]? = some d ∧ Pe a d) := by
  rcases open_slice ht h with ⟨rfl, _⟩ | ⟨a, len, cap, m, n, D, Pl, rfl, hb, hl, hm, hmm, hxx, hx⟩
  · exact ⟨none, 0, [], [], rfl, .inl ⟨rfl, rfl, none, 0, rfl⟩, fun b o m => (by cases m), .inl rfl⟩
  · simp only [if_true] at hmm
    subst m
    rw [hc] at hx
    have hop : ∀ i, i < len → ∃ q : α, W.cells? 0 (a.add (i * s)) s = some (f q) ∧ Pe q (D i) := by
      intro i hi
      obtain ⟨cs', h1, h2⟩ := hx i (by omega)
      obtain ⟨q, rfl, h3⟩ := hel _ _ _ h2
      exact ⟨q, h1, h3⟩
    by_cases h0 : len = 0
    · subst h0
      exact ⟨some a, cap, [], [], rfl, .inl ⟨rfl, rfl, some a, cap, rfl⟩, fun b o m => (by cases m), .inl rfl⟩
    · obtain ⟨a0, _⟩ := hop 0 (by omega)
      haveI : Inhabited α := ⟨a0⟩
      obtain ⟨g, hfx⟩ := choose_lt (α := α) (p := fun i q => W.cells? 0 (a.add (i * s)) s = some (f q) ∧ Pe q (D i)) hop
      have c0 := (hfx 0 (by omega)).1
      obtain ⟨hsx, c, T, fr, hblk, _⟩ := cells_row c0 hs0
      obtain ⟨b, so, spot⟩ := a
      have hsp : spot = none := by simpa [Addr.add] using hsx
      subst hsp
      have hblk' : W.heap[b]? = some (.cells ⟨c⟩ T fr) := by rw [add_plain] at hblk; exact hblk
      have hln : ((List.range len).map g).length = len := by simp
      refine ⟨some ⟨b, so, none⟩, cap, (List.range len).map g, [(b, .cells ⟨c⟩ T fr)], by rw [hln], .inr ⟨b, so, cap, c, T, fr, by rw [hln]; omega, rfl, by rw [hln]; omega, by simp, ?_, fl_len hs _⟩, ?_, .inr ⟨_, _, by rw [hxx], by simp, ?_⟩⟩
      · rw [fl_len hs]
        refine pieces hs c _ so fun i q hi => ?_
        rw [List.getElem?_map] at hi
        rcases Nat.lt_or_ge i len with hlt | hge
        · rw [List.getElem?_range hlt] at hi
          simp only [Option.map_some, Option.some.injEq] at hi
          subst hi
          have ci := (hfx i hlt).1
          rw [add_plain] at ci
          obtain ⟨_, c', T', fr', hb', ht'⟩ := cells_row ci hs0
          have e : c' = c := by
            have hb2 : W.heap[b]? = some (.cells ⟨c'⟩ T' fr') := hb'
            have hb3 := Option.some.inj (hblk'.symm.trans hb2)
            exact (congrArg Array.toList (Obj.cells.inj hb3).1).symm
          subst e
          exact ht'
        · rw [List.getElem?_eq_none (by simpa using hge)] at hi; cases hi
      · intro b' o m
        simp only [List.mem_singleton, Prod.mk.injEq] at m
        rw [m.1, m.2]; exact hblk'
      · intro i q hi
        rw [List.getElem?_map] at hi
        rcases Nat.lt_or_ge i len with hlt | hge
        · rw [List.getElem?_range hlt] at hi
          simp only [Option.map_some, Option.some.injEq] at hi
          subst hi
          exact ⟨D i, by rw [List.getElem?_map, List.getElem?_range hlt]; rfl, (hfx i hlt).2⟩
        · rw [List.getElem?_eq_none (by simpa using hge)] at hi; cases hi
theorem slice_w {α : Type} {t e : TypeId} {l : List α} {d : DataW H} {Pe : α → DataW H → Prop} (ht : Tryz.prog.underlying t = some (.slice e)) (hb0 : 0 < Tryz.prog.bytesOf e) (h : l = [] ∨ ∃ elems spare, d = .slice elems spare ∧ elems.length = l.length ∧ ∀ (i : Nat) (a : α), l[i]? = some a → ∃ d : DataW H, elems[i]? = some d ∧ Pe a d) (hw : (d.weights Tryz.prog t).all (· ≤ reachBytes) = true) :
    l.length ≤ 140737488351232 ∧ ∀ a, a ∈ l → ∃ d : DataW H, Pe a d ∧ (d.weights Tryz.prog e).all (· ≤ reachBytes) = true := by
  have er : reachBytes = 140737488351232 := rfl
  rcases h with rfl | ⟨elems, spare, rfl, h1, h2⟩
  · exact ⟨by simp, fun a ha => by cases ha⟩
  · rw [List.all_eq_true] at hw
    refine ⟨?_, fun a ha => ?_⟩
    · have h3 := hw ((elems.length + spare.length) * Tryz.prog.bytesOf e) (by simp [DataW.weights, ht])
      rw [decide_eq_true_eq, er] at h3
      have h4 : (elems.length + spare.length) * 1 ≤ (elems.length + spare.length) * Tryz.prog.bytesOf e := Nat.mul_le_mul_left _ hb0
      omega
    · obtain ⟨i, hi, e9⟩ := List.getElem_of_mem ha
      obtain ⟨d, h3, h4⟩ := h2 i a (by rw [← e9]; exact List.getElem?_eq_getElem hi)
      refine ⟨d, h4, List.all_eq_true.2 fun n hn => hw n ?_⟩
      simp only [DataW.weights, ht, List.mem_cons, List.mem_append]
      exact .inr (.inl (weightsAll_mem (List.mem_of_getElem? h3) n hn))
theorem w39 (l : List (DataW H)) : DataW.weights Tryz.prog 54 (.agg l) = DataW.weightsEach Tryz.prog [52, 3, 2, 9] l := by
  simp only [DataW.weights, Tryz.underlying54]; rfl
theorem w32 (l : List (DataW H)) : DataW.weights Tryz.prog 46 (.agg l) = DataW.weightsEach Tryz.prog [9, 42] l := by
  simp only [DataW.weights, Tryz.underlying46]; rfl
theorem w44 (l : List (DataW H)) : DataW.weights Tryz.prog 48 (.agg l) = DataW.weightsEach Tryz.prog [44, 43, 46] l := by
  simp only [DataW.weights, Tryz.underlying48]; rfl
theorem w76 (l : List (DataW H)) : DataW.weights Tryz.prog 51 (.agg l) = DataW.weightsEach Tryz.prog [41, 9, 42, 43, 48, 49] l := by
  simp only [DataW.weights, Tryz.underlying51]; rfl
theorem lst2 {α : Type} {l : List α} (h : l.length = 2) : ∃ a b, l = [a, b] := by
  match l, h with
  | [a, b], _ => exact ⟨a, b, rfl⟩
theorem lst3 {α : Type} {l : List α} (h : l.length = 3) : ∃ a b c, l = [a, b, c] := by
  match l, h with
  | [a, b, c], _ => exact ⟨a, b, c, rfl⟩
theorem lst4 {α : Type} {l : List α} (h : l.length = 4) : ∃ a b c d, l = [a, b, c, d] := by
  match l, h with
  | [a, b, c, d], _ => exact ⟨a, b, c, d, rfl⟩
theorem lst6 {α : Type} {l : List α} (h : l.length = 6) : ∃ a b c d e f, l = [a, b, c, d, e, f] := by
  match l, h with
  | [a, b, c, d, e, f], _ => exact ⟨a, b, c, d, e, f, rfl⟩
def TmP (t : Tm) (d : DataW H) : Prop := t.ok ∧ ((d.weights Tryz.prog 54).all (· ≤ reachBytes) = true → t.s.size ≤ 140737488351232)
set_option maxRecDepth 20000 in
theorem term_open {fuel : Nat} {cs : List Value} {x : DataW H × List MemPlace} (h : DataW.trod enc Tryz.prog W 0 sp hd fuel 54 cs = some x) : ∃ t : Tm, cs = tmc t ∧ TmP t x.1 := by
  obtain ⟨xs, n, _, hx, hlen, hxl, hf⟩ := DataW.trod_struct Tryz.underlying54 h
  rw [cells54] at hlen
  obtain ⟨c0, c1, c2, c3, rfl⟩ := lst4 hlen
  have h0 : DataW.trod enc Tryz.prog W 0 sp hd n 52 (([c0, c1, c2, c3].drop 0).take (Tryz.prog.cellsOf 52)) = xs[0]? := hf 0 _ rfl
  have h1 : DataW.trod enc Tryz.prog W 0 sp hd n 3 (([c0, c1, c2, c3].drop 1).take (Tryz.prog.cellsOf 3)) = xs[1]? := hf 1 _ rfl
  have h2 : DataW.trod enc Tryz.prog W 0 sp hd n 2 (([c0, c1, c2, c3].drop 2).take (Tryz.prog.cellsOf 2)) = xs[2]? := hf 2 _ rfl
  have h3 : DataW.trod enc Tryz.prog W 0 sp hd n 9 (([c0, c1, c2, c3].drop 3).take (Tryz.prog.cellsOf 9)) = xs[3]? := hf 3 _ rfl
  rw [cells52] at h0
  rw [cells3] at h1
  rw [cells2] at h2
  rw [cells9] at h3
  obtain ⟨y0, y1, y2, y3, rfl⟩ := lst4 (show xs.length = 4 from hxl)
  obtain ⟨a0, rfl, r0⟩ := u8_open Tryz.underlying52 (show DataW.trod enc Tryz.prog W 0 sp hd n 52 [c0] = some y0 from h0)
  obtain ⟨a1, rfl, r1⟩ := i64_open Tryz.underlying3 (show DataW.trod enc Tryz.prog W 0 sp hd n 3 [c1] = some y1 from h1)
  obtain ⟨a2, rfl, r2⟩ := i64_open Tryz.underlying2 (show DataW.trod enc Tryz.prog W 0 sp hd n 2 [c2] = some y2 from h2)
  obtain ⟨s, rfl, r3, r4⟩ := str_open (show DataW.trod enc Tryz.prog W 0 sp hd n 9 [c3] = some y3 from h3)
  refine ⟨⟨a0, a1, a2, s⟩, rfl, ⟨⟨r0.1, r0.2⟩, r1, r2, r3⟩, fun hw => r4 ?_⟩
  rw [hx, w39] at hw
  exact each_all (j := 3) hw rfl rfl
structure TsO (p : Option Addr) (cap : Nat) (ts : List Tm) (Z : List (Nat × Obj)) (W : World) (d : DataW H) : Prop where
  vw : VwG 4 (.slice p ts.length cap) ts.length (fl tmc ts) Z
  mem : Mem Z W
  ok : ∀ t, t ∈ ts → t.ok
  w : (d.weights Tryz.prog 42).all (· ≤ reachBytes) = true → ts.length ≤ 140737488351232 ∧ ∀ t, t ∈ ts → t.s.size ≤ 140737488351232
theorem terms_open {fuel : Nat} {c : Value} {x : DataW H × List MemPlace} (h : DataW.trod enc Tryz.prog W 0 (fun _ => true) true fuel 42 [c] = some x) : ∃ p cap ts Z, c = .slice p ts.length cap ∧ TsO p cap ts Z W x.1 := by
  obtain ⟨p, cap, l, Z, e, h1, h2, h3⟩ := slice_open (f := tmc) tmc_len (by omega) Tryz.underlying42 cells54 TmP (fun _ _ _ h => term_open h) h
  injection e with e _
  refine ⟨p, cap, l, Z, e, h1, h2, fun t ht => ?_, fun hw => ?_⟩
  · rcases h3 with rfl | ⟨elems, spare, _, _, h6⟩
    · cases ht
    · obtain ⟨i, hi, e9⟩ := List.getElem_of_mem ht
      obtain ⟨d, _, h8⟩ := h6 i t (by rw [← e9]; exact List.getElem?_eq_getElem hi)
      exact h8.1
  · have h4 := slice_w Tryz.underlying42 (by rw [bytes39]; omega) h3 hw
    refine ⟨h4.1, fun t ht => ?_⟩
    obtain ⟨d, h5, h6⟩ := h4.2 t ht
    exact h5.2 h6
def OpP (W : World) (x : OpV) (d : DataW H) : Prop := (Mem x.tZ W ∧ Mem x.lZ W) ∧ ((d.weights Tryz.prog 51).all (· ≤ reachBytes) = true → OpW x)
set_option maxRecDepth 20000 in
theorem op_open {fuel : Nat} {cs : List Value} {x : DataW H × List MemPlace} (h : DataW.trod enc Tryz.prog W 0 (fun _ => true) true fuel 51 cs = some x) : ∃ o : OpV, cs = o.c9 ∧ OpP W o x.1 := by
  obtain ⟨xs, n, _, hx, hlen, hxl, hf⟩ := DataW.trod_struct Tryz.underlying51 h
  rw [cells51] at hlen
  match cs, hlen with
  | [c0, c1, c2, c3, c4, c5, c6, c7, c8], _ =>
    generalize hL : [c0, c1, c2, c3, c4, c5, c6, c7, c8] = L at hf
    have h0 : DataW.trod enc Tryz.prog W 0 (fun _ => true) true n 41 ((L.drop 0).take (Tryz.prog.cellsOf 41)) = xs[0]? := hf 0 _ rfl
    have h1 : DataW.trod enc Tryz.prog W 0 (fun _ => true) true n 9 ((L.drop 1).take (Tryz.prog.cellsOf 9)) = xs[1]? := hf 1 _ rfl
    have h2 : DataW.trod enc Tryz.prog W 0 (fun _ => true) true n 42 ((L.drop 2).take (Tryz.prog.cellsOf 42)) = xs[2]? := hf 2 _ rfl
    have h3 : DataW.trod enc Tryz.prog W 0 (fun _ => true) true n 43 ((L.drop 3).take (Tryz.prog.cellsOf 43)) = xs[3]? := hf 3 _ rfl
    have h4 : DataW.trod enc Tryz.prog W 0 (fun _ => true) true n 48 ((L.drop 4).take (Tryz.prog.cellsOf 48)) = xs[4]? := hf 4 _ rfl
    have h5 : DataW.trod enc Tryz.prog W 0 (fun _ => true) true n 49 ((L.drop 8).take (Tryz.prog.cellsOf 49)) = xs[5]? := hf 5 _ rfl
    subst hL
    rw [cells41] at h0
    rw [cells9] at h1
    rw [cells42] at h2
    rw [cells43] at h3
    rw [cells48] at h4
    rw [cells49] at h5
    obtain ⟨y0, y1, y2, y3, y4, y5, rfl⟩ := lst6 (show xs.length = 6 from hxl)
    obtain ⟨k, rfl, r0⟩ := u8_open Tryz.underlying41 (show DataW.trod enc Tryz.prog W 0 (fun _ => true) true n 41 [c0] = some y0 from h0)
    obtain ⟨s1, rfl, r1, w1⟩ := str_open (show DataW.trod enc Tryz.prog W 0 (fun _ => true) true n 9 [c1] = some y1 from h1)
    obtain ⟨p2, cap2, ts, Z2, rfl, r2⟩ := terms_open (show DataW.trod enc Tryz.prog W 0 (fun _ => true) true n 42 [c2] = some y2 from h2)
    obtain ⟨o, rfl, r3⟩ := u8_open Tryz.underlying43 (show DataW.trod enc Tryz.prog W 0 (fun _ => true) true n 43 [c3] = some y3 from h3)
    obtain ⟨nn, rfl⟩ := u64_open Tryz.underlying49 (show DataW.trod enc Tryz.prog W 0 (fun _ => true) true n 49 [c8] = some y5 from h5)
    obtain ⟨zs, n2, _, hz, _, hzl, hg⟩ := DataW.trod_struct Tryz.underlying48 (show DataW.trod enc Tryz.prog W 0 (fun _ => true) true n 48 [c4, c5, c6, c7] = some y4 from h4)
    have g0 : DataW.trod enc Tryz.prog W 0 (fun _ => true) true n2 44 (([c4, c5, c6, c7].drop 0).take (Tryz.prog.cellsOf 44)) = zs[0]? := hg 0 _ rfl
    have g1 : DataW.trod enc Tryz.prog W 0 (fun _ => true) true n2 43 (([c4, c5, c6, c7].drop 1).take (Tryz.prog.cellsOf 43)) = zs[1]? := hg 1 _ rfl
    have g2 : DataW.trod enc Tryz.prog W 0 (fun _ => true) true n2 46 (([c4, c5, c6, c7].drop 2).take (Tryz.prog.cellsOf 46)) = zs[2]? := hg 2 _ rfl
    rw [cells44] at g0
    rw [cells43] at g1
    rw [cells46] at g2
    obtain ⟨v0, v1, v2, rfl⟩ := lst3 (show zs.length = 3 from hzl)
    obtain ⟨lk, rfl, r4⟩ := u8_open Tryz.underlying44 (show DataW.trod enc Tryz.prog W 0 (fun _ => true) true n2 44 [c4] = some v0 from g0)
    obtain ⟨lo, rfl, r5⟩ := u8_open Tryz.underlying43 (show DataW.trod enc Tryz.prog W 0 (fun _ => true) true n2 43 [c5] = some v1 from g1)
    obtain ⟨us, n3, _, hu, _, hul, hk⟩ := DataW.trod_struct Tryz.underlying46 (show DataW.trod enc Tryz.prog W 0 (fun _ => true) true n2 46 [c6, c7] = some v2 from g2)
    have k0 : DataW.trod enc Tryz.prog W 0 (fun _ => true) true n3 9 (([c6, c7].drop 0).take (Tryz.prog.cellsOf 9)) = us[0]? := hk 0 _ rfl
    have k1 : DataW.trod enc Tryz.prog W 0 (fun _ => true) true n3 42 (([c6, c7].drop 1).take (Tryz.prog.cellsOf 42)) = us[1]? := hk 1 _ rfl
    rw [cells9] at k0
    rw [cells42] at k1
    obtain ⟨t0, t1, rfl⟩ := lst2 (show us.length = 2 from hul)
    obtain ⟨s6, rfl, r6, w6⟩ := str_open (show DataW.trod enc Tryz.prog W 0 (fun _ => true) true n3 9 [c6] = some t0 from k0)
    obtain ⟨p7, cap7, ls, Z7, rfl, r7⟩ := terms_open (show DataW.trod enc Tryz.prog W 0 (fun _ => true) true n3 42 [c7] = some t1 from k1)
    refine ⟨⟨k, s1, ts, p2, cap2, Z2, o, lk, lo, s6, ls, p7, cap7, Z7, nn⟩, rfl, ⟨r2.mem, r7.mem⟩, fun hw => ?_⟩
    rw [hx, w76] at hw
    have q1 := w1 (each_all (j := 1) hw rfl rfl)
    have q2 := r2.w (each_all (j := 2) hw rfl rfl)
    have q4 := each_all (j := 4) hw rfl rfl
    rw [hz, w44] at q4
    have q5 := each_all (j := 2) q4 rfl rfl
    rw [hu, w32] at q5
    have q6 := w6 (each_all (j := 0) q5 rfl rfl)
    have q7 := r7.w (each_all (j := 1) q5 rfl rfl)
    exact ⟨⟨r0.1, r0.2⟩, ⟨r3.1, r3.2⟩, ⟨r4.1, r4.2⟩, ⟨r5.1, r5.2⟩, r2.vw, r7.vw, r2.ok, r7.ok, ⟨by show s1.size ≤ _; omega, by show s6.size ≤ _; omega, by show ts.length ≤ _; omega, by show ls.length ≤ _; omega⟩, fun t ht => by have := q2.2 t ht; omega, fun t ht => by have := q7.2 t ht; omega⟩
theorem ops_open {v : Value} {d : DataW H} {ps : List MemPlace} (hv : ∃ p len cap, v = .slice p len cap) (h : DataW.Trod enc Tryz.prog W 0 (fun _ => true) true 22 v d ps) (hw : (d.weights Tryz.prog 22).all (· ≤ reachBytes) = true) :
    ∃ (p : Option Addr) (c : Nat) (ops : List OpV) (Z0 : List (Nat × Obj)), v = .slice p ops.length c ∧ VwG 9 (.slice p ops.length c) ops.length (fl OpV.c9 ops) Z0 ∧ (∀ x, x ∈ ops → OpW x) ∧ ops.length ≤ 4000000000000000000 ∧ Scr p c ops Z0 W := by
  obtain ⟨p0, len0, cap0, rfl⟩ := hv
  obtain ⟨fuel, hf⟩ := h
  have hcells : (Value.slice p0 len0 cap0).cells.toList = [.slice p0 len0 cap0] := rfl
  rw [hcells] at hf
  obtain ⟨p, cap, l, Z, e, h1, h2, h3⟩ := slice_open (f := OpV.c9) c9_len (by omega) Tryz.underlying22 cells51 (OpP W) (fun _ _ _ h => op_open h) hf
  injection e with e _
  have h4 := slice_w Tryz.underlying22 (by rw [bytes76]; omega) h3 hw
  refine ⟨p, cap, l, Z, e, h1, fun x hx => ?_, by omega, ⟨h2, fun x hx => ?_, fun x hx => ?_⟩⟩
  · obtain ⟨d, h5, h6⟩ := h4.2 x hx
    exact h5.2 h6
  · obtain ⟨d, h5, h6⟩ := h4.2 x hx
    exact h5.1.1
  · obtain ⟨d, h5, h6⟩ := h4.2 x hx
    exact h5.1.2
end

end Go.Proofs.Qxb6500915aGreatDoor

import Derived.Test.Qxb6500911aGreatDoorRow
import Derived.Test.Qxb6500911aGreatDoorA20
import Derived.Stop.LaidErr
import Derived.SizedLaws
namespace Go.Proofs.Qxb6500911aGreatDoor
open Go.Eng
set_option linter.unusedVariables false
set_option linter.unusedSimpArgs false

open Go.ChangeShapes Go.WideShapes Go.ChangeAt Go.RowKit Go.Deep
theorem own : ownKnob Tryz.prog.godebug = none := by kernel_rfl
theorem laidOut : laidOutB Tryz.prog = true := by kernel_rfl
theorem cells34 : Tryz.prog.cellsOf 34 = 4 := by kernel_rfl
theorem cells32 : Tryz.prog.cellsOf 32 = 1 := by kernel_rfl
theorem cells2 : Tryz.prog.cellsOf 2 = 1 := by kernel_rfl
theorem cells189 : Tryz.prog.cellsOf 189 = 32 := by kernel_rfl
theorem cellsE : Tryz.prog.cellsOf 5 = 1 := by kernel_rfl
theorem read22 : Tryz.prog.readableRec 22 = true := by kernel_rfl
theorem size22 : 22 < Tryz.prog.types.size := of_decide_eq_true (by kernel_rfl)

section
variable {H : Type} {enc : TypeId × Value → H} {W : World}
theorem wf_u8 {z : Int} (h : (Lit.int .u8 z).wf = true) : 0 ≤ z ∧ z ≤ 255 := by
  have e1 : IntKind.u8.min = 0 := rfl
  have e2 : IntKind.u8.max = 255 := rfl
  simpa [Lit.wf, e1, e2] using h
theorem wf_i64 {z : Int} (h : (Lit.int .i64 z).wf = true) : -9223372036854775808 ≤ z ∧ z ≤ 9223372036854775807 := by
  have e1 : IntKind.i64.min = -9223372036854775808 := rfl
  have e2 : IntKind.i64.max = 9223372036854775807 := rfl
  simpa [Lit.wf, e1, e2] using h
theorem list4 {l : List Value} (h : l.length = 4) : ∃ a b c d, l = [a, b, c, d] := by
  rcases l with _ | ⟨a, _ | ⟨b, _ | ⟨c, _ | ⟨d, _ | ⟨e, l⟩⟩⟩⟩⟩
  all_goals first | (simp at h; done) | exact ⟨a, b, c, d, rfl⟩
/-- one op, read -/
theorem op_open {fuel : Nat} {cs : List Value} {x : DataW H × List MemPlace} {sp : Nat → Bool} (h : DataW.trod enc Tryz.prog W 0 sp true fuel 34 cs = some x) : ∃ o : DO, o.ok ∧ cs = opc o := by
  obtain ⟨xs, n, _, _, hlen, hxl, hf⟩ := DataW.trod_struct Tryz.underlying34 h
  rw [cells34] at hlen
  obtain ⟨c0, c1, c2, c3, rfl⟩ := list4 hlen
  have hx : xs.length = 4 := hxl
  have h0 : DataW.trod enc Tryz.prog W 0 sp true n 32 (([c0, c1, c2, c3].drop 0).take (Tryz.prog.cellsOf 32)) = xs[0]? := hf 0 _ rfl
  have h1 : DataW.trod enc Tryz.prog W 0 sp true n 2 (([c0, c1, c2, c3].drop 1).take (Tryz.prog.cellsOf 2)) = xs[1]? := hf 1 _ rfl
  have h2 : DataW.trod enc Tryz.prog W 0 sp true n 2 (([c0, c1, c2, c3].drop 2).take (Tryz.prog.cellsOf 2)) = xs[2]? := hf 2 _ rfl
  have h3 : DataW.trod enc Tryz.prog W 0 sp true n 2 (([c0, c1, c2, c3].drop 3).take (Tryz.prog.cellsOf 2)) = xs[3]? := hf 3 _ rfl
  rw [cells32, List.getElem?_eq_getElem (by omega)] at h0
  rw [cells2, List.getElem?_eq_getElem (by omega)] at h1 h2 h3
  obtain ⟨m0, z0, _, w0⟩ := DataW.trod_int Tryz.underlying32 h0
  obtain ⟨m1, z1, _, w1⟩ := DataW.trod_int Tryz.underlying2 h1
  obtain ⟨m2, z2, _, w2⟩ := DataW.trod_int Tryz.underlying2 h2
  obtain ⟨m3, z3, _, w3⟩ := DataW.trod_int Tryz.underlying2 h3
  injection z0 with z0 _; injection z1 with z1 _; injection z2 with z2 _; injection z3 with z3 _
  subst z0; subst z1; subst z2; subst z3
  exact ⟨⟨m0, m1, m2, m3⟩, ⟨wf_u8 w0, wf_i64 w1, wf_i64 w2, wf_i64 w3⟩, rfl⟩
/-- the laid table -/
theorem tab_open {fuel : Nat} {cs : List Value} {x : DataW H × List MemPlace} {sp : Nat → Bool} {hd : Bool} (h : DataW.trod enc Tryz.prog W 0 sp hd fuel 189 cs = some x) (hx : x.1 = .agg (tabI.map (fun z => .lit (.int .u8 z)))) : cs = tabL := by
  obtain ⟨xs, m, _, hxx, hlen, hxl, hf⟩ := DataW.trod_array Tryz.underlying189 h
  rw [cells189] at hlen
  rw [hxx] at hx
  simp only [DataW.agg.injEq] at hx
  apply List.ext_getElem?
  intro i
  by_cases hi : i < 32
  · have h1 := hf i hi
    rw [cellsE, List.getElem?_eq_getElem (by omega)] at h1
    obtain ⟨z, hz, hy, _⟩ := DataW.trod_int Tryz.underlying5 h1
    have h2 := congrArg (fun l => l[i]?) hx
    simp only [List.getElem?_map, List.getElem?_eq_getElem (show i < xs.length by omega), Option.map_some, hy] at h2
    have h3 : cs[i]? = some (.int .u8 z) := by
      have := congrArg (fun l => l[0]?) hz
      simp only [List.getElem?_take, List.getElem?_drop, List.getElem?_cons_zero] at this
      simpa using this
    rw [h3]
    unfold tabL
    rw [List.getElem?_map]
    cases ht : tabI[i]? with
    | none => rw [ht] at h2; simp at h2
    | some y =>
      rw [ht] at h2
      simp only [Option.map_some, Option.some.injEq, DataW.lit.injEq, Lit.int.injEq, true_and] at h2
      rw [h2]; rfl
  · have h32 : tabL.length = 32 := by unfold tabL; rw [List.length_map]; rfl
    rw [List.getElem?_eq_none (by omega), List.getElem?_eq_none (by omega)]
theorem ops_open {v : Value} {d : DataW H} {ps : List MemPlace} (hv : ∃ p len cap, v = .slice p len cap) (h : DataW.Trod enc Tryz.prog W 0 (fun _ => true) true 22 v d ps) :
    ∃ sb c T fr p n cap ops, v = .slice p n cap ∧ n = ops.length ∧ n ≤ 9223372036854775807 ∧ Ops sb c p cap ops ∧ OpsIn sb c T fr ops W := by
  obtain ⟨p, len, cap, rfl⟩ := hv
  obtain ⟨fuel, hf⟩ := h
  have hcells : (Value.slice p len cap).cells.toList = [.slice p len cap] := rfl
  rw [hcells] at hf
  rcases open_slice Tryz.underlying22 hf with ⟨hcs, _⟩ | ⟨a, len', cap', m, n, D, Pl, hcs, hb, hl, hm, hmm, _, hx⟩
  · injection hcs with e _
    injection e with e1 e2 e3
    subst e1; subst e2; subst e3
    exact ⟨0, [], 0, (0, 0), none, 0, 0, [], rfl, rfl, by omega, ⟨Nat.le_refl _, fun o m => (by cases m), fun h => absurd h (by simp)⟩, fun h => absurd h (by simp)⟩
  · injection hcs with e _
    injection e with e1 e2 e3
    subst e1; subst e2; subst e3
    simp only [if_true] at hmm
    subst m
    have hbig : len ≤ 9223372036854775807 := by unfold maxLen at hm; omega
    rw [cells34] at hx
    have hop : ∀ i, i < len → ∃ o : DO, o.ok ∧ W.cells? 0 (a.add (i * 4)) 4 = some (opc o) := by
      intro i hi
      obtain ⟨cs', h1, h2⟩ := hx i (by omega)
      obtain ⟨o, ho, rfl⟩ := op_open h2
      exact ⟨o, ho, h1⟩
    by_cases h0 : len = 0
    · subst h0
      exact ⟨0, [], 0, (0, 0), some a, 0, cap, [], rfl, rfl, by omega, ⟨Nat.zero_le _, fun o m => (by cases m), fun h => absurd h (by simp)⟩, fun h => absurd h (by simp)⟩
    · haveI : Inhabited DO := ⟨⟨0, 0, 0, 0⟩⟩
      obtain ⟨f, hfx⟩ := choose_lt (α := DO) (p := fun i o => o.ok ∧ W.cells? 0 (a.add (i * 4)) 4 = some (opc o)) hop
      obtain ⟨_, c0⟩ := hfx 0 (by omega)
      obtain ⟨hs, c, T, fr, hblk, _⟩ := cells_row c0 (by omega)
      obtain ⟨b, so, spot⟩ := a
      have hsp : spot = none := by simpa [Addr.add] using hs
      subst hsp
      have hblk' : W.heap[b]? = some (.cells ⟨c⟩ T fr) := by rw [add_plain] at hblk; exact hblk
      refine ⟨b, c, T, fr, some ⟨b, so, none⟩, len, cap, (List.range len).map f, rfl, by simp, hbig, ⟨by simpa using hl, ?_, fun _ => ⟨so, rfl, ?_⟩⟩, fun _ => hblk'⟩
      · intro o ho
        obtain ⟨i, hi, rfl⟩ := List.mem_map.1 ho
        exact (hfx i (List.mem_range.1 hi)).1
      · intro i o hi
        rw [List.getElem?_map] at hi
        rcases Nat.lt_or_ge i len with hlt | hge
        · rw [List.getElem?_range hlt] at hi
          simp only [Option.map_some, Option.some.injEq] at hi
          subst hi
          obtain ⟨_, ci⟩ := hfx i hlt
          rw [add_plain] at ci
          obtain ⟨_, c', T', fr', hb', ht⟩ := cells_row ci (by omega)
          have e : c' = c := by
            have hb2 : W.heap[b]? = some (.cells ⟨c'⟩ T' fr') := hb'
            rw [hblk'] at hb2
            injection hb2 with hb2
            injection hb2 with hb3 _ _
            injection hb3 with hb4
            exact hb4.symm
          subst e
          exact ht
        · rw [List.getElem?_eq_none (by simpa using hge)] at hi; cases hi
end

end Go.Proofs.Qxb6500911aGreatDoor

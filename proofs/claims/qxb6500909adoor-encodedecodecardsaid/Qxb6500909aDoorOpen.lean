import Derived.Test.Qxb6500909aDoorRow
import Derived.Test.Qxb6500909aDoorA7
import Derived.Stop.LaidErr
namespace Go.Proofs.Qxb6500909aDoor
open Go.Eng
set_option linter.unusedVariables false
set_option linter.unusedSimpArgs false

open Go.ChangeShapes Go.WideShapes Go.ChangeAt Go.RowKit Go.Deep
theorem own : ownKnob Tryd.prog.godebug = none := by kernel_rfl
theorem laidOut : laidOutB Tryd.prog = true := by kernel_rfl
theorem cells42 : Tryd.prog.cellsOf 42 = 4 := by kernel_rfl
theorem cells40 : Tryd.prog.cellsOf 40 = 1 := by kernel_rfl
theorem cells29 : Tryd.prog.cellsOf 29 = 1 := by kernel_rfl
theorem cells3 : Tryd.prog.cellsOf 3 = 1 := by kernel_rfl
theorem cells30 : Tryd.prog.cellsOf 30 = 1 := by kernel_rfl
theorem cells5 : Tryd.prog.cellsOf 5 = 1 := by kernel_rfl
theorem cells9 : Tryd.prog.cellsOf 9 = 1 := by kernel_rfl
theorem cells152 : Tryd.prog.cellsOf 152 = 1 := by kernel_rfl
theorem read22 : Tryd.prog.readableRec 22 = true := by kernel_rfl
theorem size22 : 22 < Tryd.prog.types.size := of_decide_eq_true (by kernel_rfl)
section
variable {H : Type} {enc : TypeId × Value → H} {W : World} {sp : Nat → Bool}
theorem wf_u8 {z : Int} (h : (Lit.int .u8 z).wf = true) : 0 ≤ z ∧ z ≤ 255 := by
  have e1 : IntKind.u8.min = 0 := rfl
  have e2 : IntKind.u8.max = 255 := rfl
  simpa [Lit.wf, e1, e2] using h
theorem wf_u64 {z : Int} (h : (Lit.int .u64 z).wf = true) : 0 ≤ z ∧ z ≤ 18446744073709551615 := by
  have e1 : IntKind.u64.min = 0 := rfl
  have e2 : IntKind.u64.max = 18446744073709551615 := rfl
  simpa [Lit.wf, e1, e2] using h
theorem wf_i64 {z : Int} (h : (Lit.int .i64 z).wf = true) : -9223372036854775808 ≤ z ∧ z ≤ 9223372036854775807 := by
  have e1 : IntKind.i64.min = -9223372036854775808 := rfl
  have e2 : IntKind.i64.max = 9223372036854775807 := rfl
  simpa [Lit.wf, e1, e2] using h
theorem u8_open {fuel : Nat} {t : TypeId} {c : Value} {x : DataW H × List MemPlace} (ht : Tryd.prog.underlying t = some (.int .u8)) (h : DataW.trod enc Tryd.prog W 0 sp true fuel t [c] = some x) : ∃ m : Int, c = .int .u8 m ∧ 0 ≤ m ∧ m ≤ 255 := by
  obtain ⟨z, hz, _, hw⟩ := DataW.trod_int ht h
  injection hz with hz _
  exact ⟨z, hz, wf_u8 hw⟩
theorem u64_open {fuel : Nat} {t : TypeId} {c : Value} {x : DataW H × List MemPlace} (ht : Tryd.prog.underlying t = some (.int .u64)) (h : DataW.trod enc Tryd.prog W 0 sp true fuel t [c] = some x) : ∃ m : Nat, c = .int .u64 (m : Int) ∧ m < 18446744073709551616 := by
  obtain ⟨z, hz, _, hw⟩ := DataW.trod_int ht h
  injection hz with hz _
  have := wf_u64 hw
  exact ⟨z.toNat, by rw [hz, Int.toNat_of_nonneg this.1], by omega⟩
theorem i64_open {fuel : Nat} {t : TypeId} {c : Value} {x : DataW H × List MemPlace} (ht : Tryd.prog.underlying t = some (.int .i64)) (h : DataW.trod enc Tryd.prog W 0 sp true fuel t [c] = some x) : ∃ m : Int, c = .int .i64 m ∧ -9223372036854775808 ≤ m ∧ m ≤ 9223372036854775807 := by
  obtain ⟨z, hz, _, hw⟩ := DataW.trod_int ht h
  injection hz with hz _
  exact ⟨z, hz, wf_i64 hw⟩
/-- the bytes that a slice holds -/
def SrcD (p : Option Addr) (N cap : Nat) (dat : Nat → Int) (Sc : List (Nat × Obj)) : Prop := (N ≤ cap ∧ N ≤ 9223372036854775807) ∧ (∀ i, i < N → 0 ≤ dat i ∧ dat i ≤ 255) ∧
  ((N = 0 ∧ Sc = []) ∨ (0 < N ∧ ∃ (db off : Nat) (c : List Value) (T : TypeId) (fr : Nat × Nat), p = some ⟨db, off, none⟩ ∧ Sc = [(db, .cells ⟨c⟩ T fr)] ∧ ∀ i, i < N → c[off + i]? = some (.int .u8 (dat i))))
/-- a slice of bytes, read -/
theorem data_open {fuel : Nat} {cs : List Value} {x : DataW H × List MemPlace} (h : DataW.trod enc Tryd.prog W 0 (fun _ => true) true fuel 29 cs = some x) : ∃ p N cap dat Sc, cs = [.slice p N cap] ∧ SrcD p N cap dat Sc ∧ Mem Sc W := by
  rcases open_slice1 Tryd.underlying29 cells5 h with ⟨rfl, _⟩ | ⟨a, len, cap, m, n, V, D, Pl, rfl, hb, hl, hm, hmm, _, hx⟩
  · exact ⟨none, 0, 0, fun _ => 0, [], rfl, ⟨⟨Nat.le_refl _, by omega⟩, fun i hi => by omega, .inl ⟨rfl, rfl⟩⟩, fun b o m => by cases m⟩
  · simp only [if_true] at hmm
    subst m
    have hbig : cap ≤ 9223372036854775807 := by unfold maxLen at hm; omega
    by_cases h0 : len = 0
    · subst h0
      exact ⟨some a, 0, cap, fun _ => 0, [], rfl, ⟨⟨Nat.zero_le _, by omega⟩, fun i hi => by omega, .inl ⟨rfl, rfl⟩⟩, fun b o m => by cases m⟩
    · have hc0 := (hx 0 (by omega)).1
      obtain ⟨hs, c, T, fr, hblk, _⟩ := cell_block hc0
      obtain ⟨b, so, spot⟩ := a
      have hsp : spot = none := by simpa [Addr.add] using hs
      subst hsp
      have hblk' : W.heap[b]? = some (.cells ⟨c⟩ T fr) := hblk
      have hby : ∀ i, i < len → ∃ z : Int, c[so + i]? = some (.int .u8 z) ∧ 0 ≤ z ∧ z ≤ 255 := by
        intro i hi
        obtain ⟨h1, h2⟩ := hx i (by omega)
        obtain ⟨z, hz, rz⟩ := u8_open Tryd.underlying5 h2
        rw [add_plain] at h1
        obtain ⟨_, c', T', fr', hb', hv⟩ := cell_block h1
        have hb2 : W.heap[b]? = some (.cells ⟨c'⟩ T' fr') := hb'
        have e : c' = c := by
          rw [hblk'] at hb2
          injection hb2 with hb2
          injection hb2 with hb3 _ _
          injection hb3 with hb4
          exact hb4.symm
        subst e
        rw [hz] at hv
        exact ⟨z, hv, rz⟩
      have hby2 : ∀ i, i < len → c[so + i]? = some (.int .u8 ((fun i => if hi : i < len then (hby i hi).choose else 0) i)) ∧ 0 ≤ (fun i => if hi : i < len then (hby i hi).choose else 0) i ∧ (fun i => if hi : i < len then (hby i hi).choose else 0) i ≤ 255 := fun i hi => by
        simp only [hi, dif_pos]
        exact (hby i hi).choose_spec
      refine ⟨some ⟨b, so, none⟩, len, cap, fun i => if hi : i < len then (hby i hi).choose else 0, [(b, .cells ⟨c⟩ T fr)], rfl, ⟨⟨hl, by omega⟩, fun i hi => (hby2 i hi).2, .inr ⟨by omega, b, so, c, T, fr, rfl, rfl, fun i hi => (hby2 i hi).1⟩⟩, ?_⟩
      intro b' o m
      simp only [List.mem_singleton, Prod.mk.injEq] at m
      rw [m.1, m.2]; exact hblk'
set_option maxRecDepth 20000 in
/-- one op, read -/
theorem op_open {fuel : Nat} {cs : List Value} {x : DataW H × List MemPlace} (h : DataW.trod enc Tryd.prog W 0 (fun _ => true) true fuel 42 cs = some x) : ∃ o : DO, (o.ok ∧ Mem o.Sc W) ∧ cs = o.vals := by
  obtain ⟨xs, n, _, _, hlen, hxl, hf⟩ := DataW.trod_struct Tryd.underlying42 h
  rw [cells42] at hlen
  match cs, hlen with
  | [c0, c1, c2, c3], _ =>
    have hx : xs.length = 4 := hxl
    have h0 : DataW.trod enc Tryd.prog W 0 (fun _ => true) true n 40 (([c0, c1, c2, c3].drop 0).take (Tryd.prog.cellsOf 40)) = xs[0]? := hf 0 _ rfl
    have h1 : DataW.trod enc Tryd.prog W 0 (fun _ => true) true n 29 (([c0, c1, c2, c3].drop 1).take (Tryd.prog.cellsOf 29)) = xs[1]? := hf 1 _ rfl
    have h2 : DataW.trod enc Tryd.prog W 0 (fun _ => true) true n 3 (([c0, c1, c2, c3].drop 2).take (Tryd.prog.cellsOf 3)) = xs[2]? := hf 2 _ rfl
    have h3 : DataW.trod enc Tryd.prog W 0 (fun _ => true) true n 30 (([c0, c1, c2, c3].drop 3).take (Tryd.prog.cellsOf 30)) = xs[3]? := hf 3 _ rfl
    rw [cells40] at h0
    rw [cells29] at h1
    rw [cells3] at h2
    rw [cells30] at h3
    rw [List.getElem?_eq_getElem (by omega)] at h0 h1 h2 h3
    obtain ⟨kd, rfl, r0⟩ := i64_open Tryd.underlying40 h0
    obtain ⟨p, N, cap, dat, Sc, e2, hS, hM⟩ := data_open h1
    obtain ⟨nn, rfl, r2⟩ := i64_open Tryd.underlying3 h2
    obtain ⟨kp, rfl, r3⟩ := u64_open Tryd.underlying30 h3
    have e3 : c1 = .slice p N cap := by simpa using e2
    subst e3
    exact ⟨⟨kd, p, N, cap, nn, kp, dat, Sc⟩, ⟨⟨r0, r2, r3, hS.1, hS.2.1, hS.2.2⟩, hM⟩, rfl⟩
theorem ops_open {v : Value} {d : DataW H} {ps : List MemPlace} (hv : ∃ p len cap, v = .slice p len cap) (h : DataW.Trod enc Tryd.prog W 0 (fun _ => true) true 22 v d ps) :
    ∃ sb c T fr p n cap ops, v = .slice p n cap ∧ n = ops.length ∧ n ≤ 9223372036854775807 ∧ DOps sb c p cap ops ∧ DIn sb c T fr ops W := by
  obtain ⟨p, len, cap, rfl⟩ := hv
  obtain ⟨fuel, hf⟩ := h
  have hcells : (Value.slice p len cap).cells.toList = [.slice p len cap] := rfl
  rw [hcells] at hf
  rcases open_slice Tryd.underlying22 hf with ⟨hcs, _⟩ | ⟨a, len', cap', m, n, D, Pl, hcs, hb, hl, hm, hmm, _, hx⟩
  · injection hcs with e _
    injection e with e1 e2 e3
    subst e1; subst e2; subst e3
    exact ⟨0, [], 0, (0, 0), none, 0, 0, [], rfl, rfl, by omega, ⟨Nat.le_refl _, fun o m => (by cases m), fun h => absurd h (by simp)⟩, fun h => absurd h (by simp), fun d m => by cases m⟩
  · injection hcs with e _
    injection e with e1 e2 e3
    subst e1; subst e2; subst e3
    simp only [if_true] at hmm
    subst m
    have hbig : len ≤ 9223372036854775807 := by unfold maxLen at hm; omega
    rw [cells42] at hx
    have hop : ∀ i, i < len → ∃ o : DO, (o.ok ∧ Mem o.Sc W) ∧ W.cells? 0 (a.add (i * 4)) 4 = some o.vals := by
      intro i hi
      obtain ⟨cs', h1, h2⟩ := hx i (by omega)
      obtain ⟨o, ho, rfl⟩ := op_open h2
      exact ⟨o, ho, h1⟩
    by_cases h0 : len = 0
    · subst h0
      exact ⟨0, [], 0, (0, 0), some a, 0, cap, [], rfl, rfl, by omega, ⟨Nat.zero_le _, fun o m => (by cases m), fun h => absurd h (by simp)⟩, fun h => absurd h (by simp), fun d m => by cases m⟩
    · haveI : Inhabited DO := ⟨⟨0, none, 0, 0, 0, 0, fun _ => 0, []⟩⟩
      obtain ⟨f, hfx⟩ := choose_lt (α := DO) (p := fun i o => (o.ok ∧ Mem o.Sc W) ∧ W.cells? 0 (a.add (i * 4)) 4 = some o.vals) hop
      obtain ⟨_, c0⟩ := hfx 0 (by omega)
      obtain ⟨hs, c, T, fr, hblk, _⟩ := cells_row c0 (by omega)
      obtain ⟨b, so, spot⟩ := a
      have hsp : spot = none := by simpa [Addr.add] using hs
      subst hsp
      have hblk' : W.heap[b]? = some (.cells ⟨c⟩ T fr) := by rw [add_plain] at hblk; exact hblk
      refine ⟨b, c, T, fr, some ⟨b, so, none⟩, len, cap, (List.range len).map f, rfl, by simp, hbig, ⟨by simpa using hl, ?_, fun _ => ⟨so, rfl, ?_⟩⟩, fun _ => hblk', ?_⟩
      · intro o ho
        obtain ⟨i, hi, rfl⟩ := List.mem_map.1 ho
        exact (hfx i (List.mem_range.1 hi)).1.1
      · intro i o hi
        rw [List.getElem?_map] at hi
        rcases Nat.lt_or_ge i len with hlt | hge
        · rw [List.getElem?_range hlt] at hi
          simp only [Option.map_some, Option.some.injEq] at hi
          subst hi
          obtain ⟨_, ci⟩ := hfx i hlt
          rw [add_plain] at ci
          obtain ⟨_, c', T', fr', hb', ht⟩ := cells_row ci (by omega)
          have e : c' = c := by
            have hb2 : W.heap[b]? = some (.cells ⟨c'⟩ T' fr') := hb'
            rw [hblk'] at hb2
            injection hb2 with hb2
            injection hb2 with hb3 _ _
            injection hb3 with hb4
            exact hb4.symm
          subst e
          exact ht
        · rw [List.getElem?_eq_none (by simpa using hge)] at hi; cases hi
      · intro o ho
        obtain ⟨i, hi, rfl⟩ := List.mem_map.1 ho
        exact (hfx i (List.mem_range.1 hi)).1.2
end

end Go.Proofs.Qxb6500909aDoor

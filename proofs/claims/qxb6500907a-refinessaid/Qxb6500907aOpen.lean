import Derived.Test.Qxb6500907aRow
import Derived.Test.Qxb6500907aP5
namespace Go.Proofs.Qxb6500907a
open Go.Eng
set_option linter.unusedVariables false
set_option linter.unusedSimpArgs false

open Go.ChangeShapes Go.WideShapes Go.ChangeAt Go.RowKit Go.Deep
theorem own : ownKnob Try.prog.godebug = none := by kernel_rfl
theorem laidOut : laidOutB Try.prog = true := by kernel_rfl
theorem cells59 : Try.prog.cellsOf 59 = 15 := by kernel_rfl
theorem cells48 : Try.prog.cellsOf 48 = 1 := by kernel_rfl
theorem cells49 : Try.prog.cellsOf 49 = 1 := by kernel_rfl
theorem cells34 : Try.prog.cellsOf 34 = 1 := by kernel_rfl
theorem cells57 : Try.prog.cellsOf 57 = 12 := by kernel_rfl
theorem cells41 : Try.prog.cellsOf 41 = 1 := by kernel_rfl
theorem cells5 : Try.prog.cellsOf 5 = 1 := by kernel_rfl
theorem cells4 : Try.prog.cellsOf 4 = 1 := by kernel_rfl
theorem cells53 : Try.prog.cellsOf 53 = 3 := by kernel_rfl
theorem cells55 : Try.prog.cellsOf 55 = 4 := by kernel_rfl
theorem cells51 : Try.prog.cellsOf 51 = 2 := by kernel_rfl
theorem read22 : Try.prog.readableRec 22 = true := by kernel_rfl
theorem size22 : 22 < Try.prog.types.size := of_decide_eq_true (by kernel_rfl)
section
variable {H : Type} {enc : TypeId × Value → H} {W : World} {sp : Nat → Bool}
theorem wf_u8 {z : Int} (h : (Lit.int .u8 z).wf = true) : 0 ≤ z ∧ z ≤ 255 := by
  have e1 : IntKind.u8.min = 0 := rfl
  have e2 : IntKind.u8.max = 255 := rfl
  simpa [Lit.wf, e1, e2] using h
theorem wf_u32 {z : Int} (h : (Lit.int .u32 z).wf = true) : 0 ≤ z ∧ z ≤ 4294967295 := by
  have e1 : IntKind.u32.min = 0 := rfl
  have e2 : IntKind.u32.max = 4294967295 := rfl
  simpa [Lit.wf, e1, e2] using h
theorem u8_open {fuel : Nat} {t : TypeId} {c : Value} {x : DataW H × List MemPlace} (ht : Try.prog.underlying t = some (.int .u8)) (h : DataW.trod enc Try.prog W 0 sp true fuel t [c] = some x) : ∃ m : Int, c = .int .u8 m ∧ 0 ≤ m ∧ m ≤ 255 := by
  obtain ⟨z, hz, _, hw⟩ := DataW.trod_int ht h
  injection hz with hz _
  exact ⟨z, hz, wf_u8 hw⟩
theorem u32_open {fuel : Nat} {t : TypeId} {c : Value} {x : DataW H × List MemPlace} (ht : Try.prog.underlying t = some (.int .u32)) (h : DataW.trod enc Try.prog W 0 sp true fuel t [c] = some x) : ∃ m : Int, c = .int .u32 m ∧ 0 ≤ m ∧ m ≤ 4294967295 := by
  obtain ⟨z, hz, _, hw⟩ := DataW.trod_int ht h
  injection hz with hz _
  exact ⟨z, hz, wf_u32 hw⟩
theorem bool_open {fuel : Nat} {t : TypeId} {c : Value} {x : DataW H × List MemPlace} (ht : Try.prog.underlying t = some .bool) (h : DataW.trod enc Try.prog W 0 sp true fuel t [c] = some x) : ∃ m : Bool, c = .bool m := by
  cases fuel with
  | zero => simp [DataW.trod] at h
  | succ f =>
    unfold DataW.trod at h
    simp only [ht] at h
    cases c <;> simp_all
theorem pfx_open {fuel : Nat} {c0 c1 : Value} {x : DataW H × List MemPlace} (h : DataW.trod enc Try.prog W 0 sp true fuel 51 [c0, c1] = some x) : ∃ a l : Int, c0 = .int .u8 a ∧ c1 = .int .u8 l ∧ (0 ≤ a ∧ a ≤ 255) ∧ (0 ≤ l ∧ l ≤ 255) := by
  obtain ⟨xs, n, _, _, _, hxl, hf⟩ := DataW.trod_struct Try.underlying51 h
  have hx : xs.length = 2 := hxl
  have h0 : DataW.trod enc Try.prog W 0 sp true n 5 (([c0, c1].drop 0).take (Try.prog.cellsOf 5)) = xs[0]? := hf 0 _ rfl
  have h1 : DataW.trod enc Try.prog W 0 sp true n 5 (([c0, c1].drop 1).take (Try.prog.cellsOf 5)) = xs[1]? := hf 1 _ rfl
  rw [cells5] at h0 h1
  rw [List.getElem?_eq_getElem (by omega)] at h0 h1
  obtain ⟨a, ha, ra⟩ := u8_open Try.underlying5 h0
  obtain ⟨l, hl, rl⟩ := u8_open Try.underlying5 h1
  exact ⟨a, l, ha, hl, ra, rl⟩
theorem ch_open {fuel : Nat} {c0 c1 c2 c3 c4 c5 c6 c7 c8 c9 c10 c11 : Value} {x : DataW H × List MemPlace} (h : DataW.trod enc Try.prog W 0 sp true fuel 57 [c0, c1, c2, c3, c4, c5, c6, c7, c8, c9, c10, c11] = some x) :
    ∃ c : Ch, c.ok ∧ [c0, c1, c2, c3, c4, c5, c6, c7, c8, c9, c10, c11] = c.vals := by
  obtain ⟨xs, n, _, _, _, hxl, hf⟩ := DataW.trod_struct Try.underlying57 h
  have hx : xs.length = 7 := hxl
  have h0 : DataW.trod enc Try.prog W 0 sp true n 49 (([c0, c1, c2, c3, c4, c5, c6, c7, c8, c9, c10, c11].drop 0).take (Try.prog.cellsOf 49)) = xs[0]? := hf 0 _ rfl
  have h1 : DataW.trod enc Try.prog W 0 sp true n 5 (([c0, c1, c2, c3, c4, c5, c6, c7, c8, c9, c10, c11].drop 1).take (Try.prog.cellsOf 5)) = xs[1]? := hf 1 _ rfl
  have h2 : DataW.trod enc Try.prog W 0 sp true n 5 (([c0, c1, c2, c3, c4, c5, c6, c7, c8, c9, c10, c11].drop 2).take (Try.prog.cellsOf 5)) = xs[2]? := hf 2 _ rfl
  have h3 : DataW.trod enc Try.prog W 0 sp true n 5 (([c0, c1, c2, c3, c4, c5, c6, c7, c8, c9, c10, c11].drop 3).take (Try.prog.cellsOf 5)) = xs[3]? := hf 3 _ rfl
  have h4 : DataW.trod enc Try.prog W 0 sp true n 4 (([c0, c1, c2, c3, c4, c5, c6, c7, c8, c9, c10, c11].drop 4).take (Try.prog.cellsOf 4)) = xs[4]? := hf 4 _ rfl
  have h5 : DataW.trod enc Try.prog W 0 sp true n 53 (([c0, c1, c2, c3, c4, c5, c6, c7, c8, c9, c10, c11].drop 5).take (Try.prog.cellsOf 53)) = xs[5]? := hf 5 _ rfl
  have h6 : DataW.trod enc Try.prog W 0 sp true n 55 (([c0, c1, c2, c3, c4, c5, c6, c7, c8, c9, c10, c11].drop 8).take (Try.prog.cellsOf 55)) = xs[6]? := hf 6 _ rfl
  rw [cells49] at h0
  rw [cells5] at h1 h2 h3
  rw [cells4] at h4
  rw [cells53] at h5
  rw [cells55] at h6
  rw [List.getElem?_eq_getElem (by omega)] at h0 h1 h2 h3 h4 h5 h6
  obtain ⟨kd, rfl, r0⟩ := u8_open Try.underlying49 h0
  obtain ⟨dv, rfl, r1⟩ := u8_open Try.underlying5 h1
  obtain ⟨pr, rfl, r2⟩ := u8_open Try.underlying5 h2
  obtain ⟨ix, rfl, r3⟩ := u8_open Try.underlying5 h3
  obtain ⟨up, rfl⟩ := bool_open Try.underlying4 h4
  obtain ⟨ys, m, _, _, _, hyl, hg⟩ := DataW.trod_struct Try.underlying53 h5
  have hy : ys.length = 2 := hyl
  have g0 : DataW.trod enc Try.prog W 0 sp true m 51 (([c5, c6, c7].drop 0).take (Try.prog.cellsOf 51)) = ys[0]? := hg 0 _ rfl
  have g1 : DataW.trod enc Try.prog W 0 sp true m 5 (([c5, c6, c7].drop 2).take (Try.prog.cellsOf 5)) = ys[1]? := hg 1 _ rfl
  rw [cells51] at g0
  rw [cells5] at g1
  rw [List.getElem?_eq_getElem (by omega)] at g0 g1
  obtain ⟨ra, rl, rfl, rfl, r4, r5⟩ := pfx_open g0
  obtain ⟨via, rfl, r6⟩ := u8_open Try.underlying5 g1
  obtain ⟨zs, m2, _, _, _, hzl, hk⟩ := DataW.trod_struct Try.underlying55 h6
  have hz : zs.length = 3 := hzl
  have k0 : DataW.trod enc Try.prog W 0 sp true m2 4 (([c8, c9, c10, c11].drop 0).take (Try.prog.cellsOf 4)) = zs[0]? := hk 0 _ rfl
  have k1 : DataW.trod enc Try.prog W 0 sp true m2 51 (([c8, c9, c10, c11].drop 1).take (Try.prog.cellsOf 51)) = zs[1]? := hk 1 _ rfl
  have k2 : DataW.trod enc Try.prog W 0 sp true m2 5 (([c8, c9, c10, c11].drop 3).take (Try.prog.cellsOf 5)) = zs[2]? := hk 2 _ rfl
  rw [cells4] at k0
  rw [cells51] at k1
  rw [cells5] at k2
  rw [List.getElem?_eq_getElem (by omega)] at k0 k1 k2
  obtain ⟨pm, rfl⟩ := bool_open Try.underlying4 k0
  obtain ⟨da, dl, rfl, rfl, r7, r8⟩ := pfx_open k1
  obtain ⟨cl, rfl, r9⟩ := u8_open Try.underlying5 k2
  exact ⟨⟨kd, dv, pr, ix, up, ra, rl, via, pm, da, dl, cl⟩, ⟨r0, r1, r2, r3, r4, r5, r6, r7, r8, r9⟩, rfl⟩
/-- a slice of bytes, read -/
theorem data_open {fuel : Nat} {cs : List Value} {x : DataW H × List MemPlace} (h : DataW.trod enc Try.prog W 0 (fun _ => true) true fuel 41 cs = some x) : ∃ p N cap Sc, cs = [.slice p N cap] ∧ Src (.slice p N cap) N Sc ∧ Mem Sc W := by
  rcases open_slice1 Try.underlying41 cells5 h with ⟨rfl, _⟩ | ⟨a, len, cap, m, n, V, D, Pl, rfl, hb, hl, hm, hmm, _, hx⟩
  · exact ⟨none, 0, 0, [], rfl, ⟨none, 0, rfl, Nat.le_refl _, by omega, .inl ⟨rfl, rfl⟩⟩, fun b o m => by cases m⟩
  · simp only [if_true] at hmm
    subst m
    have hbig : cap ≤ 9223372036854775807 := by unfold maxLen at hm; omega
    by_cases h0 : len = 0
    · subst h0
      exact ⟨some a, 0, cap, [], rfl, ⟨some a, cap, rfl, Nat.zero_le _, by omega, .inl ⟨rfl, rfl⟩⟩, fun b o m => by cases m⟩
    · have hc0 := (hx 0 (by omega)).1
      obtain ⟨hs, c, T, fr, hblk, _⟩ := cell_block hc0
      obtain ⟨b, so, spot⟩ := a
      have hsp : spot = none := by simpa [Addr.add] using hs
      subst hsp
      have hblk' : W.heap[b]? = some (.cells ⟨c⟩ T fr) := hblk
      have hby : ∀ i, i < len → ∃ z : Int, c[so + i]? = some (.int .u8 z) ∧ 0 ≤ z ∧ z ≤ 255 := by
        intro i hi
        obtain ⟨h1, h2⟩ := hx i (by omega)
        obtain ⟨z, hz, rz⟩ := u8_open Try.underlying5 h2
        rw [add_plain] at h1
        obtain ⟨_, c', T', fr', hb', hv⟩ := cell_block h1
        have hb2 : W.heap[b]? = some (.cells ⟨c'⟩ T' fr') := hb'
        have e : c' = c := by
          rw [hblk'] at hb2
          injection hb2 with hb2
          injection hb2 with hb3 _ _
          injection hb3 with hb4
          exact hb4.symm
        subst e
        rw [hz] at hv
        exact ⟨z, hv, rz⟩
      refine ⟨some ⟨b, so, none⟩, len, cap, [(b, .cells ⟨c⟩ T fr)], rfl, ⟨_, cap, rfl, hl, by omega, .inr ⟨by omega, b, so, c, T, fr, fun i => if hi : i < len then (hby i hi).choose else 0, rfl, rfl, fun i hi => ?_⟩⟩, ?_⟩
      · simp only [hi, dif_pos]
        exact (hby i hi).choose_spec
      · intro b' o m
        simp only [List.mem_singleton, Prod.mk.injEq] at m
        rw [m.1, m.2]; exact hblk'
set_option maxRecDepth 20000 in
/-- one op, read -/
theorem op_open {fuel : Nat} {cs : List Value} {x : DataW H × List MemPlace} (h : DataW.trod enc Try.prog W 0 (fun _ => true) true fuel 59 cs = some x) : ∃ o : DO, (o.ok ∧ Mem o.Sc W) ∧ cs = o.vals := by
  obtain ⟨xs, n, _, _, hlen, hxl, hf⟩ := DataW.trod_struct Try.underlying59 h
  rw [cells59] at hlen
  match cs, hlen with
  | [c0, c1, c2, c3, c4, c5, c6, c7, c8, c9, c10, c11, c12, c13, c14], _ =>
    have hx : xs.length = 4 := hxl
    have h0 : DataW.trod enc Try.prog W 0 (fun _ => true) true n 48 (([c0, c1, c2, c3, c4, c5, c6, c7, c8, c9, c10, c11, c12, c13, c14].drop 0).take (Try.prog.cellsOf 48)) = xs[0]? := hf 0 _ rfl
    have h1 : DataW.trod enc Try.prog W 0 (fun _ => true) true n 34 (([c0, c1, c2, c3, c4, c5, c6, c7, c8, c9, c10, c11, c12, c13, c14].drop 1).take (Try.prog.cellsOf 34)) = xs[1]? := hf 1 _ rfl
    have h2 : DataW.trod enc Try.prog W 0 (fun _ => true) true n 57 (([c0, c1, c2, c3, c4, c5, c6, c7, c8, c9, c10, c11, c12, c13, c14].drop 2).take (Try.prog.cellsOf 57)) = xs[2]? := hf 2 _ rfl
    have h3 : DataW.trod enc Try.prog W 0 (fun _ => true) true n 41 (([c0, c1, c2, c3, c4, c5, c6, c7, c8, c9, c10, c11, c12, c13, c14].drop 14).take (Try.prog.cellsOf 41)) = xs[3]? := hf 3 _ rfl
    rw [cells48] at h0
    rw [cells34] at h1
    rw [cells57] at h2
    rw [cells41] at h3
    rw [List.getElem?_eq_getElem (by omega)] at h0 h1 h2 h3
    obtain ⟨kd, rfl, r0⟩ := u8_open Try.underlying48 h0
    obtain ⟨id, rfl, r1⟩ := u32_open Try.underlying34 h1
    obtain ⟨ch, hch, e⟩ := ch_open h2
    obtain ⟨p, N, cap, Sc, e2, hS, hM⟩ := data_open h3
    injection e2 with e3 _
    subst e3
    refine ⟨⟨kd, id, ch, p, N, cap, Sc⟩, ⟨⟨r0, r1, hch, hS⟩, hM⟩, ?_⟩
    obtain ⟨k1, k2, k3, k4, k5, k6, k7, k8, k9, k10, k11, k12⟩ := ch
    simp only [Ch.vals, List.cons.injEq] at e
    obtain ⟨rfl, rfl, rfl, rfl, rfl, rfl, rfl, rfl, rfl, rfl, rfl, rfl, _⟩ := e
    rfl
theorem ops_open {v : Value} {d : DataW H} {ps : List MemPlace} (hv : ∃ p len cap, v = .slice p len cap) (h : DataW.Trod enc Try.prog W 0 (fun _ => true) true 22 v d ps) :
    ∃ sb c T fr p n cap ops, v = .slice p n cap ∧ n = ops.length ∧ n ≤ 9223372036854775807 ∧ DOps sb c p cap ops ∧ DIn sb c T fr ops W := by
  obtain ⟨p, len, cap, rfl⟩ := hv
  obtain ⟨fuel, hf⟩ := h
  have hcells : (Value.slice p len cap).cells.toList = [.slice p len cap] := rfl
  rw [hcells] at hf
  rcases open_slice Try.underlying22 hf with ⟨hcs, _⟩ | ⟨a, len', cap', m, n, D, Pl, hcs, hb, hl, hm, hmm, _, hx⟩
  · injection hcs with e _
    injection e with e1 e2 e3
    subst e1; subst e2; subst e3
    exact ⟨0, [], 0, (0, 0), none, 0, 0, [], rfl, rfl, by omega, ⟨Nat.le_refl _, fun o m => (by cases m), fun h => absurd h (by simp)⟩, fun h => absurd h (by simp), fun d m => by cases m⟩
  · injection hcs with e _
    injection e with e1 e2 e3
    subst e1; subst e2; subst e3
    simp only [if_true] at hmm
    subst m
    have hbig : len ≤ 9223372036854775807 := by unfold maxLen at hm; omega
    rw [cells59] at hx
    have hop : ∀ i, i < len → ∃ o : DO, (o.ok ∧ Mem o.Sc W) ∧ W.cells? 0 (a.add (i * 15)) 15 = some o.vals := by
      intro i hi
      obtain ⟨cs', h1, h2⟩ := hx i (by omega)
      obtain ⟨o, ho, rfl⟩ := op_open h2
      exact ⟨o, ho, h1⟩
    by_cases h0 : len = 0
    · subst h0
      exact ⟨0, [], 0, (0, 0), some a, 0, cap, [], rfl, rfl, by omega, ⟨Nat.zero_le _, fun o m => (by cases m), fun h => absurd h (by simp)⟩, fun h => absurd h (by simp), fun d m => by cases m⟩
    · haveI : Inhabited DO := ⟨⟨0, 0, ⟨0, 0, 0, 0, false, 0, 0, 0, false, 0, 0, 0⟩, none, 0, 0, []⟩⟩
      obtain ⟨f, hfx⟩ := choose_lt (α := DO) (p := fun i o => (o.ok ∧ Mem o.Sc W) ∧ W.cells? 0 (a.add (i * 15)) 15 = some o.vals) hop
      obtain ⟨_, c0⟩ := hfx 0 (by omega)
      obtain ⟨hs, c, T, fr, hblk, _⟩ := cells_row c0 (by omega)
      obtain ⟨b, so, spot⟩ := a
      have hsp : spot = none := by simpa [Addr.add] using hs
      subst hsp
      have hblk' : W.heap[b]? = some (.cells ⟨c⟩ T fr) := by rw [add_plain] at hblk; exact hblk
      refine ⟨b, c, T, fr, some ⟨b, so, none⟩, len, cap, (List.range len).map f, rfl, by simp, hbig, ⟨by simpa using hl, ?_, fun _ => ⟨so, rfl, ?_⟩⟩, fun _ => hblk', ?_⟩
      · intro o ho
        obtain ⟨i, hi, rfl⟩ := List.mem_map.1 ho
        exact (hfx i (List.mem_range.1 hi)).1.1
      · intro i o hi
        rw [List.getElem?_map] at hi
        rcases Nat.lt_or_ge i len with hlt | hge
        · rw [List.getElem?_range hlt] at hi
          simp only [Option.map_some, Option.some.injEq] at hi
          subst hi
          obtain ⟨_, ci⟩ := hfx i hlt
          rw [add_plain] at ci
          obtain ⟨_, c', T', fr', hb', ht⟩ := cells_row ci (by omega)
          have e : c' = c := by
            have hb2 : W.heap[b]? = some (.cells ⟨c'⟩ T' fr') := hb'
            rw [hblk'] at hb2
            injection hb2 with hb2
            injection hb2 with hb3 _ _
            injection hb3 with hb4
            exact hb4.symm
          subst e
          exact ht
        · rw [List.getElem?_eq_none (by simpa using hge)] at hi; cases hi
      · intro o ho
        obtain ⟨i, hi, rfl⟩ := List.mem_map.1 ho
        exact (hfx i (List.mem_range.1 hi)).1.2
end

end Go.Proofs.Qxb6500907a

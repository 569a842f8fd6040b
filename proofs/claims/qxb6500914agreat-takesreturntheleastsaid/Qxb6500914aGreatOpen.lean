import Derived.Test.Qxb6500914aGreatRow
import Derived.Test.Qxb6500914aGreatO0
namespace Go.Proofs.Qxb6500914aGreat
open Go.Eng
set_option linter.unusedVariables false
set_option linter.unusedSimpArgs false

open Go.ChangeShapes Go.WideShapes Go.ChangeAt Go.RowKit Go.Deep
theorem own : ownKnob Tryz.prog.godebug = none := by kernel_rfl
theorem laidOut : laidOutB Tryz.prog = true := by kernel_rfl
theorem cells43 : Tryz.prog.cellsOf 43 = 4 := by kernel_rfl
theorem cells35 : Tryz.prog.cellsOf 35 = 1 := by kernel_rfl
theorem cells5 : Tryz.prog.cellsOf 5 = 1 := by kernel_rfl
theorem cells37 : Tryz.prog.cellsOf 37 = 1 := by kernel_rfl
theorem read22 : Tryz.prog.readableRec 22 = true := by kernel_rfl
theorem size22 : 22 < Tryz.prog.types.size := of_decide_eq_true (by kernel_rfl)

section
variable {H : Type} {enc : TypeId × Value → H} {W : World}
theorem wf_nat {k : IntKind} {z : Int} (h : (Lit.int k z).wf = true) (hk : k = .u8 ∨ k = .u32 ∨ k = .u64) : ∃ m : Nat, z = m ∧ (k = .u8 → m < 256) ∧ (k = .u32 → m < 4294967296) ∧ (k = .u64 → m < 18446744073709551616) := by
  have e1 : IntKind.u8.min = 0 := rfl
  have e2 : IntKind.u8.max = 255 := rfl
  have e3 : IntKind.u32.min = 0 := rfl
  have e4 : IntKind.u32.max = 4294967295 := rfl
  have e5 : IntKind.u64.min = 0 := rfl
  have e6 : IntKind.u64.max = 18446744073709551615 := rfl
  rcases hk with rfl | rfl | rfl
  · have : 0 ≤ z ∧ z ≤ 255 := by simpa [Lit.wf, e1, e2] using h
    exact ⟨z.toNat, by omega, (fun _ => by omega), (fun h => by cases h), (fun h => by cases h)⟩
  · have : 0 ≤ z ∧ z ≤ 4294967295 := by simpa [Lit.wf, e3, e4] using h
    exact ⟨z.toNat, by omega, (fun h => by cases h), (fun _ => by omega), (fun h => by cases h)⟩
  · have : 0 ≤ z ∧ z ≤ 18446744073709551615 := by simpa [Lit.wf, e5, e6] using h
    exact ⟨z.toNat, by omega, (fun h => by cases h), (fun h => by cases h), (fun _ => by omega)⟩

theorem list4 {l : List Value} (h : l.length = 4) : ∃ a b c d, l = [a, b, c, d] := by
  rcases l with _ | ⟨a, _ | ⟨b, _ | ⟨c, _ | ⟨d, _ | ⟨e, l⟩⟩⟩⟩⟩
  all_goals first | (simp at h; done) | exact ⟨a, b, c, d, rfl⟩
/-- one op, read -/
theorem op_open {fuel : Nat} {cs : List Value} {x : DataW H × List MemPlace} {sp : Nat → Bool} (h : DataW.trod enc Tryz.prog W 0 sp true fuel 43 cs = some x) : ∃ o : SOp, o.ok ∧ cs = o.vals := by
  obtain ⟨xs, n, _, _, hlen, hxl, hf⟩ := DataW.trod_struct Tryz.underlying43 h
  rw [cells43] at hlen
  obtain ⟨c0, c1, c2, c3, rfl⟩ := list4 hlen
  have g : ∀ (i : Nat) (t : TypeId) (k : IntKind) (c : Value), Tryz.prog.underlying t = some (.int k) → (k = .u8 ∨ k = .u32 ∨ k = .u64) → i < xs.length → DataW.trod enc Tryz.prog W 0 sp true n t [c] = xs[i]? →
      ∃ m : Nat, c = .int k m ∧ (k = .u8 → m < 256) ∧ (k = .u32 → m < 4294967296) ∧ (k = .u64 → m < 18446744073709551616) := by
    intro i t k c ht hk hi hc
    rw [List.getElem?_eq_getElem hi] at hc
    obtain ⟨z, hz, _, hw⟩ := DataW.trod_int ht hc
    obtain ⟨m, rfl, b⟩ := wf_nat hw hk
    injection hz with hz _
    exact ⟨m, hz, b⟩
  have h0 : DataW.trod enc Tryz.prog W 0 sp true n 35 (([c0, c1, c2, c3].drop 0).take (Tryz.prog.cellsOf 35)) = xs[0]? := hf 0 _ rfl
  have h1 : DataW.trod enc Tryz.prog W 0 sp true n 5 (([c0, c1, c2, c3].drop 1).take (Tryz.prog.cellsOf 5)) = xs[1]? := hf 1 _ rfl
  have h2 : DataW.trod enc Tryz.prog W 0 sp true n 37 (([c0, c1, c2, c3].drop 2).take (Tryz.prog.cellsOf 37)) = xs[2]? := hf 2 _ rfl
  have h3 : DataW.trod enc Tryz.prog W 0 sp true n 37 (([c0, c1, c2, c3].drop 3).take (Tryz.prog.cellsOf 37)) = xs[3]? := hf 3 _ rfl
  rw [cells35] at h0
  rw [cells5] at h1
  rw [cells37] at h2 h3
  have hx : xs.length = 4 := hxl
  obtain ⟨m0, rfl, a0, _⟩ := g 0 35 .u8 c0 Tryz.underlying35 (.inl rfl) (by omega) h0
  obtain ⟨m1, rfl, a1, _⟩ := g 1 5 .u8 c1 Tryz.underlying5 (.inl rfl) (by omega) h1
  obtain ⟨m2, rfl, _, _, a2⟩ := g 2 37 .u64 c2 Tryz.underlying37 (.inr (.inr rfl)) (by omega) h2
  obtain ⟨m3, rfl, _, _, a3⟩ := g 3 37 .u64 c3 Tryz.underlying37 (.inr (.inr rfl)) (by omega) h3
  exact ⟨⟨m0, m1, m2, m3⟩, ⟨a0 rfl, a1 rfl, a2 rfl, a3 rfl⟩, rfl⟩

theorem ops_open {v : Value} {d : DataW H} {ps : List MemPlace} (hv : ∃ p len cap, v = .slice p len cap) (h : DataW.Trod enc Tryz.prog W 0 (fun _ => true) true 22 v d ps) :
    ∃ sb c T fr p n cap ops, v = .slice p n cap ∧ n = ops.length ∧ n ≤ 9223372036854775807 ∧ Ops sb c p cap ops ∧ OpsIn sb c T fr ops W := by
  obtain ⟨p, len, cap, rfl⟩ := hv
  obtain ⟨fuel, hf⟩ := h
  have hcells : (Value.slice p len cap).cells.toList = [.slice p len cap] := rfl
  rw [hcells] at hf
  rcases open_slice Tryz.underlying22 hf with ⟨hcs, _⟩ | ⟨a, len', cap', m, n, D, Pl, hcs, hb, hl, hm, hmm, _, hx⟩
  · injection hcs with e _
    injection e with e1 e2 e3
    subst e1; subst e2; subst e3
    exact ⟨0, [], 0, (0, 0), none, 0, 0, [], rfl, rfl, by omega, ⟨Nat.le_refl _, fun o m => (by cases m), fun h => absurd h (by simp)⟩, fun h => absurd h (by simp)⟩
  · injection hcs with e _
    injection e with e1 e2 e3
    subst e1; subst e2; subst e3
    simp only [if_true] at hmm
    subst m
    have hbig : len ≤ 9223372036854775807 := by unfold maxLen at hm; omega
    rw [cells43] at hx
    have hop : ∀ i, i < len → ∃ o : SOp, o.ok ∧ W.cells? 0 (a.add (i * 4)) 4 = some o.vals := by
      intro i hi
      obtain ⟨cs', h1, h2⟩ := hx i (by omega)
      obtain ⟨o, ho, rfl⟩ := op_open h2
      exact ⟨o, ho, h1⟩
    by_cases h0 : len = 0
    · subst h0
      exact ⟨0, [], 0, (0, 0), some a, 0, cap, [], rfl, rfl, by omega, ⟨Nat.zero_le _, fun o m => (by cases m), fun h => absurd h (by simp)⟩, fun h => absurd h (by simp)⟩
    · haveI : Inhabited SOp := ⟨⟨0, 0, 0, 0⟩⟩
      obtain ⟨f, hfx⟩ := choose_lt (α := SOp) (p := fun i o => o.ok ∧ W.cells? 0 (a.add (i * 4)) 4 = some o.vals) hop
      obtain ⟨_, c0⟩ := hfx 0 (by omega)
      obtain ⟨hs, c, T, fr, hblk, _⟩ := cells_row c0 (by omega)
      obtain ⟨b, so, spot⟩ := a
      have hsp : spot = none := by simpa [Addr.add] using hs
      subst hsp
      have hblk' : W.heap[b]? = some (.cells ⟨c⟩ T fr) := by rw [add_plain] at hblk; exact hblk
      refine ⟨b, c, T, fr, some ⟨b, so, none⟩, len, cap, (List.range len).map f, rfl, by simp, hbig, ⟨by simpa using hl, ?_, fun _ => ⟨so, rfl, ?_⟩⟩, fun _ => hblk'⟩
      · intro o ho
        obtain ⟨i, hi, rfl⟩ := List.mem_map.1 ho
        exact (hfx i (List.mem_range.1 hi)).1
      · intro i o hi
        rw [List.getElem?_map] at hi
        rcases Nat.lt_or_ge i len with hlt | hge
        · rw [List.getElem?_range hlt] at hi
          simp only [Option.map_some, Option.some.injEq] at hi
          subst hi
          obtain ⟨_, ci⟩ := hfx i hlt
          rw [add_plain] at ci
          obtain ⟨_, c', T', fr', hb', ht⟩ := cells_row ci (by omega)
          have e : c' = c := by
            have hb2 : W.heap[b]? = some (.cells ⟨c'⟩ T' fr') := hb'
            rw [hblk'] at hb2
            injection hb2 with hb2
            injection hb2 with hb3 _ _
            injection hb3 with hb4
            exact hb4.symm
          subst e
          exact ht
        · rw [List.getElem?_eq_none (by simpa using hge)] at hi; cases hi
end

end Go.Proofs.Qxb6500914aGreat

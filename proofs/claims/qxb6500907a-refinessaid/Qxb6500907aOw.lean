import Derived.Test.Qxb6500907aOpen
import Derived.SizedLaws
namespace Go.Proofs.Qxb6500907a
open Go.Eng
set_option linter.unusedVariables false
set_option linter.unusedSimpArgs false

open Go.ChangeShapes Go.WideShapes Go.ChangeAt Go.RowKit Go.Deep
theorem bytes5 : Try.prog.bytesOf 5 = 1 := by kernel_rfl
section
variable {H : Type} {enc : TypeId × Value → H} {W : World}
theorem data_len {fuel : Nat} {p : Option Addr} {N cap : Nat} {x : DataW H × List MemPlace} (h : DataW.trod enc Try.prog W 0 (fun _ => true) true fuel 41 [.slice p N cap] = some x) (hw : (x.1.weights Try.prog 41).all (· ≤ reachBytes) = true) : N ≤ 140737488351232 := by
  rcases open_slice1 Try.underlying41 cells5 h with ⟨e, _⟩ | ⟨a, len, cap', m, n, V, D, Pl, e, hb, hl, hm, hmm, hx, _⟩
  · injection e with e _
    injection e with _ e _
    omega
  · injection e with e _
    injection e with _ e _
    subst e
    rw [hx] at hw
    simp only [DataW.weights, Try.underlying41, List.all_cons, Bool.and_eq_true, decide_eq_true_eq, List.length_map, List.length_range, bytes5] at hw
    have e : reachBytes = 140737488351232 := rfl
    omega
theorem w59 (l : List (DataW H)) : DataW.weights Try.prog 59 (.agg l) = DataW.weightsEach Try.prog [48, 34, 57, 41] l := by
  simp only [DataW.weights, Try.underlying59]; rfl
set_option maxRecDepth 20000 in
theorem op_openW {fuel : Nat} {cs : List Value} {x : DataW H × List MemPlace} (h : DataW.trod enc Try.prog W 0 (fun _ => true) true fuel 59 cs = some x) : ∃ o : DO, (o.ok ∧ Mem o.Sc W) ∧ cs = o.vals ∧ ((x.1.weights Try.prog 59).all (· ≤ reachBytes) = true → o.N ≤ 140737488351232) := by
  obtain ⟨o, ho, hv⟩ := op_open h
  refine ⟨o, ho, hv, fun hw => ?_⟩
  obtain ⟨xs, n, _, hx, hlen, hxl, hf⟩ := DataW.trod_struct Try.underlying59 h
  have hxl' : xs.length = 4 := hxl
  have h3 : DataW.trod enc Try.prog W 0 (fun _ => true) true n 41 ((cs.drop 14).take (Try.prog.cellsOf 41)) = xs[3]? := hf 3 _ rfl
  rw [cells41, hv] at h3
  have e3 : (o.vals.drop 14).take 1 = [.slice o.p o.N o.cap] := rfl
  rw [e3, List.getElem?_eq_getElem (by omega)] at h3
  refine data_len h3 ?_
  rw [hx, w59, List.all_eq_true] at hw
  rw [List.all_eq_true]
  intro m hm
  refine hw m (DataW.weights_mem_each (ts := [48, 34, 57, 41]) (j := 3) (t := 41) (d := xs[3].1) rfl ?_ m hm)
  rw [List.getElem?_map, List.getElem?_eq_getElem (by omega)]
  rfl
theorem weightsAll_mem {P : Program} {e : TypeId} : ∀ {l : List (DataW H)} {d : DataW H}, d ∈ l → ∀ n ∈ d.weights P e, n ∈ DataW.weightsAll P e l
  | _ :: _, _, hd, n, hn => by
    simp only [DataW.weightsAll, List.mem_append]
    rcases List.mem_cons.1 hd with rfl | h
    · exact Or.inl hn
    · exact Or.inr (weightsAll_mem h n hn)
theorem ops_openW {v : Value} {d : DataW H} {ps : List MemPlace} (hv : ∃ p len cap, v = .slice p len cap) (h : DataW.Trod enc Try.prog W 0 (fun _ => true) true 22 v d ps) (hw : (d.weights Try.prog 22).all (· ≤ reachBytes) = true) :
    ∃ sb c T fr p n cap ops, v = .slice p n cap ∧ n = ops.length ∧ n ≤ 9223372036854775807 ∧ DOps sb c p cap ops ∧ DIn sb c T fr ops W ∧ ∀ o, o ∈ ops → o.N ≤ 140737488351232 := by
  obtain ⟨p, len, cap, rfl⟩ := hv
  obtain ⟨fuel, hf⟩ := h
  have hcells : (Value.slice p len cap).cells.toList = [.slice p len cap] := rfl
  rw [hcells] at hf
  rcases open_slice Try.underlying22 hf with ⟨hcs, _⟩ | ⟨a, len', cap', m, n, D, Pl, hcs, hb, hl, hm, hmm, hxx, hx⟩
  · injection hcs with e _
    injection e with e1 e2 e3
    subst e1; subst e2; subst e3
    exact ⟨0, [], 0, (0, 0), none, 0, 0, [], rfl, rfl, by omega, ⟨Nat.le_refl _, fun o m => (by cases m), fun h => absurd h (by simp)⟩, ⟨fun h => absurd h (by simp), fun d m => by cases m⟩, fun o m => by cases m⟩
  · injection hcs with e _
    injection e with e1 e2 e3
    subst e1; subst e2; subst e3
    simp only [if_true] at hmm
    subst m
    have hbig : len ≤ 9223372036854775807 := by unfold maxLen at hm; omega
    rw [cells59] at hx
    injection hxx with hxd _
    have hop : ∀ i, i < len → ∃ o : DO, ((o.ok ∧ Mem o.Sc W) ∧ o.N ≤ 140737488351232) ∧ W.cells? 0 (a.add (i * 15)) 15 = some o.vals := by
      intro i hi
      obtain ⟨cs', h1, h2⟩ := hx i (by omega)
      obtain ⟨o, ho, rfl, hsm⟩ := op_openW h2
      refine ⟨o, ⟨ho, hsm ?_⟩, h1⟩
      rw [List.all_eq_true] at hw ⊢
      intro n hn
      refine hw n ?_
      rw [hxd]
      simp only [DataW.weights, Try.underlying22, List.mem_cons, List.mem_append]
      exact .inr (.inl (weightsAll_mem (List.mem_map.2 ⟨i, List.mem_range.2 hi, rfl⟩) n hn))
    by_cases h0 : len = 0
    · subst h0
      exact ⟨0, [], 0, (0, 0), some a, 0, cap, [], rfl, rfl, by omega, ⟨Nat.zero_le _, fun o m => (by cases m), fun h => absurd h (by simp)⟩, ⟨fun h => absurd h (by simp), fun d m => by cases m⟩, fun o m => by cases m⟩
    · haveI : Inhabited DO := ⟨⟨0, 0, ⟨0, 0, 0, 0, false, 0, 0, 0, false, 0, 0, 0⟩, none, 0, 0, []⟩⟩
      obtain ⟨f, hfx⟩ := choose_lt (α := DO) (p := fun i o => ((o.ok ∧ Mem o.Sc W) ∧ o.N ≤ 140737488351232) ∧ W.cells? 0 (a.add (i * 15)) 15 = some o.vals) hop
      obtain ⟨_, c0⟩ := hfx 0 (by omega)
      obtain ⟨hs, c, T, fr, hblk, _⟩ := cells_row c0 (by omega)
      obtain ⟨b, so, spot⟩ := a
      have hsp : spot = none := by simpa [Addr.add] using hs
      subst hsp
      have hblk' : W.heap[b]? = some (.cells ⟨c⟩ T fr) := by rw [add_plain] at hblk; exact hblk
      refine ⟨b, c, T, fr, some ⟨b, so, none⟩, len, cap, (List.range len).map f, rfl, by simp, hbig, ⟨by simpa using hl, ?_, fun _ => ⟨so, rfl, ?_⟩⟩, ⟨fun _ => hblk', ?_⟩, ?_⟩
      · intro o ho
        obtain ⟨i, hi, rfl⟩ := List.mem_map.1 ho
        exact (hfx i (List.mem_range.1 hi)).1.1.1
      · intro i o hi
        rw [List.getElem?_map] at hi
        rcases Nat.lt_or_ge i len with hlt | hge
        · rw [List.getElem?_range hlt] at hi
          simp only [Option.map_some, Option.some.injEq] at hi
          subst hi
          obtain ⟨_, ci⟩ := hfx i hlt
          rw [add_plain] at ci
          obtain ⟨_, c', T', fr', hb', ht⟩ := cells_row ci (by omega)
          have e : c' = c := by
            have hb2 : W.heap[b]? = some (.cells ⟨c'⟩ T' fr') := hb'
            rw [hblk'] at hb2
            injection hb2 with hb2
            injection hb2 with hb3 _ _
            injection hb3 with hb4
            exact hb4.symm
          subst e
          exact ht
        · rw [List.getElem?_eq_none (by simpa using hge)] at hi; cases hi
      · intro o ho
        obtain ⟨i, hi, rfl⟩ := List.mem_map.1 ho
        exact (hfx i (List.mem_range.1 hi)).1.1.2
      · intro o ho
        obtain ⟨i, hi, rfl⟩ := List.mem_map.1 ho
        exact (hfx i (List.mem_range.1 hi)).1.2
end

end Go.Proofs.Qxb6500907a

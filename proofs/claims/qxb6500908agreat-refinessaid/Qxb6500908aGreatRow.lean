import Derived.Test.Qxb6500908aGreatEng
import Derived.WalkKit
import Derived.ProofKit
import Derived.OpenShut
import Derived.Carry
import Derived.Deep.Slices
set_option linter.unusedVariables false
set_option linter.unusedSimpArgs false
namespace Go.Eng
open Go.ChangeShapes Go.WideShapes Go.ChangeAt Go.RowKit
section row
variable {H : Type} {enc : TypeId × Value → H} {P : Program}

theorem Has.below {W W' : World} (h : Has [] W [] W') : Below W.heap.size W W' :=
  ⟨h.frm.os, h.frm.tape, h.frm.output, h.frm.size, fun b hb => h.frm.block b hb (by simp)⟩

theorem trodAll_stays (hl : laidOutB P = true) {W W' : World} (hb : Below W.heap.size W W') {sp : Nat → Bool} : ∀ {ts : List TypeId} {vs : List Value} {ds : List (DataW H)} {ps : List MemPlace},
    (∀ t, t ∈ ts → P.readableRec t = true ∧ t < P.types.size) → DataW.TrodAll enc P W 0 (fun _ => true) true ts vs ds ps → (∀ x ∈ ps, x.block < W.heap.size) → (∀ x ∈ ps, sp x.block = true) →
    DataW.TrodAll enc P W' 0 sp true ts vs ds ps
  | [], [], [], _, _, h, _, _ => h
  | t :: ts, v :: vs, d :: ds, ps, ht, h, h1, h2 => by
    obtain ⟨p, q, hp, hq, rfl⟩ := h
    refine ⟨p, q, ?_, trodAll_stays hl hb (fun t m => ht t (List.mem_cons_of_mem _ m)) hq (fun x m => h1 x (List.mem_append_right _ m)) (fun x m => h2 x (List.mem_append_right _ m)), rfl⟩
    exact WideElems.Trod_stays hl (ht t (List.mem_cons_self ..)).1 (ht t (List.mem_cons_self ..)).2 hp (fun x m => hb.same (h1 x (List.mem_append_left _ m))) (fun x m => h2 x (List.mem_append_left _ m))
  | [], _ :: _, _, _, _, h, _, _ => by cases h
  | [], [], _ :: _, _, _, h, _, _ => by cases h
  | _ :: _, [], _, _, _, h, _, _ => by cases h
  | _ :: _, _ :: _, [], _, _, h, _, _ => by cases h

/-- the row of a law that answers true and leaves its arguments alone -/
theorem law_post {f : Func} {s : ChangeSpec} {apart fresh handsOn : Bool} {W W' : World} {args : Array Value} {ds gs : List (DataW H)} {before : List MemPlace} {B : TypeId}
    (hl : laidOutB P = true) (ht : ∀ t, t ∈ f.params.toList → P.readableRec t = true ∧ t < P.types.size) (hB : P.underlying B = some .bool) (hr : f.resultTypes = #[B]) (hv : s.vars = [])
    (hs : s.fn H ds = { results := [.lit (.bool true)], args := ds })
    (hW : DataW.Whole enc P f.params.toList s.vars apart W args.toList ds gs before) (hh : Has [] W [] W') : s.post enc P f apart fresh handsOn false W args (.bool true) W' := by
  have hW' := hW
  obtain ⟨p, q, hA, hV, rfl, _, _⟩ := hW
  have hlt : ∀ x ∈ p, x.block < W.heap.size := fun x hx => by simpa using hW'.lt x (List.mem_append_left _ hx)
  have hV' := hV
  rw [hv] at hV'
  obtain ⟨rfl, rfl⟩ := trodVars_none hV'
  refine ⟨ds, [], p ++ [], [], p, [], hW', ?_, ?_, ?_, hh.below.frame _, fun h => by cases h⟩
  · rw [List.append_nil, hs, hr]
    exact trodAll_cons_mk (shut_bool hB _) trodAll_mk0
  · rw [List.append_nil, hs]
    exact trodAll_stays hl hh.below ht hA hlt (fun x m => by simpa using hlt x m)
  · rw [List.append_nil, hs, hv]
    rfl

theorem cell_block {w : World} {a : Addr} {v : Value} (h : w.cell? a = some v) : a.spot = none ∧ ∃ c T fr, w.heap[a.block]? = some (.cells ⟨c⟩ T fr) ∧ c[a.off]? = some v := by
  refine ⟨World.cell?_spot h, ?_⟩
  unfold World.cell? at h
  split at h
  · rename_i c T fr hb
    exact ⟨c.toList, T, fr, hb, by split at h <;> simp_all⟩
  · cases h

theorem cells_row {w : World} {a : Addr} {m : Nat} {cs : List Value} (h : w.cells? 0 a m = some cs) (hm : 0 < m) : a.spot = none ∧ ∃ c T fr, w.heap[a.block]? = some (.cells ⟨c⟩ T fr) ∧ (c.drop a.off).take m = cs := by
  obtain ⟨_, hlen, hc⟩ := World.cells?_some h
  have h0 := hc 0 hm
  rw [List.getElem?_eq_getElem (by omega)] at h0
  obtain ⟨hs, c, T, fr, hb, _⟩ := cell_block h0
  obtain ⟨b, o, spot⟩ := a
  have hs' : spot = none := by simpa [Addr.add] using hs
  subst hs'
  have hb0 : w.heap[b]? = some (.cells ⟨c⟩ T fr) := hb
  refine ⟨rfl, c, T, fr, hb0, ?_⟩
  apply List.ext_getElem?
  intro i
  rcases Nat.lt_or_ge i m with hi | hi
  · have h1 := hc i hi
    rw [List.getElem?_eq_getElem (by omega), add_plain] at h1
    obtain ⟨_, c', T', fr', hb', hv⟩ := cell_block h1
    have hb2 : w.heap[b]? = some (.cells ⟨c'⟩ T' fr') := hb'
    have e : c' = c := by
      rw [hb0] at hb2
      injection hb2 with hb2
      injection hb2 with hb3 _ _
      injection hb3 with hb4
      exact hb4.symm
    subst e
    rw [List.getElem?_take, if_pos hi, List.getElem?_drop]
    have hv2 : c'[o + i]? = some cs[i] := hv
    rw [hv2, List.getElem?_eq_getElem (by omega)]
  · rw [List.getElem?_eq_none (by simp; omega), List.getElem?_eq_none (by omega)]
end row
end Go.Eng

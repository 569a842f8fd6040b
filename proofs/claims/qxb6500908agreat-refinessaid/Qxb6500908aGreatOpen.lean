import Derived.Test.Qxb6500908aGreatRow
import Derived.Test.Qxb6500908aGreatX9
import Derived.SizedLaws
namespace Go.Proofs.Qxb6500908aGreat
open Go.Eng
set_option linter.unusedVariables false
set_option linter.unusedSimpArgs false

open Go.ChangeShapes Go.WideShapes Go.ChangeAt Go.RowKit Go.Deep
theorem own : ownKnob Tryz.prog.godebug = none := by kernel_rfl
theorem laidOut : laidOutB Tryz.prog = true := by kernel_rfl
theorem cells45 : Tryz.prog.cellsOf 45 = 18 := by kernel_rfl
theorem cells33 : Tryz.prog.cellsOf 33 = 1 := by kernel_rfl
theorem cells3 : Tryz.prog.cellsOf 3 = 1 := by kernel_rfl
theorem cells34 : Tryz.prog.cellsOf 34 = 1 := by kernel_rfl
theorem cells38 : Tryz.prog.cellsOf 38 = 8 := by kernel_rfl
theorem cells43 : Tryz.prog.cellsOf 43 = 6 := by kernel_rfl
theorem cells35 : Tryz.prog.cellsOf 35 = 1 := by kernel_rfl
theorem cells39 : Tryz.prog.cellsOf 39 = 1 := by kernel_rfl
theorem cells5 : Tryz.prog.cellsOf 5 = 1 := by kernel_rfl
theorem cells36 : Tryz.prog.cellsOf 36 = 1 := by kernel_rfl
theorem cells4 : Tryz.prog.cellsOf 4 = 1 := by kernel_rfl
theorem cells9 : Tryz.prog.cellsOf 9 = 1 := by kernel_rfl
theorem cells41 : Tryz.prog.cellsOf 41 = 2 := by kernel_rfl
theorem bytes5 : Tryz.prog.bytesOf 5 = 1 := by kernel_rfl
theorem read22 : Tryz.prog.readableRec 22 = true := by kernel_rfl
theorem size22 : 22 < Tryz.prog.types.size := of_decide_eq_true (by kernel_rfl)
section
variable {H : Type} {enc : TypeId × Value → H} {W : World} {sp : Nat → Bool}
theorem wf_u8 {z : Int} (h : (Lit.int .u8 z).wf = true) : 0 ≤ z ∧ z ≤ 255 := by
  have e1 : IntKind.u8.min = 0 := rfl
  have e2 : IntKind.u8.max = 255 := rfl
  simpa [Lit.wf, e1, e2] using h
theorem wf_u32 {z : Int} (h : (Lit.int .u32 z).wf = true) : 0 ≤ z ∧ z ≤ 4294967295 := by
  have e1 : IntKind.u32.min = 0 := rfl
  have e2 : IntKind.u32.max = 4294967295 := rfl
  simpa [Lit.wf, e1, e2] using h
theorem wf_i64 {z : Int} (h : (Lit.int .i64 z).wf = true) : -9223372036854775808 ≤ z ∧ z ≤ 9223372036854775807 := by
  have e1 : IntKind.i64.min = -9223372036854775808 := rfl
  have e2 : IntKind.i64.max = 9223372036854775807 := rfl
  simpa [Lit.wf, e1, e2] using h
theorem u8_open {fuel : Nat} {t : TypeId} {c : Value} {x : DataW H × List MemPlace} (ht : Tryz.prog.underlying t = some (.int .u8)) (h : DataW.trod enc Tryz.prog W 0 sp true fuel t [c] = some x) : ∃ m : Int, c = .int .u8 m ∧ 0 ≤ m ∧ m ≤ 255 := by
  obtain ⟨z, hz, _, hw⟩ := DataW.trod_int ht h
  injection hz with hz _
  exact ⟨z, hz, wf_u8 hw⟩
theorem u32_open {fuel : Nat} {t : TypeId} {c : Value} {x : DataW H × List MemPlace} (ht : Tryz.prog.underlying t = some (.int .u32)) (h : DataW.trod enc Tryz.prog W 0 sp true fuel t [c] = some x) : ∃ m : Int, c = .int .u32 m ∧ 0 ≤ m ∧ m ≤ 4294967295 := by
  obtain ⟨z, hz, _, hw⟩ := DataW.trod_int ht h
  injection hz with hz _
  exact ⟨z, hz, wf_u32 hw⟩
theorem i64_open {fuel : Nat} {t : TypeId} {c : Value} {x : DataW H × List MemPlace} (ht : Tryz.prog.underlying t = some (.int .i64)) (h : DataW.trod enc Tryz.prog W 0 sp true fuel t [c] = some x) : ∃ m : Int, c = .int .i64 m ∧ -9223372036854775808 ≤ m ∧ m ≤ 9223372036854775807 := by
  obtain ⟨z, hz, _, hw⟩ := DataW.trod_int ht h
  injection hz with hz _
  exact ⟨z, hz, wf_i64 hw⟩
theorem bool_open {fuel : Nat} {t : TypeId} {c : Value} {x : DataW H × List MemPlace} (ht : Tryz.prog.underlying t = some .bool) (h : DataW.trod enc Tryz.prog W 0 sp true fuel t [c] = some x) : ∃ m : Bool, c = .bool m := by
  cases fuel with
  | zero => simp [DataW.trod] at h
  | succ f =>
    unfold DataW.trod at h
    simp only [ht] at h
    cases c <;> simp_all
theorem str_open {fuel : Nat} {c : Value} {x : DataW H × List MemPlace} (h : DataW.trod enc Tryz.prog W 0 sp true fuel 9 [c] = some x) : ∃ s : ByteArray, c = .string s ∧ ((x.1.weights Tryz.prog 9).all (· ≤ reachBytes) = true → s.size ≤ 140737488351232) := by
  obtain ⟨s, hz, rfl, hw⟩ := DataW.trod_string Tryz.underlying9 h
  injection hz with hz _
  refine ⟨s, hz, fun h9 => ?_⟩
  have e : reachBytes = 140737488351232 := rfl
  simp only [DataW.weights, List.all_cons, List.all_nil, Bool.and_true, decide_eq_true_eq, e] at h9
  exact h9
theorem each_all {ts : List TypeId} {ds : List (DataW H)} {j : Nat} {t : TypeId} {d : DataW H} (h : (DataW.weightsEach Tryz.prog ts ds).all (· ≤ reachBytes) = true) (ht : ts[j]? = some t) (hd : ds[j]? = some d) : (d.weights Tryz.prog t).all (· ≤ reachBytes) = true := List.all_eq_true.2 fun n hn => List.all_eq_true.1 h n (DataW.weights_mem_each (j := j) ht hd n hn)
theorem weightsAll_mem {P : Program} {e : TypeId} : ∀ {l : List (DataW H)} {d : DataW H}, d ∈ l → ∀ n ∈ d.weights P e, n ∈ DataW.weightsAll P e l
  | _ :: _, _, hd, n, hn => by
    simp only [DataW.weightsAll, List.mem_append]
    rcases List.mem_cons.1 hd with rfl | h
    · exact Or.inl hn
    · exact Or.inr (weightsAll_mem h n hn)
theorem lst2 {α : Type} {l : List α} (h : l.length = 2) : ∃ a b, l = [a, b] := by
  match l, h with
  | [a, b], _ => exact ⟨a, b, rfl⟩
theorem lst5 {α : Type} {l : List α} (h : l.length = 5) : ∃ a b c d e, l = [a, b, c, d, e] := by
  match l, h with
  | [a, b, c, d, e], _ => exact ⟨a, b, c, d, e, rfl⟩
theorem lst6 {α : Type} {l : List α} (h : l.length = 6) : ∃ a b c d e f, l = [a, b, c, d, e, f] := by
  match l, h with
  | [a, b, c, d, e, f], _ => exact ⟨a, b, c, d, e, f, rfl⟩
theorem lst8 {α : Type} {l : List α} (h : l.length = 8) : ∃ a b c d e f g i, l = [a, b, c, d, e, f, g, i] := by
  match l, h with
  | [a, b, c, d, e, f, g, i], _ => exact ⟨a, b, c, d, e, f, g, i, rfl⟩
theorem iv_open {fuel : Nat} {c0 c1 c2 c3 c4 c5 : Value} {x : DataW H × List MemPlace} (h : DataW.trod enc Tryz.prog W 0 sp true fuel 43 [c0, c1, c2, c3, c4, c5] = some x) : ∃ v : Iv, v.ok ∧ [c0, c1, c2, c3, c4, c5] = ivc v := by
  obtain ⟨xs, n, _, _, _, hxl, hf⟩ := DataW.trod_struct Tryz.underlying43 h
  have h0 : DataW.trod enc Tryz.prog W 0 sp true n 39 (([c0, c1, c2, c3, c4, c5].drop 0).take (Tryz.prog.cellsOf 39)) = xs[0]? := hf 0 _ rfl
  have h1 : DataW.trod enc Tryz.prog W 0 sp true n 5 (([c0, c1, c2, c3, c4, c5].drop 1).take (Tryz.prog.cellsOf 5)) = xs[1]? := hf 1 _ rfl
  have h2 : DataW.trod enc Tryz.prog W 0 sp true n 5 (([c0, c1, c2, c3, c4, c5].drop 2).take (Tryz.prog.cellsOf 5)) = xs[2]? := hf 2 _ rfl
  have h3 : DataW.trod enc Tryz.prog W 0 sp true n 5 (([c0, c1, c2, c3, c4, c5].drop 3).take (Tryz.prog.cellsOf 5)) = xs[3]? := hf 3 _ rfl
  have h4 : DataW.trod enc Tryz.prog W 0 sp true n 41 (([c0, c1, c2, c3, c4, c5].drop 4).take (Tryz.prog.cellsOf 41)) = xs[4]? := hf 4 _ rfl
  rw [cells39] at h0
  rw [cells5] at h1 h2 h3
  rw [cells41] at h4
  obtain ⟨y0, y1, y2, y3, y4, rfl⟩ := lst5 (show xs.length = 5 from hxl)
  obtain ⟨k, rfl, r0⟩ := u8_open Tryz.underlying39 (show DataW.trod enc Tryz.prog W 0 sp true n 39 [c0] = some y0 from h0)
  obtain ⟨a, rfl, r1⟩ := u8_open Tryz.underlying5 (show DataW.trod enc Tryz.prog W 0 sp true n 5 [c1] = some y1 from h1)
  obtain ⟨b, rfl, r2⟩ := u8_open Tryz.underlying5 (show DataW.trod enc Tryz.prog W 0 sp true n 5 [c2] = some y2 from h2)
  obtain ⟨w, rfl, r3⟩ := u8_open Tryz.underlying5 (show DataW.trod enc Tryz.prog W 0 sp true n 5 [c3] = some y3 from h3)
  obtain ⟨zs, m, _, _, _, hzl, hg⟩ := DataW.trod_struct Tryz.underlying41 (show DataW.trod enc Tryz.prog W 0 sp true n 41 [c4, c5] = some y4 from h4)
  have g0 : DataW.trod enc Tryz.prog W 0 sp true m 5 (([c4, c5].drop 0).take (Tryz.prog.cellsOf 5)) = zs[0]? := hg 0 _ rfl
  have g1 : DataW.trod enc Tryz.prog W 0 sp true m 5 (([c4, c5].drop 1).take (Tryz.prog.cellsOf 5)) = zs[1]? := hg 1 _ rfl
  rw [cells5] at g0 g1
  obtain ⟨t0, t1, rfl⟩ := lst2 (show zs.length = 2 from hzl)
  obtain ⟨da, rfl, r4⟩ := u8_open Tryz.underlying5 (show DataW.trod enc Tryz.prog W 0 sp true m 5 [c4] = some t0 from g0)
  obtain ⟨dl, rfl, r5⟩ := u8_open Tryz.underlying5 (show DataW.trod enc Tryz.prog W 0 sp true m 5 [c5] = some t1 from g1)
  exact ⟨⟨k, a, b, w, da, dl⟩, ⟨r0, r1, r2, r3, r4, r5⟩, rfl⟩
theorem w67 (l : List (DataW H)) : DataW.weights Tryz.prog 38 (.agg l) = DataW.weightsEach Tryz.prog [35, 5, 36, 36, 4, 36, 36, 9] l := by
  simp only [DataW.weights, Tryz.underlying38]; rfl
theorem w74 (l : List (DataW H)) : DataW.weights Tryz.prog 45 (.agg l) = DataW.weightsEach Tryz.prog [33, 3, 3, 34, 38, 43] l := by
  simp only [DataW.weights, Tryz.underlying45]; rfl
theorem ms_open {fuel : Nat} {c0 c1 c2 c3 c4 c5 c6 c7 : Value} {x : DataW H × List MemPlace} (h : DataW.trod enc Tryz.prog W 0 sp true fuel 38 [c0, c1, c2, c3, c4, c5, c6, c7] = some x) : ∃ v : Ms, v.ok ∧ [c0, c1, c2, c3, c4, c5, c6, c7] = msc v ∧ ((x.1.weights Tryz.prog 38).all (· ≤ reachBytes) = true → v.t.size ≤ 140737488351232) := by
  obtain ⟨xs, n, _, hx, _, hxl, hf⟩ := DataW.trod_struct Tryz.underlying38 h
  have h0 : DataW.trod enc Tryz.prog W 0 sp true n 35 (([c0, c1, c2, c3, c4, c5, c6, c7].drop 0).take (Tryz.prog.cellsOf 35)) = xs[0]? := hf 0 _ rfl
  have h1 : DataW.trod enc Tryz.prog W 0 sp true n 5 (([c0, c1, c2, c3, c4, c5, c6, c7].drop 1).take (Tryz.prog.cellsOf 5)) = xs[1]? := hf 1 _ rfl
  have h2 : DataW.trod enc Tryz.prog W 0 sp true n 36 (([c0, c1, c2, c3, c4, c5, c6, c7].drop 2).take (Tryz.prog.cellsOf 36)) = xs[2]? := hf 2 _ rfl
  have h3 : DataW.trod enc Tryz.prog W 0 sp true n 36 (([c0, c1, c2, c3, c4, c5, c6, c7].drop 3).take (Tryz.prog.cellsOf 36)) = xs[3]? := hf 3 _ rfl
  have h4 : DataW.trod enc Tryz.prog W 0 sp true n 4 (([c0, c1, c2, c3, c4, c5, c6, c7].drop 4).take (Tryz.prog.cellsOf 4)) = xs[4]? := hf 4 _ rfl
  have h5 : DataW.trod enc Tryz.prog W 0 sp true n 36 (([c0, c1, c2, c3, c4, c5, c6, c7].drop 5).take (Tryz.prog.cellsOf 36)) = xs[5]? := hf 5 _ rfl
  have h6 : DataW.trod enc Tryz.prog W 0 sp true n 36 (([c0, c1, c2, c3, c4, c5, c6, c7].drop 6).take (Tryz.prog.cellsOf 36)) = xs[6]? := hf 6 _ rfl
  have h7 : DataW.trod enc Tryz.prog W 0 sp true n 9 (([c0, c1, c2, c3, c4, c5, c6, c7].drop 7).take (Tryz.prog.cellsOf 9)) = xs[7]? := hf 7 _ rfl
  rw [cells35] at h0
  rw [cells5] at h1
  rw [cells36] at h2 h3 h5 h6
  rw [cells4] at h4
  rw [cells9] at h7
  obtain ⟨y0, y1, y2, y3, y4, y5, y6, y7, rfl⟩ := lst8 (show xs.length = 8 from hxl)
  obtain ⟨k, rfl, r0⟩ := u8_open Tryz.underlying35 (show DataW.trod enc Tryz.prog W 0 sp true n 35 [c0] = some y0 from h0)
  obtain ⟨d, rfl, r1⟩ := u8_open Tryz.underlying5 (show DataW.trod enc Tryz.prog W 0 sp true n 5 [c1] = some y1 from h1)
  obtain ⟨e, rfl, r2⟩ := u32_open Tryz.underlying36 (show DataW.trod enc Tryz.prog W 0 sp true n 36 [c2] = some y2 from h2)
  obtain ⟨b, rfl, r3⟩ := u32_open Tryz.underlying36 (show DataW.trod enc Tryz.prog W 0 sp true n 36 [c3] = some y3 from h3)
  obtain ⟨y, rfl⟩ := bool_open Tryz.underlying4 (show DataW.trod enc Tryz.prog W 0 sp true n 4 [c4] = some y4 from h4)
  obtain ⟨r, rfl, r5⟩ := u32_open Tryz.underlying36 (show DataW.trod enc Tryz.prog W 0 sp true n 36 [c5] = some y5 from h5)
  obtain ⟨s, rfl, r6⟩ := u32_open Tryz.underlying36 (show DataW.trod enc Tryz.prog W 0 sp true n 36 [c6] = some y6 from h6)
  obtain ⟨t, rfl, w7⟩ := str_open (show DataW.trod enc Tryz.prog W 0 sp true n 9 [c7] = some y7 from h7)
  refine ⟨⟨k, d, e, b, y, r, s, t⟩, ⟨r0, r1, r2, r3, r5, r6⟩, rfl, fun hw => ?_⟩
  rw [hx, w67] at hw
  exact w7 (each_all (j := 7) hw rfl rfl)
/-- a slice of bytes, read -/
theorem data_open {fuel : Nat} {cs : List Value} {x : DataW H × List MemPlace} (h : DataW.trod enc Tryz.prog W 0 (fun _ => true) true fuel 34 cs = some x) : ∃ p cap src Sc, cs = [.slice p src.length cap] ∧ SrcL (.slice p src.length cap) src Sc ∧ Mem Sc W ∧ ((x.1.weights Tryz.prog 34).all (· ≤ reachBytes) = true → src.length ≤ 140737488351232) := by
  rcases open_slice1 Tryz.underlying34 cells5 h with ⟨rfl, _⟩ | ⟨a, len, cap, m, n, V, D, Pl, rfl, hb, hl, hm, hmm, hxx, hx⟩
  · exact ⟨none, 0, [], [], rfl, ⟨none, 0, rfl, Nat.le_refl _, by simp, .inl ⟨rfl, rfl⟩⟩, fun b o m => (by cases m), fun _ => by simp⟩
  · simp only [if_true] at hmm
    subst m
    have hbig : cap ≤ 9223372036854775807 := by unfold maxLen at hm; omega
    have hwb : (x.1.weights Tryz.prog 34).all (· ≤ reachBytes) = true → len ≤ 140737488351232 := by
      intro hw
      rw [hxx] at hw
      simp only [DataW.weights, Tryz.underlying34, List.all_cons, Bool.and_eq_true, decide_eq_true_eq, List.length_map, List.length_range, bytes5] at hw
      have e : reachBytes = 140737488351232 := rfl
      omega
    by_cases h0 : len = 0
    · subst h0
      exact ⟨some a, cap, [], [], rfl, ⟨some a, cap, rfl, Nat.zero_le _, by simp, .inl ⟨rfl, rfl⟩⟩, fun b o m => (by cases m), hwb⟩
    · have hc0 := (hx 0 (by omega)).1
      obtain ⟨hs, c, T, fr, hblk, _⟩ := cell_block hc0
      obtain ⟨b, so, spot⟩ := a
      have hsp : spot = none := by simpa [Addr.add] using hs
      subst hsp
      have hblk' : W.heap[b]? = some (.cells ⟨c⟩ T fr) := hblk
      have hby : ∀ i, i < len → ∃ z : Int, c[so + i]? = some (.int .u8 z) ∧ 0 ≤ z ∧ z ≤ 255 := by
        intro i hi
        obtain ⟨h1, h2⟩ := hx i (by omega)
        obtain ⟨z, hz, rz⟩ := u8_open Tryz.underlying5 h2
        rw [add_plain] at h1
        obtain ⟨_, c', T', fr', hb', hv⟩ := cell_block h1
        have hb2 : W.heap[b]? = some (.cells ⟨c'⟩ T' fr') := hb'
        have e : c' = c := by
          rw [hblk'] at hb2
          injection hb2 with hb2
          injection hb2 with hb3 _ _
          injection hb3 with hb4
          exact hb4.symm
        subst e
        rw [hz] at hv
        exact ⟨z, hv, rz⟩
      obtain ⟨bs, hbs⟩ : ∃ bs : Nat → Int, ∀ i, i < len → c[so + i]? = some (.int .u8 (bs i)) ∧ 0 ≤ bs i ∧ bs i ≤ 255 := ⟨fun i => if hi : i < len then (hby i hi).choose else 0, fun i hi => by simp only [hi, dif_pos]; exact (hby i hi).choose_spec⟩
      have hll : ((List.range len).map bs).length = len := by simp
      have hg : ∀ i, i < len → gD ((List.range len).map bs) i = bs i := fun i hi => by
        unfold gD
        rw [List.getD_eq_getElem?_getD, List.getElem?_map, List.getElem?_range hi]
        rfl
      refine ⟨some ⟨b, so, none⟩, cap, (List.range len).map bs, [(b, .cells ⟨c⟩ T fr)], by rw [hll], ⟨_, cap, rfl, by omega, by omega, .inr ⟨by omega, b, so, c, T, fr, rfl, rfl, fun i hi => ?_⟩⟩, ?_, by rw [hll]; exact hwb⟩
      · rw [hll] at hi
        rw [hg i hi]; exact hbs i hi
      · intro b' o m
        simp only [List.mem_singleton, Prod.mk.injEq] at m
        rw [m.1, m.2]; exact hblk'
structure OpO (W : World) (o : OpP) (p : Option Addr) (cap : Nat) (Sc : List (Nat × Obj)) : Prop where
  k : 0 ≤ o.k ∧ o.k ≤ 255
  A : -9223372036854775808 ≤ o.A ∧ o.A ≤ 9223372036854775807
  B : -9223372036854775808 ≤ o.B ∧ o.B ≤ 9223372036854775807
  v : o.v.ok
  m : o.m.ok
  t : SrcL (.slice p o.tx.length cap) o.tx Sc
  i : Mem Sc W
set_option maxRecDepth 20000 in
/-- one op, read -/
theorem op_open {fuel : Nat} {cs : List Value} {x : DataW H × List MemPlace} (h : DataW.trod enc Tryz.prog W 0 (fun _ => true) true fuel 45 cs = some x) : ∃ (o : OpP) (p : Option Addr) (cap : Nat) (Sc : List (Nat × Obj)), cs = opC o p cap ∧ OpO W o p cap Sc ∧ ((x.1.weights Tryz.prog 45).all (· ≤ reachBytes) = true → o.tx.length ≤ 140737488351232 ∧ o.m.t.size ≤ 140737488351232) := by
  obtain ⟨xs, n, _, hx, hlen, hxl, hf⟩ := DataW.trod_struct Tryz.underlying45 h
  rw [cells45] at hlen
  match cs, hlen with
  | [c0, c1, c2, c3, c4, c5, c6, c7, c8, c9, c10, c11, c12, c13, c14, c15, c16, c17], _ =>
    have h0 : DataW.trod enc Tryz.prog W 0 (fun _ => true) true n 33 (([c0, c1, c2, c3, c4, c5, c6, c7, c8, c9, c10, c11, c12, c13, c14, c15, c16, c17].drop 0).take (Tryz.prog.cellsOf 33)) = xs[0]? := hf 0 _ rfl
    have h1 : DataW.trod enc Tryz.prog W 0 (fun _ => true) true n 3 (([c0, c1, c2, c3, c4, c5, c6, c7, c8, c9, c10, c11, c12, c13, c14, c15, c16, c17].drop 1).take (Tryz.prog.cellsOf 3)) = xs[1]? := hf 1 _ rfl
    have h2 : DataW.trod enc Tryz.prog W 0 (fun _ => true) true n 3 (([c0, c1, c2, c3, c4, c5, c6, c7, c8, c9, c10, c11, c12, c13, c14, c15, c16, c17].drop 2).take (Tryz.prog.cellsOf 3)) = xs[2]? := hf 2 _ rfl
    have h3 : DataW.trod enc Tryz.prog W 0 (fun _ => true) true n 34 (([c0, c1, c2, c3, c4, c5, c6, c7, c8, c9, c10, c11, c12, c13, c14, c15, c16, c17].drop 3).take (Tryz.prog.cellsOf 34)) = xs[3]? := hf 3 _ rfl
    have h4 : DataW.trod enc Tryz.prog W 0 (fun _ => true) true n 38 (([c0, c1, c2, c3, c4, c5, c6, c7, c8, c9, c10, c11, c12, c13, c14, c15, c16, c17].drop 4).take (Tryz.prog.cellsOf 38)) = xs[4]? := hf 4 _ rfl
    have h5 : DataW.trod enc Tryz.prog W 0 (fun _ => true) true n 43 (([c0, c1, c2, c3, c4, c5, c6, c7, c8, c9, c10, c11, c12, c13, c14, c15, c16, c17].drop 12).take (Tryz.prog.cellsOf 43)) = xs[5]? := hf 5 _ rfl
    rw [cells33] at h0
    rw [cells3] at h1 h2
    rw [cells34] at h3
    rw [cells38] at h4
    rw [cells43] at h5
    obtain ⟨y0, y1, y2, y3, y4, y5, rfl⟩ := lst6 (show xs.length = 6 from hxl)
    obtain ⟨k, rfl, r0⟩ := u8_open Tryz.underlying33 (show DataW.trod enc Tryz.prog W 0 (fun _ => true) true n 33 [c0] = some y0 from h0)
    obtain ⟨A, rfl, r1⟩ := i64_open Tryz.underlying3 (show DataW.trod enc Tryz.prog W 0 (fun _ => true) true n 3 [c1] = some y1 from h1)
    obtain ⟨B, rfl, r2⟩ := i64_open Tryz.underlying3 (show DataW.trod enc Tryz.prog W 0 (fun _ => true) true n 3 [c2] = some y2 from h2)
    obtain ⟨p, cap, src, Sc, e3, r3, r3m, w3⟩ := data_open (show DataW.trod enc Tryz.prog W 0 (fun _ => true) true n 34 [c3] = some y3 from h3)
    obtain ⟨m, r4, e4, w4⟩ := ms_open (show DataW.trod enc Tryz.prog W 0 (fun _ => true) true n 38 [c4, c5, c6, c7, c8, c9, c10, c11] = some y4 from h4)
    obtain ⟨v, r5, e5⟩ := iv_open (show DataW.trod enc Tryz.prog W 0 (fun _ => true) true n 43 [c12, c13, c14, c15, c16, c17] = some y5 from h5)
    injection e3 with e3 _
    subst e3
    refine ⟨⟨k, A, B, src, m, v⟩, p, cap, Sc, ?_, ⟨r0, r1, r2, r5, r4, r3, r3m⟩, fun hw => ?_⟩
    · obtain ⟨m1, m2, m3, m4, m5, m6, m7, m8⟩ := m
      obtain ⟨v1, v2, v3, v4, v5, v6⟩ := v
      simp only [msc, List.cons.injEq] at e4
      simp only [ivc, List.cons.injEq] at e5
      obtain ⟨rfl, rfl, rfl, rfl, rfl, rfl, rfl, rfl, _⟩ := e4
      obtain ⟨rfl, rfl, rfl, rfl, rfl, rfl, _⟩ := e5
      rfl
    · rw [hx, w74] at hw
      exact ⟨w3 (each_all (j := 3) hw rfl rfl), w4 (each_all (j := 4) hw rfl rfl)⟩
theorem pool : ∀ (Lb : List (Nat × Obj)), Mem Lb W → ∃ Z, Mem Z W ∧ (Z.map Prod.fst).Nodup ∧ InZ Lb Z
  | [], _ => ⟨[], fun b o m => (by cases m), List.nodup_nil, fun y hy => (by cases hy)⟩
  | (b, o) :: Lb, h => by
    obtain ⟨Z, h1, h2, h3⟩ := pool Lb fun b' o' m => h b' o' (List.mem_cons_of_mem _ m)
    have hb := h b o (List.mem_cons_self ..)
    by_cases hm : b ∈ Z.map Prod.fst
    · refine ⟨Z, h1, h2, fun y hy => ?_⟩
      rcases List.mem_cons.1 hy with rfl | hy
      · obtain ⟨⟨b', o'⟩, h4, rfl⟩ := List.mem_map.1 hm
        have h5 := h1 _ _ h4
        simp only at hb
        rw [hb] at h5
        injection h5 with h5
        subst h5
        exact h4
      · exact h3 y hy
    · refine ⟨(b, o) :: Z, fun b' o' m => ?_, by rw [List.map_cons, List.nodup_cons]; exact ⟨hm, h2⟩, fun y hy => ?_⟩
      · rcases List.mem_cons.1 m with e | e
        · injection e with e1 e2
          subst e1; subst e2
          exact hb
        · exact h1 b' o' e
      · rcases List.mem_cons.1 hy with rfl | hy
        · exact List.mem_cons_self ..
        · exact List.mem_cons_of_mem _ (h3 y hy)
theorem choose_lt {α : Type} [Inhabited α] {n : Nat} {p : Nat → α → Prop} (h : ∀ i, i < n → ∃ x, p i x) : ∃ f : Nat → α, ∀ i, i < n → p i (f i) :=
  ⟨fun i => if hi : i < n then (h i hi).choose else default, fun i hi => by simp only [hi, dif_pos]; exact (h i hi).choose_spec⟩
/-- a script, read -/
theorem scr_open {v : Value} {d : DataW H} {ps : List MemPlace} (hv : ∃ p len cap, v = .slice p len cap) (h : DataW.Trod enc Tryz.prog W 0 (fun _ => true) true 22 v d ps) (hw : (d.weights Tryz.prog 22).all (· ≤ reachBytes) = true) :
    ∃ (Z : List (Nat × Obj)) (p : Option Addr) (n cap : Nat) (ops : List OpX), v = .slice p n cap ∧ Scr Z p n cap ops ∧ Mem Z W ∧ (Z.map Prod.fst).Nodup := by
  obtain ⟨p, len, cap, rfl⟩ := hv
  obtain ⟨fuel, hf⟩ := h
  have hcells : (Value.slice p len cap).cells.toList = [.slice p len cap] := rfl
  rw [hcells] at hf
  rcases open_slice Tryz.underlying22 hf with ⟨hcs, _⟩ | ⟨a, len', cap', m, n, D, Pl, hcs, hb, hl, hm, hmm, hxx, hx⟩
  · injection hcs with e _
    injection e with e1 e2 e3
    subst e1; subst e2; subst e3
    exact ⟨[], none, 0, 0, [], rfl, ⟨rfl, Nat.le_refl _, by omega, fun y hy => (by cases hy), fun h => absurd h (by omega)⟩, fun b o m => (by cases m), List.nodup_nil⟩
  · injection hcs with e _
    injection e with e1 e2 e3
    subst e1; subst e2; subst e3
    simp only [if_true] at hmm
    subst m
    have hbig : len ≤ 9223372036854775807 := by unfold maxLen at hm; omega
    rw [cells45] at hx
    injection hxx with hxd _
    have hop : ∀ i, i < len → ∃ o : OpX × List (Nat × Obj), (OpO W o.1.1 o.1.2.1 o.1.2.2 o.2 ∧ o.1.1.tx.length ≤ 140737488351232 ∧ o.1.1.m.t.size ≤ 140737488351232) ∧ W.cells? 0 (a.add (i * 18)) 18 = some (opC o.1.1 o.1.2.1 o.1.2.2) := by
      intro i hi
      obtain ⟨cs', h1, h2⟩ := hx i (by omega)
      obtain ⟨o, p1, c1, Sc, rfl, ho, hsm⟩ := op_open h2
      refine ⟨((o, p1, c1), Sc), ⟨ho, hsm ?_⟩, h1⟩
      rw [List.all_eq_true] at hw ⊢
      intro n hn
      refine hw n ?_
      rw [hxd]
      simp only [DataW.weights, Tryz.underlying22, List.mem_cons, List.mem_append]
      exact .inr (.inl (weightsAll_mem (List.mem_map.2 ⟨i, List.mem_range.2 hi, rfl⟩) n hn))
    by_cases h0 : len = 0
    · subst h0
      exact ⟨[], some a, 0, cap, [], rfl, ⟨rfl, Nat.zero_le _, by omega, fun y hy => (by cases hy), fun h => absurd h (by omega)⟩, fun b o m => (by cases m), List.nodup_nil⟩
    · haveI : Inhabited (OpX × List (Nat × Obj)) := ⟨((⟨0, 0, 0, [], ms0, iv0⟩, none, 0), [])⟩
      obtain ⟨f, hfx⟩ := choose_lt (α := OpX × List (Nat × Obj)) hop
      obtain ⟨_, c0⟩ := hfx 0 (by omega)
      obtain ⟨hs, c, T, fr, hblk, _⟩ := cells_row c0 (by omega)
      obtain ⟨b, so, spot⟩ := a
      have hsp : spot = none := by simpa [Addr.add] using hs
      subst hsp
      have hblk' : W.heap[b]? = some (.cells ⟨c⟩ T fr) := by rw [add_plain] at hblk; exact hblk
      obtain ⟨Z, z1, z2, z3⟩ := pool (W := W) ((b, .cells ⟨c⟩ T fr) :: (List.range len).flatMap (fun i => (f i).2)) (by
        intro b' o m
        rcases List.mem_cons.1 m with e | e
        · injection e with e1 e2
          rw [e1, e2]; exact hblk'
        · obtain ⟨i, hi, hm⟩ := List.mem_flatMap.1 e
          exact (hfx i (List.mem_range.1 hi)).1.1.i b' o hm)
      have hfl : ((List.range len).map (fun i => (f i).1)).length = len := by simp
      refine ⟨Z, some ⟨b, so, none⟩, len, cap, (List.range len).map (fun i => (f i).1), rfl, ⟨hfl, hl, hbig, fun y hy => ?_, fun _ => ⟨b, so, c, T, fr, rfl, z3 _ (List.mem_cons_self ..), fun i y hy => ?_⟩⟩, z1, z2⟩
      · obtain ⟨i, hi, rfl⟩ := List.mem_map.1 hy
        have hi := List.mem_range.1 hi
        obtain ⟨⟨h1, h2, h3⟩, _⟩ := hfx i hi
        exact ⟨h1.k, h1.A, h1.B, h1.v, h1.m, ⟨(f i).2, h1.t, fun y hy => z3 y (List.mem_cons_of_mem _ (List.mem_flatMap.2 ⟨i, List.mem_range.2 hi, hy⟩))⟩, h2, h3⟩
      · rw [List.getElem?_map] at hy
        rcases Nat.lt_or_ge i len with hlt | hge
        · rw [List.getElem?_range hlt] at hy
          simp only [Option.map_some, Option.some.injEq] at hy
          subst hy
          obtain ⟨_, ci⟩ := hfx i hlt
          rw [add_plain] at ci
          obtain ⟨_, c', T', fr', hb', ht⟩ := cells_row ci (by omega)
          have e : c' = c := by
            have hb2 : W.heap[b]? = some (.cells ⟨c'⟩ T' fr') := hb'
            rw [hblk'] at hb2
            injection hb2 with hb2
            injection hb2 with hb3 _ _
            injection hb3 with hb4
            exact hb4.symm
          subst e
          exact ht
        · rw [List.getElem?_eq_none (by simp; omega)] at hy
          cases hy
end

end Go.Proofs.Qxb6500908aGreat

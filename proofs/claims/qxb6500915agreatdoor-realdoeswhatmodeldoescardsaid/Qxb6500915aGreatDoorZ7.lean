import Derived.Test.Qxb6500915aGreatDoorZ6
namespace Go.Proofs.Qxb6500915aGreatDoor
open Go.Eng
set_option linter.unusedVariables false
set_option linter.unusedSimpArgs false

/-! ## sort.Slice over the rules -/
open Go.Shelf in
shelf_lay LaysGg.n6 Ggs 6 at Tryz as sl6
noncomputable def rvSI : TypeInfo := (Tryz.prog.info? 24).get (by kernel_rfl)
theorem rvK (n : Nat) (h2 : 2 ≤ n) : Go.Lib.swapperK n rvTI 25 = 9 := by
  have e1 : rvTI.hasPointers = true := by kernel_rfl
  have e3 : (n == 0) = false := by simp; omega
  have e4 : (n == 1) = false := by simp; omega
  have e2 : rvTI.bytes = 64 := by kernel_rfl
  simp [Go.Lib.swapperK, e1, e2, e3, e4]
theorem rvK1 : Go.Lib.swapperK 1 rvTI 25 = 2 := by kernel_rfl
theorem rvK0 : Go.Lib.swapperK 0 rvTI 25 = 1 := by kernel_rfl
theorem has_from {D : List Nat} {w w1 w' : World} {F : List (Nat × Obj)} (h : Has D w1 F w') (hf : Frm D w w1) : Has D w F w' :=
  ⟨⟨h.frm.os.trans hf.os, h.frm.tape.trans hf.tape, h.frm.output.trans hf.output, Nat.le_trans hf.size h.frm.size, fun b hb hD => (h.frm.block b (Nat.lt_of_lt_of_le hb hf.size) hD).trans (hf.block b hb hD)⟩, h.mem, h.nodup, fun b o m => (h.own b o m).imp id (fun h2 => Nat.le_trans hf.size h2)⟩
theorem frm_grow (D : List Nat) (w : World) (os : Array Obj) : Frm D w (Go.Sort.grow w os) :=
  ⟨rfl, rfl, rfl, by rw [Go.Sort.size_grow]; omega, fun b hb _ => Go.Sort.heap_grow_old _ _ hb⟩
theorem mem_grow {F : List (Nat × Obj)} {w : World} (h : Mem F w) (os : Array Obj) : Mem F (Go.Sort.grow w os) := fun b o m => by
  have := h b o m
  rw [Go.Sort.heap_grow_old _ _ (Array.getElem?_eq_some_iff.1 this).1]; exact this
theorem ext_all {d : Array RV} {n : Nat} (h : d.size = n) : d.extract 0 n = d := by rw [← h]; simp
/-- the blocks that the sort holds -/
noncomputable abbrev SZB (b kn ks mb n c ln lc sN : Nat) (lp : Option Addr) (junk : List Value) (m : List (ByteArray × Value)) (l : List RV) : List (Nat × Obj) := [(b, C (fl RV.c3 l ++ junk) 57), (kn, C [.slice lp (ln : Nat) lc, .slice (some ⟨b, 0, none⟩) (n : Nat) c, .int .i64 (sN : Int)] 33), (ks, C [.map (some mb)] 87), (mb, MO kStr m)]
/-- sorted by level and by rule -/
def SoZ (m : List (ByteArray × Value)) (l : List RV) : Prop := l.Pairwise (fun x y => ¬ cmpQ (sOf m) y.ru x.ru < 0)
open Go.Sort Go.RowKit in
theorem sortZ_tiny (v : Value) (F : List (Nat × Obj)) (kn ks : Nat) {p : Option Addr} {n c : Nat} (hv : v = .slice p n c) (hn : n ≤ 1) : Sp Tryz.prog 41 #[.iface 24 v, lessZ kn ks] F (fun u F' => u = .tuple #[] ∧ F' = F) := by
  intro w _ hm hnd
  subst hv
  have hT := Go.Proofs.Any.sort_Slice_tiny sl6 24 57 rvSI rvTI (by kernel_rfl) (by kernel_rfl) (by kernel_rfl) (by kernel_rfl) 25 (fun _ => by kernel_rfl) p n c hn (if n = 0 then 95 else 96) (by
    rcases (show n = 0 ∨ n = 1 by omega) with h | h
    · subst h; rw [rvK0]; kernel_rfl
    · subst h; rw [rvK1]; kernel_rfl) (.func 42) #[] #[.pointer (some ⟨kn, 0, none⟩), .pointer (some ⟨ks, 0, none⟩)] w
  change Calls Tryz.prog 41 _ _ _ at hT
  refine hT.mono ?_
  rintro e w' ⟨rfl, os, rfl⟩
  exact ⟨F, ⟨rfl, rfl⟩, has_from (Has.start (mem_grow hm os) hnd) (frm_grow _ _ _)⟩
open Go.Sort Go.RowKit in
theorem sortZ_long (l : List RV) (h2 : 2 ≤ l.length) (hl : l.length ≤ 12) (b kn ks mb c ln lc sN : Nat) (lp : Option Addr) (junk : List Value) (m : List (ByteArray × Value)) (hiv : IntV m) (hok : ∀ x, x ∈ l → x.ok ∧ x.ls.length ≤ 64) (hDr : ∀ x, x ∈ l → ∀ z, z ∈ x.E → z.1 ∉ [b, kn, ks, mb]) :
    SpK Tryz.prog 41 #[.iface 24 (.slice (some ⟨b, 0, none⟩) l.length c), lessZ kn ks] (fun w => ∀ x, x ∈ l → Mem x.E w) (SZB b kn ks mb l.length c ln lc sN lp junk m l) (fun u F' => u = .tuple #[] ∧ ∃ l' : List RV, l'.Perm l ∧ SoZ m l' ∧ F' = SZB b kn ks mb l.length c ln lc sN lp junk m l') := by
  intro w hpre hm hnd
  have hE : SF b l.length c (typeHandle Tryz.prog 57) m l l.toArray := ⟨by simp, hl, rv_swaps b l.length c, hiv, hok, fun k hk => by rw [getElem!_pos _ k (by simpa using hk)]; simp⟩
  have hB : Go.Proofs.sliceBound Tryz.prog 57 rvTI 25 (some ⟨b, 0, none⟩) l.length c = #[.slice (some ⟨b, 0, none⟩) l.length c, typeHandle Tryz.prog 57] := by
    unfold Go.Proofs.sliceBound; rw [rvK _ h2]; rfl
  have hW : ∀ ρ : Go.Shelf.Ren, ∃ os0, Go.Proofs.sliceWorld Tryz.prog ρ 24 (some ⟨b, 0, none⟩) l.length c w = grow w os0 := fun ρ => by
    unfold Go.Proofs.sliceWorld
    rw [alloc_eq_grow, alloc_eq_grow, grow_grow]
    exact ⟨_, rfl⟩
  have hpi : Go.Sort.pdq (rvB m) l.toArray 0 l.length (Go.Lib.bitLen l.length) true true = Go.Sort.insertionSort (rvB m) l.toArray 0 l.length := by rw [Go.Sort.pdq, if_pos (by omega)]
  have hpd := pdqZ_spec b kn ks mb l.length c ln lc sN lp (typeHandle Tryz.prog 57) junk m l l.toArray hE hDr (Go.Lib.bitLen l.length : Int)
  have key : Calls Tryz.prog 41 #[.iface 24 (.slice (some ⟨b, 0, none⟩) l.length c), lessZ kn ks] w (fun e w' => e = .returned (.tuple #[]) ∧ Has (List.map Prod.fst (SZB b kn ks mb l.length c ln lc sN lp junk m l)) w (SZB b kn ks mb l.length c ln lc sN lp junk m (Go.Sort.insertionSort (rvB m) l.toArray 0 l.length).toList) w') := by
    refine Go.Proofs.Any.sort_Slice_of_pdq sl6 24 57 rvSI rvTI (by kernel_rfl) (by kernel_rfl) (by kernel_rfl) (by kernel_rfl) 25 (fun _ => by kernel_rfl) (some ⟨b, 0, none⟩) l.length c (by omega) 103 (by rw [rvK _ h2]; kernel_rfl) (.func 42) #[] #[.pointer (some ⟨kn, 0, none⟩), .pointer (some ⟨ks, 0, none⟩)] w (fun w' => Has (List.map Prod.fst (SZB b kn ks mb l.length c ln lc sN lp junk m l)) w (SZB b kn ks mb l.length c ln lc sN lp junk m (Go.Sort.insertionSort (rvB m) l.toArray 0 l.length).toList) w') ?_
    rw [hB]
    obtain ⟨os0, h0⟩ := hW _
    rw [h0]
    change Calls Tryz.prog 78 _ _ _
    refine (hpd (grow w os0) (fun x hx => mem_grow (hpre x hx) os0) (mem_grow hm os0) hnd).mono ?_
    intro e w' he
    cases e with
    | returned v =>
      obtain ⟨F', ⟨rfl, rfl, _⟩, hH⟩ := he
      exact ⟨rfl, has_from hH (frm_grow _ _ _)⟩
    | panicked c => exact he.elim
    | outgrown => exact he.elim
  refine key.mono ?_
  rintro e w' ⟨rfl, hH⟩
  have hso := pdq_sorts (rvB m) (swo_rv m) l.toArray 0 l.length (Go.Lib.bitLen l.length) true true (Nat.zero_le _) (by simp) (Or.inl rfl)
  rw [hpi] at hso
  refine ⟨_, ⟨rfl, (Go.Sort.insertionSort (rvB m) l.toArray 0 l.length).toList, ?_, ?_, rfl⟩, hH⟩
  · obtain ⟨p1, _, p3⟩ := hso.1
    have e1 : l.toArray.extract 0 l.length = l.toArray := by simp
    have e2 : (Go.Sort.insertionSort (rvB m) l.toArray 0 l.length).extract 0 l.length = Go.Sort.insertionSort (rvB m) l.toArray 0 l.length := by
      exact ext_all (by simpa using p1)
    rw [e1, e2] at p3
    simpa using p3
  · have hz : (Go.Sort.insertionSort (rvB m) l.toArray 0 l.length).size = l.length := by simpa using hso.1.1
    unfold SoZ
    rw [List.pairwise_iff_getElem]
    intro i j hi hj hij
    have hi' : i < (Go.Sort.insertionSort (rvB m) l.toArray 0 l.length).size := by simpa using hi
    have hj' : j < (Go.Sort.insertionSort (rvB m) l.toArray 0 l.length).size := by simpa using hj
    have := hso.2 i j (Nat.zero_le _) hij (by omega)
    rw [getElem!_pos _ j hj', getElem!_pos _ i hi'] at this
    have this2 := of_decide_eq_false (show decide (cmpQ (sOf m) (Go.Sort.insertionSort (rvB m) l.toArray 0 l.length)[j].ru (Go.Sort.insertionSort (rvB m) l.toArray 0 l.length)[i].ru < 0) = false from this)
    simpa using this2


open Go.Sort Go.RowKit in
theorem sortZ_spec (l : List RV) (hl : l.length ≤ 12) (p : Option Addr) (c : Nat) (E : List (Nat × Obj)) (hR : Row (.slice p l.length c) l.length (fl RV.c3 l) 3 57 E) (kn ks mb ln lc sN : Nat) (lp : Option Addr) (m : List (ByteArray × Value)) (hiv : IntV m) (hok : ∀ x, x ∈ l → x.ok ∧ x.ls.length ≤ 64) (hDr : ∀ x, x ∈ l → ∀ z, z ∈ x.E → z.1 ∉ List.map Prod.fst (E ++ [(kn, C [.slice lp (ln : Nat) lc, .slice p l.length c, .int .i64 (sN : Int)] 33), (ks, C [.map (some mb)] 87), (mb, MO kStr m)])) :
    SpK Tryz.prog 41 #[.iface 24 (.slice p l.length c), lessZ kn ks] (fun w => ∀ x, x ∈ l → Mem x.E w) (E ++ [(kn, C [.slice lp (ln : Nat) lc, .slice p l.length c, .int .i64 (sN : Int)] 33), (ks, C [.map (some mb)] 87), (mb, MO kStr m)]) (fun u F' => u = .tuple #[] ∧ ∃ (l' : List RV) (E' : List (Nat × Obj)), l'.Perm l ∧ SoZ m l' ∧ Row (.slice p l'.length c) l'.length (fl RV.c3 l') 3 57 E' ∧ F' = E' ++ [(kn, C [.slice lp (ln : Nat) lc, .slice p l.length c, .int .i64 (sN : Int)] 33), (ks, C [.map (some mb)] 87), (mb, MO kStr m)]) := by
  by_cases h2 : 2 ≤ l.length
  · obtain ⟨b, c', junk, hv, h3, h4, rfl⟩ := row_blk3 hR (by omega)
    injection hv with e1 e2 e3
    subst e1; subst e3
    refine spk_mono (sortZ_long l h2 hl b kn ks mb c ln lc sN lp junk m hiv hok hDr) ?_
    rintro u F' ⟨rfl, l', hp, hso, rfl⟩
    have hll := hp.length_eq
    refine ⟨rfl, l', [(b, C (fl RV.c3 l' ++ junk) 57)], hp, hso, .inr ⟨b, c, junk, rfl, by rw [fl_len c3_len], ?_, by rw [hll]; exact h4, rfl⟩, rfl⟩
    rw [List.length_append, fl_len c3_len] at h3 ⊢
    rw [hll]; exact h3
  · refine fun w _ hM hn => sp_mono (sortZ_tiny (.slice p l.length c) (E ++ [(kn, C [.slice lp (ln : Nat) lc, .slice p l.length c, .int .i64 (sN : Int)] 33), (ks, C [.map (some mb)] 87), (mb, MO kStr m)]) kn ks rfl (by omega)) ?_ w trivial hM hn
    rintro u F' ⟨rfl, rfl⟩
    refine ⟨rfl, l, E, List.Perm.refl _, ?_, hR, rfl⟩
    match l, h2 with
    | [], _ => exact List.Pairwise.nil
    | [x], _ => exact List.pairwise_singleton _ _
    | x :: y :: r, h => exact absurd (by simp) h
end Go.Proofs.Qxb6500915aGreatDoor

import Derived.Test.Qxb6500911aGreatDoorC8
namespace Go.Proofs.Qxb6500911aGreatDoor
open Go.Eng
set_option linter.unusedVariables false
set_option linter.unusedSimpArgs false

/-! ## sort.Slice over the edges -/
theorem pdq_all {b Bs n c : Nat} {th : Value} {sL junk : List Value} {d0 : Array Eg} (hE : SE b Bs n c th sL d0) : ∀ (m : Nat) (d' : Array Eg) (lo' hi' li' : Nat) (l1 h1 i1 : Int), hi' - lo' ≤ m → lo' ≤ hi' → hi' ≤ n → li' ≤ 1000 → d'.size = n → l1 = (lo' : Int) → h1 = (hi' : Int) → i1 = (li' : Int) → Sp Tryz.prog 86 #[.agg ⟨[lessV Bs, swapV b n c th]⟩, .int .i64 l1, .int .i64 h1, .int .i64 i1] [(b, C (fl egc d'.toList ++ junk) 102), (Bs, C sL 46)] (fun v F' => v = .tuple #[] ∧ F' = [(b, C (fl egc (Sort.pdq egB d' lo' hi' li' true true).toList ++ junk) 102), (Bs, C sL 46)] ∧ (Sort.pdq egB d' lo' hi' li' true true).size = n) := by
  intro m
  induction m with
  | zero =>
    intro d' lo' hi' li' l1 h1 i1 hm ha hb hc hd e1 e2 e3
    subst e1; subst e2; subst e3
    exact pdq_step (hE.to hd) 0 lo' hi' li' ha hb hc hm (fun _ _ _ _ _ _ _ h => absurd h (Nat.not_lt_zero _))
  | succ m ih =>
    intro d' lo' hi' li' l1 h1 i1 hm ha hb hc hd e1 e2 e3
    subst e1; subst e2; subst e3
    exact pdq_step (hE.to hd) (m + 1) lo' hi' li' ha hb hc hm (fun d2 lo2 hi2 li2 a1 a2 a3 h => ih d2 lo2 hi2 li2 a1 a2 a3 (by omega))
noncomputable def egSI : TypeInfo := (Tryz.prog.info? 44).get (by kernel_rfl)
theorem egK (n : Nat) (h2 : 2 ≤ n) : Go.Lib.swapperK n egTI 25 = 9 := by
  have e1 : egTI.hasPointers = false := by kernel_rfl
  have e2 : egTI.bytes = 32 := by kernel_rfl
  have e3 : (n == 0) = false := by simp; omega
  have e4 : (n == 1) = false := by simp; omega
  simp [Go.Lib.swapperK, e1, e2, e3, e4]
theorem egK1 : Go.Lib.swapperK 1 egTI 25 = 2 := by kernel_rfl
theorem egK0 : Go.Lib.swapperK 0 egTI 25 = 1 := by kernel_rfl
theorem has_from {D : List Nat} {w w1 w' : World} {F : List (Nat × Obj)} (h : Has D w1 F w') (hf : Frm D w w1) : Has D w F w' :=
  ⟨⟨h.frm.os.trans hf.os, h.frm.tape.trans hf.tape, h.frm.output.trans hf.output, Nat.le_trans hf.size h.frm.size, fun b hb hD => (h.frm.block b (Nat.lt_of_lt_of_le hb hf.size) hD).trans (hf.block b hb hD)⟩, h.mem, h.nodup, fun b o m => (h.own b o m).imp id (fun h2 => Nat.le_trans hf.size h2)⟩
theorem frm_grow (D : List Nat) (w : World) (os : Array Obj) : Frm D w (Go.Sort.grow w os) :=
  ⟨rfl, rfl, rfl, by rw [Go.Sort.size_grow]; omega, fun b hb _ => Go.Sort.heap_grow_old _ _ hb⟩
theorem mem_grow {F : List (Nat × Obj)} {w : World} (h : Mem F w) (os : Array Obj) : Mem F (Go.Sort.grow w os) := fun b o m => by
  have := h b o m
  rw [Go.Sort.heap_grow_old _ _ (Array.getElem?_eq_some_iff.1 this).1]; exact this
theorem ext_all {d : Array Eg} {n : Nat} (h : d.size = n) : d.extract 0 n = d := by rw [← h]; simp
open Go.Sort Go.RowKit in
theorem sort_tiny (v : Value) (F : List (Nat × Obj)) (Bs : Nat) {p : Option Addr} {n c : Nat} (hv : v = .slice p n c) (hn : n ≤ 1) : Sp Tryz.prog 61 #[.iface 44 v, lessV Bs] F (fun u F' => u = .tuple #[] ∧ F' = F) := by
  intro w _ hm hnd
  subst hv
  have hT := Go.Proofs.Any.sort_Slice_tiny sl6 44 102 egSI egTI (by kernel_rfl) (by kernel_rfl) (by kernel_rfl) (by kernel_rfl) 25 (fun _ => by kernel_rfl) p n c hn (if n = 0 then 95 else 96) (by
    rcases (show n = 0 ∨ n = 1 by omega) with h | h
    · subst h; rw [egK0]; kernel_rfl
    · subst h; rw [egK1]; kernel_rfl) (.func 62) #[] #[.pointer (some ⟨Bs, 0, none⟩)] w
  change Calls Tryz.prog 61 _ _ _ at hT
  refine hT.mono ?_
  rintro e w' ⟨rfl, os, rfl⟩
  exact ⟨F, ⟨rfl, rfl⟩, has_from (Has.start (mem_grow hm os) hnd) (frm_grow _ _ _)⟩
open Go.Sort Go.RowKit in
theorem sort_long (l : List Eg) (h2 : 2 ≤ l.length) (hl : l.length < 4611686018427387904) (b c Bs : Nat) (junk sL : List Value) (hs : sL[0 + 16]? = some (.slice (some ⟨b, 0, none⟩) l.length c)) :
    Sp Tryz.prog 61 #[.iface 44 (.slice (some ⟨b, 0, none⟩) l.length c), lessV Bs] [(b, C (fl egc l ++ junk) 102), (Bs, C sL 46)] (fun u F' => u = .tuple #[] ∧ ∃ l' : List Eg, l'.Perm l ∧ l'.Pairwise (fun x y => ¬ egLt y x) ∧ F' = [(b, C (fl egc l' ++ junk) 102), (Bs, C sL 46)]) := by
  intro w _ hm hnd
  have hE : SE b Bs l.length c (typeHandle Tryz.prog 102) sL l.toArray := ⟨by simp, hl, hs, eg_swaps b l.length c⟩
  have hB : Go.Proofs.sliceBound Tryz.prog 102 egTI 25 (some ⟨b, 0, none⟩) l.length c = #[.slice (some ⟨b, 0, none⟩) l.length c, typeHandle Tryz.prog 102] := by
    unfold Go.Proofs.sliceBound; rw [egK _ h2]; rfl
  have hlim : Go.Lib.bitLen l.length ≤ 1000 := Nat.le_trans (Go.Lib.bitLen_le l.length 62 (by omega) (by omega)) (by omega)
  have hW : ∀ ρ : Go.Shelf.Ren, ∃ os0, Go.Proofs.sliceWorld Tryz.prog ρ 44 (some ⟨b, 0, none⟩) l.length c w = grow w os0 := fun ρ => by
    unfold Go.Proofs.sliceWorld
    rw [alloc_eq_grow, alloc_eq_grow, grow_grow]
    exact ⟨_, rfl⟩
  have hpd := pdq_all (junk := junk) hE l.length l.toArray 0 l.length (Go.Lib.bitLen l.length) 0 (l.length : Int) (Go.Lib.bitLen l.length : Int) (by omega) (Nat.zero_le _) (Nat.le_refl _) hlim (by simp) rfl rfl rfl
  have key : Calls Tryz.prog 61 #[.iface 44 (.slice (some ⟨b, 0, none⟩) l.length c), lessV Bs] w (fun e w' => e = .returned (.tuple #[]) ∧ Has (List.map Prod.fst [(b, C (fl egc l ++ junk) 102), (Bs, C sL 46)]) w [(b, C (fl egc (Sort.pdq egB l.toArray 0 l.length (Go.Lib.bitLen l.length) true true).toList ++ junk) 102), (Bs, C sL 46)] w') := by
    refine Go.Proofs.Any.sort_Slice_of_pdq sl6 44 102 egSI egTI (by kernel_rfl) (by kernel_rfl) (by kernel_rfl) (by kernel_rfl) 25 (fun _ => by kernel_rfl) (some ⟨b, 0, none⟩) l.length c hl 103 (by rw [egK _ h2]; kernel_rfl) (.func 62) #[] #[.pointer (some ⟨Bs, 0, none⟩)] w (fun w' => Has (List.map Prod.fst [(b, C (fl egc l ++ junk) 102), (Bs, C sL 46)]) w [(b, C (fl egc (Sort.pdq egB l.toArray 0 l.length (Go.Lib.bitLen l.length) true true).toList ++ junk) 102), (Bs, C sL 46)] w') ?_
    rw [hB]
    obtain ⟨os0, h0⟩ := hW _
    rw [h0]
    change Calls Tryz.prog 86 _ _ _
    refine (hpd (grow w os0) trivial (mem_grow hm os0) hnd).mono ?_
    intro e w' he
    cases e with
    | returned v =>
      obtain ⟨F', ⟨rfl, rfl, _⟩, hH⟩ := he
      exact ⟨rfl, has_from hH (frm_grow _ _ _)⟩
    | panicked c => exact he.elim
    | outgrown => exact he.elim
  refine key.mono ?_
  rintro e w' ⟨rfl, hH⟩
  have hso := pdq_sorts egB swo_eg l.toArray 0 l.length (Go.Lib.bitLen l.length) true true (Nat.zero_le _) (by simp) (Or.inl rfl)
  refine ⟨_, ⟨rfl, (Sort.pdq egB l.toArray 0 l.length (Go.Lib.bitLen l.length) true true).toList, ?_, ?_, rfl⟩, hH⟩
  · obtain ⟨p1, _, p3⟩ := hso.1
    have e1 : l.toArray.extract 0 l.length = l.toArray := by simp
    have e2 : (Sort.pdq egB l.toArray 0 l.length (Go.Lib.bitLen l.length) true true).extract 0 l.length = Sort.pdq egB l.toArray 0 l.length (Go.Lib.bitLen l.length) true true := by
      exact ext_all (by simpa using p1)
    rw [e1, e2] at p3
    simpa using p3
  · have hz : (Sort.pdq egB l.toArray 0 l.length (Go.Lib.bitLen l.length) true true).size = l.length := by simpa using hso.1.1
    rw [List.pairwise_iff_getElem]
    intro i j hi hj hij
    have hi' : i < (Sort.pdq egB l.toArray 0 l.length (Go.Lib.bitLen l.length) true true).size := by simpa using hi
    have hj' : j < (Sort.pdq egB l.toArray 0 l.length (Go.Lib.bitLen l.length) true true).size := by simpa using hj
    have := hso.2 i j (Nat.zero_le _) hij (by omega)
    rw [getElem!_pos _ j hj', getElem!_pos _ i hi', egB_no] at this
    simpa using this
theorem sort_spec (l : List Eg) (hl : l.length < 4611686018427387904) (v : Value) (E : List (Nat × Obj)) (hR : Row v l.length (fl egc l) 4 102 E) (Bs : Nat) (sL : List Value) (hs : sL[0 + 16]? = some v) :
    Sp Tryz.prog 61 #[.iface 44 v, lessV Bs] (E ++ [(Bs, C sL 46)]) (fun u F' => u = .tuple #[] ∧ ∃ (l' : List Eg) (E' : List (Nat × Obj)), l'.Perm l ∧ l'.Pairwise (fun x y => ¬ egLt y x) ∧ Row v l'.length (fl egc l') 4 102 E' ∧ F' = E' ++ [(Bs, C sL 46)]) := by
  by_cases h2 : 2 ≤ l.length
  · obtain ⟨b, c, junk, rfl, h3, h4, rfl⟩ := row_blk3 hR (by omega)
    refine spk_post (sort_long l h2 hl b c Bs junk sL hs) ?_
    rintro u F' ⟨rfl, l', hp, hso, rfl⟩
    have hll := hp.length_eq
    refine ⟨rfl, l', [(b, C (fl egc l' ++ junk) 102)], hp, hso, .inr ⟨b, c, junk, by rw [hll], by rw [fl_len egc_len], ?_, by rw [hll]; exact h4, rfl⟩, rfl⟩
    rw [List.length_append, fl_len egc_len] at h3 ⊢
    rw [hll]; exact h3
  · obtain ⟨p, c, hv⟩ := row_val hR
    refine spk_post (sort_tiny v (E ++ [(Bs, C sL 46)]) Bs hv (by omega)) ?_
    rintro u F' ⟨rfl, rfl⟩
    refine ⟨rfl, l, E, List.Perm.refl _, ?_, hR, rfl⟩
    match l, h2 with
    | [], _ => exact List.Pairwise.nil
    | [x], _ => exact List.pairwise_singleton _ _
    | x :: y :: r, h => exact absurd (by simp) h

end Go.Proofs.Qxb6500911aGreatDoor

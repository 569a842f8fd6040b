import Derived.Test.Qxb6500914aGreatH4
import Derived.Shelf.GgSortFunc.Small
import Derived.Shelf.GgSortFunc.SmallK
import Derived.Shelf.GgSortFunc.Tiny
import Derived.Shelf.Lay
import Derived.Ground.GgsProg
namespace Go.Proofs.Qxb6500914aGreat
open Go.Eng
set_option linter.unusedVariables false
set_option linter.unusedSimpArgs false

/-! ## sorting entries -/
instance : Inhabited En := ⟨⟨0, 0, 0⟩⟩
def enLt (x y : En) : Bool := decide (x.ar < y.ar)
theorem swo_en : Go.Sort.SWO enLt where
  irrefl x := by simp [enLt]
  trans x y z h1 h2 := by simp [enLt] at *; omega
  ntrans x y z h1 h2 := by simp [enLt] at *; omega
noncomputable def sT : TypeInfo := (Tryz.prog.info? 51).get (by kernel_rfl)
noncomputable def sE : TypeInfo := (Tryz.prog.info? 127).get (by kernel_rfl)
theorem sK (n : Nat) (h2 : 2 ≤ n) : Go.Lib.swapperK n sE 25 = 9 := by
  have a : sE.hasPointers = false := by kernel_rfl
  have b : sE.bytes = 24 := by kernel_rfl
  have c : (n == 0) = false := by simp; omega
  have d : (n == 1) = false := by simp; omega
  simp [Go.Lib.swapperK, a, b, c, d]
theorem sK0 : Go.Lib.swapperK 0 sE 25 = 1 := by kernel_rfl
theorem sK1 : Go.Lib.swapperK 1 sE 25 = 2 := by kernel_rfl
theorem en_eq {es : List En} (hs : es.Pairwise (fun a b => a.ar < b.ar)) {a b : En} (ha : a ∈ es) (hb : b ∈ es) (h : a.ar = b.ar) : a = b := by
  obtain ⟨i, hi, rfl⟩ := List.getElem_of_mem ha
  obtain ⟨j, hj, rfl⟩ := List.getElem_of_mem hb
  rcases Nat.lt_trichotomy i j with c | c | c
  · have := List.pairwise_iff_getElem.1 hs i j hi hj c; omega
  · subst c; rfl
  · have := List.pairwise_iff_getElem.1 hs j i hj hi c; omega
theorem en_same {es l : List En} (hs : es.Pairwise (fun a b => a.ar < b.ar)) (hp : l.Perm es) (hl : l.Pairwise (fun x y => x.ar ≤ y.ar)) : l = es :=
  hp.eq_of_pairwise (le := fun x y => x.ar ≤ y.ar) (fun a b ha hb h1 h2 => en_eq hs (hp.mem_iff.1 ha) hb (by omega)) hl (hs.imp (fun h => by omega))
/-- the row of blocks, flat -/
theorem flat_eq (l : List En) : (Go.Sort.flatK entL 3 l.toArray).toList = fl entL l := by
  apply List.ext_getElem?
  intro t
  by_cases ht : t < l.length * 3
  · have h1 : t < (Go.Sort.flatK entL 3 l.toArray).size := by simpa using ht
    have h2 : t / 3 < l.length := by omega
    have hq : l[t / 3]? = some l[t / 3] := List.getElem?_eq_getElem h2
    have hg := Go.Sort.get_flatK entL 3 l.toArray t (by simpa using ht)
    rw [getElem!_pos _ t h1] at hg
    rw [Array.getElem?_toList, Array.getElem?_eq_getElem h1, hg]
    have e1 : (l.toArray)[t / 3]! = l[t / 3] := by
      rw [getElem!_pos l.toArray (t / 3) (by simpa using h2)]; rfl
    rw [e1]
    have hk : ∀ x : En, (entL x).length = 3 := fun _ => rfl
    have hm : t % 3 < 3 := Nat.mod_lt _ (by decide)
    have hj : (entL l[t / 3])[t % 3]? = some (entL l[t / 3])[t % 3]! := by
      rw [getElem!_pos _ _ (by rw [hk]; exact hm)]
      exact List.getElem?_eq_getElem _
    have := fl_cell hk hq hj []
    rw [List.append_nil] at this
    rw [← this]
    congr 1; omega
  · rw [List.getElem?_eq_none (by simp; omega), List.getElem?_eq_none (by rw [fl_len (s := 3) (fun _ => rfl)]; omega)]


set_option maxHeartbeats 2000000 in
theorem lessE_clo (blk c Bs size : Nat) (W : World) (X : List Value) (T1 T2 : TypeId) (G : Nat → Nat) (hs : W.heap[Bs]? = some (C [.slice (some ⟨blk, 0, none⟩) size c] T1)) (hb : W.heap[blk]? = some (C X T2)) (hc : ∀ t, t < size → X[0 + t * 3 + 1]? = some (.int .i64 ((G t : Nat) : Int))) (i j : Nat) (hi : i < size) (hj : j < size) : Calls Tryz.prog 44 #[.int .i64 (i : Int), .int .i64 (j : Int), .pointer (some ⟨Bs, 0, none⟩)] W (fun e w' => e = .returned (.bool (decide (G i < G j))) ∧ ∃ q, w' = W.drewN q) := by
  refine f_enterE (args := [.int .i64 (i : Int), .int .i64 (j : Int), .pointer (some ⟨Bs, 0, none⟩)]) Tryz.func44 rfl Tryz.ntmps44 rfl ?_
  intro a w hqe hl hh
  have hqw : ∃ q, w = W.drewN q := ⟨0, hqe⟩
  clear hqe
  have hci := hc i hi; have hcj := hc j hj
  clear hc
  simp only [slotsFrom, Nat.reduceAdd] at hl
  refine c_seq ?_
  refine c_region ?_
  refine wl (wl_val hl rfl trivial (r_assign hl rfl) ?_)
  clear hl a; intro a hl
  refine w_nil ?_
  have hl2 := hl.add (t := 0) (hl.add (t := 1) (hl.add (t := 2) (hl.nil) rfl) rfl) rfl; clear hl; have hl := hl2; clear hl2
  refine then_normal ?_
  refine c_seq ?_
  refine c_drawE [(Bs, C [.slice (some ⟨blk, 0, none⟩) size c] T1), (blk, C X T2)] [10, 11] mixed hh ?_
  intro w2 hw2 hh2
  have hqw2 : ∃ q, w2 = W.drewN q := hqw.elim fun q e => ⟨q + 1, by rw [hw2, e, drewN_drew]⟩
  clear hw2 hqw hh w
  revert w2; intro w hh hqw
  have hM : Mem [(Bs, C [.slice (some ⟨blk, 0, none⟩) size c] T1), (blk, C X T2)] w := (by (repeat (first | exact Mem.nil | refine Mem.consR hh (by assumption) (by simp) ?_ | refine Mem.cons hh.mem (by (repeat (first | exact find_head | apply find_tail)); done) ?_ | fail)); done)
  refine d_take (i := 0) hl rfl (by kernel_rfl) (by kernel_rfl) (by kernel_rfl) (by kernel_rfl) (by kernel_rfl) rfl trivial (fun _ _ _ h => h) hM (fun w hC => r_loadC hl rfl one51 hC (by repeat (first | exact find_head | apply find_tail)) (by first | exact hci | exact hcj | rfl)) rfl ?_
  clear hl a; intro a hl
  refine d_take (i := 1) hl rfl (by kernel_rfl) (by kernel_rfl) (by kernel_rfl) (by kernel_rfl) (by kernel_rfl) rfl trivial (fun _ _ _ h => h) hM (fun w hC => r_move hl rfl) rfl ?_
  clear hl a; intro a hl
  refine d_take (i := 2) hl rfl (by kernel_rfl) (by kernel_rfl) (by kernel_rfl) (by kernel_rfl) (by kernel_rfl) rfl trivial (fun _ _ _ h => h) hM (fun w hC => r_indexS hl rfl rfl slc51 (by omega) (by omega) (by first | (simp only [Int.reduceToNat]; rfl) | exact toNat_add1 _ | exact toNat_add2 _ _ | exact toNat_emod _ _ | exact Int.toNat_natCast _ | rfl)) rfl ?_
  clear hl a; intro a hl
  refine d_take (i := 3) hl rfl (by kernel_rfl) (by kernel_rfl) (by kernel_rfl) (by kernel_rfl) (by kernel_rfl) rfl trivial (fun _ _ _ h => h) hM (fun w hC => r_field hl rfl fld127_1) rfl ?_
  clear hl a; intro a hl
  refine d_take (i := 4) hl rfl (by kernel_rfl) (by kernel_rfl) (by kernel_rfl) (by kernel_rfl) (by kernel_rfl) rfl trivial (fun _ _ _ h => h) hM (fun w hC => r_loadC hl rfl one3 hC (by repeat (first | exact find_head | apply find_tail)) (by first | exact hci | exact hcj | rfl)) rfl ?_
  clear hl a; intro a hl
  refine d_take (i := 5) hl rfl (by kernel_rfl) (by kernel_rfl) (by kernel_rfl) (by kernel_rfl) (by kernel_rfl) rfl trivial (fun _ _ _ h => h) hM (fun w hC => r_loadC hl rfl one51 hC (by repeat (first | exact find_head | apply find_tail)) (by first | exact hci | exact hcj | rfl)) rfl ?_
  clear hl a; intro a hl
  refine d_take (i := 6) hl rfl (by kernel_rfl) (by kernel_rfl) (by kernel_rfl) (by kernel_rfl) (by kernel_rfl) rfl trivial (fun _ _ _ h => h) hM (fun w hC => r_move hl rfl) rfl ?_
  clear hl a; intro a hl
  refine d_take (i := 7) hl rfl (by kernel_rfl) (by kernel_rfl) (by kernel_rfl) (by kernel_rfl) (by kernel_rfl) rfl trivial (fun _ _ _ h => h) hM (fun w hC => r_indexS hl rfl rfl slc51 (by omega) (by omega) (by first | (simp only [Int.reduceToNat]; rfl) | exact toNat_add1 _ | exact toNat_add2 _ _ | exact toNat_emod _ _ | exact Int.toNat_natCast _ | rfl)) rfl ?_
  clear hl a; intro a hl
  refine d_take (i := 8) hl rfl (by kernel_rfl) (by kernel_rfl) (by kernel_rfl) (by kernel_rfl) (by kernel_rfl) rfl trivial (fun _ _ _ h => h) hM (fun w hC => r_field hl rfl fld127_1) rfl ?_
  clear hl a; intro a hl
  refine d_take (i := 9) hl rfl (by kernel_rfl) (by kernel_rfl) (by kernel_rfl) (by kernel_rfl) (by kernel_rfl) rfl trivial (fun _ _ _ h => h) hM (fun w hC => r_loadC hl rfl one3 hC (by repeat (first | exact find_head | apply find_tail)) (by first | exact hci | exact hcj | rfl)) rfl ?_
  clear hl a; intro a hl
  refine d_takeL (i := 10) hl rfl (by kernel_rfl) (by kernel_rfl) (by kernel_rfl) (by kernel_rfl) (by kernel_rfl) rfl trivial (fun _ _ _ h => h) (fun w => r_lss hl rfl rfl) rfl ?_
  clear hl a; intro a hl
  refine d_takeL (i := 11) hl rfl (by kernel_rfl) (by kernel_rfl) (by kernel_rfl) (by kernel_rfl) (by kernel_rfl) rfl trivial (fun _ _ _ h => h) (fun w => r_assign hl rfl) rfl ?_
  clear hl a; intro a hl
  refine d_done (by kernel_rfl) ?_
  try clear hM
  have hl2 := hl.add (t := 5) (hl.nil) rfl; clear hl; have hl := hl2; clear hl2
  refine then_normal ?_
  refine wp_ret ?_
  refine f_ret1E hl rfl rfl ?_
  exact ⟨congrArg (fun z => Ending.returned (Value.bool z)) (decide_eq_decide.2 (by omega)), hqw⟩

open Go.Sort in
theorem put_cells (l l' : List En) (junk : List Value) (hl : l'.length = l.length) : putCells id 0 (flatK entL 3 l'.toArray) (⟨fl entL l ++ junk⟩ : Array Value) = ⟨fl entL l' ++ junk⟩ := by
  have hk : ∀ x : En, (entL x).length = 3 := fun _ => rfl
  have hfl := flat_eq l'
  apply Array.ext'
  unfold putCells
  rw [Array.toList_mapIdx]
  apply List.ext_getElem?
  intro t
  rw [List.getElem?_mapIdx]
  by_cases ht : t < l.length * 3
  · have h1 : t < (fl entL l).length := by rw [fl_len hk]; exact ht
    have h2 : t < (fl entL l').length := by rw [fl_len hk, hl]; exact ht
    rw [List.getElem?_append_left h1, List.getElem?_append_left h2, List.getElem?_eq_getElem h1]
    have hs : t < (flatK entL 3 l'.toArray).size := by simp [hl]; exact ht
    rw [Option.map_some, if_pos ⟨Nat.zero_le _, by simpa using hs⟩, ← hfl]
    rw [Nat.sub_zero, getElem!_pos _ t hs]
    simp [hs]
  · have h1 : (fl entL l).length ≤ t := by rw [fl_len hk]; omega
    have h2 : (fl entL l').length ≤ t := by rw [fl_len hk, hl]; omega
    have e : (fl entL l).length = (fl entL l').length := by rw [fl_len hk, fl_len hk, hl]
    rw [List.getElem?_append_right h1, List.getElem?_append_right h2, e]
    cases junk[t - (fl entL l').length]? with
    | none => rfl
    | some v =>
      rw [Option.map_some, if_neg]
      rintro ⟨_, h3⟩
      simp at h3
      omega
open Go.Sort in
theorem heap_putRowK (l l' : List En) (junk : List Value) (hl : l'.length = l.length) (w : World) (b : Nat) (T : TypeId) (n : Nat) (os : Array Obj) (hb : w.heap[b]? = some (C (fl entL l ++ junk) T)) :
    ∃ w' : World, w' = grow (putRowK entL 3 (Sort.ahead w n) b 0 l'.toArray) os ∧ w'.heap[b]? = some (C (fl entL l' ++ junk) T) ∧ (∀ k, k < w.heap.size → k ≠ b → w'.heap[k]? = w.heap[k]?) ∧ w.heap.size ≤ w'.heap.size ∧ w'.os = w.os ∧ w'.tape = w.tape ∧ w'.output = w.output := by
  have hbl : b < w.heap.size := (Array.getElem?_eq_some_iff.1 hb).1
  have hh : (putRowK entL 3 (Sort.ahead w n) b 0 l'.toArray).heap = w.heap.modify b (onCells (putCells id 0 (flatK entL 3 l'.toArray))) := rfl
  have hsz : (putRowK entL 3 (Sort.ahead w n) b 0 l'.toArray).heap.size = w.heap.size := by rw [hh, Array.size_modify]
  refine ⟨_, rfl, ?_, ?_, ?_, rfl, rfl, rfl⟩
  · rw [heap_grow_old _ _ (by rw [hsz]; exact hbl), hh, Array.getElem?_modify, if_pos rfl, hb]
    show some (Obj.cells (putCells id 0 (flatK entL 3 l'.toArray) ⟨fl entL l ++ junk⟩) T (0, 0)) = _
    rw [put_cells l l' junk hl]; rfl
  · intro k hk hne
    rw [heap_grow_old _ _ (by rw [hsz]; exact hk), hh, Array.getElem?_modify, if_neg (fun e => hne e.symm)]
  · rw [size_grow, hsz]; omega
open Go.Sort in
theorem holds_row (l : List En) (junk : List Value) (w : World) (b : Nat) (T : TypeId) (hb : w.heap[b]? = some (C (fl entL l ++ junk) T)) : HoldsK entL 3 w b 0 l.toArray := by
  intro j hj
  have hk : ∀ x : En, (entL x).length = 3 := fun _ => rfl
  have hj2 : j < (fl entL l).length := by rw [fl_len hk]; simpa using hj
  have hfl := flat_eq l
  have e : (flatK entL 3 l.toArray)[j]! = (fl entL l)[j] := by
    rw [getElem!_pos _ j hj]
    simp only [← hfl, Array.getElem_toList]
  refine ⟨?_, ?_⟩
  · show w.cell? ⟨b, 0 + j, none⟩ = some ((flatK entL 3 l.toArray)[j]!)
    rw [e]
    simp only [World.cell?, hb, C, Nat.zero_add]
    show (if (Option.isSome (none : Option Nat)) = true then none else ((⟨fl entL l ++ junk⟩ : Array Value))[j]?) = _
    simp [List.getElem?_append_left hj2, hj2]
  · simp [World.frozen?, hb, C]
open Go.Sort in
theorem perm_of {l : List En} {d' : Array En} (h : PermIn 0 l.length l.toArray d') : d'.toList.Perm l ∧ d'.toList.length = l.length := by
  obtain ⟨h1, _, h3⟩ := h
  have e1 : l.toArray.extract 0 l.length = l.toArray := by simp
  have e2 : d'.extract 0 l.length = d' := by
    have : d'.size = l.length := by simpa using h1
    rw [← this]; simp
  rw [e1, e2] at h3
  refine ⟨by simpa using h3, by simpa using h1⟩
open Go.Sort in
theorem sorted_of {n : Nat} {d' : Array En} (hn : d'.size = n) (h : SortedIn enLt 0 n d') : d'.toList.Pairwise (fun x y => x.ar ≤ y.ar) := by
  rw [List.pairwise_iff_getElem]
  intro i j hi hj hij
  have hi' : i < d'.size := by simpa using hi
  have hj' : j < d'.size := by simpa using hj
  have := h i j (Nat.zero_le _) hij (by omega)
  rw [getElem!_pos d' j hj', getElem!_pos d' i hi'] at this
  simp only [enLt, decide_eq_false_iff_not] at this
  simp only [Array.getElem_toList]
  omega
open Go.Shelf in
shelf_lay LaysGg.n6 Ggs 6 at Tryz as sl6


theorem no_bk {b : Nat} {o : Obj} {F : List (Nat × Obj)} {x : Nat × Obj} (h : (List.map Prod.fst [x, (b, o)]).Nodup) : b ≠ x.1 := by
  simp at h
  exact fun e => h e.symm
open Go.Sort Go.RowKit in
theorem sortE_raw (l : List En) (hl1 : l.length ≤ 12) (b c Bs : Nat) (junk : List Value) (T1 T2 : TypeId) :
    Sp Tryz.prog 29 #[.iface 51 (.slice (some ⟨b, 0, none⟩) l.length c), .func (.func 44) #[] #[.pointer (some ⟨Bs, 0, none⟩)]] [(b, C (fl entL l ++ junk) T2), (Bs, C [.slice (some ⟨b, 0, none⟩) l.length c] T1)]
      (fun v F' => v = .tuple #[] ∧ ∃ l' : List En, l'.Perm l ∧ l'.Pairwise (fun x y => x.ar ≤ y.ar) ∧ F' = [(b, C (fl entL l' ++ junk) T2), (Bs, C [.slice (some ⟨b, 0, none⟩) l.length c] T1)]) := by
  intro w _ hm hn
  have hb : w.heap[b]? = some (C (fl entL l ++ junk) T2) := hm _ _ (List.mem_cons_self ..)
  have hs : w.heap[Bs]? = some (C [.slice (some ⟨b, 0, none⟩) l.length c] T1) := hm _ _ (List.mem_cons_of_mem _ (List.mem_cons_self ..))
  have hne : Bs ≠ b := no_bk (F := []) hn
  have hbl : b < w.heap.size := (Array.getElem?_eq_some_iff.1 hb).1
  have hsl : Bs < w.heap.size := (Array.getElem?_eq_some_iff.1 hs).1
  have fin : ∀ (l' : List En) (n : Nat) (os : Array Obj), l'.length = l.length → l'.Perm l → l'.Pairwise (fun x y => x.ar ≤ y.ar) →
      Post (List.map Prod.fst [(b, C (fl entL l ++ junk) T2), (Bs, C [.slice (some ⟨b, 0, none⟩) l.length c] T1)]) w
        (fun v F' => v = .tuple #[] ∧ ∃ l' : List En, l'.Perm l ∧ l'.Pairwise (fun x y => x.ar ≤ y.ar) ∧ F' = [(b, C (fl entL l' ++ junk) T2), (Bs, C [.slice (some ⟨b, 0, none⟩) l.length c] T1)]) (.returned (.tuple #[])) (grow (putRowK entL 3 (Sort.ahead w n) b 0 l'.toArray) os) := by
    intro l' n os h1 h2 h3
    obtain ⟨w', hw, e1, e2, e3, e4, e5, e6⟩ := heap_putRowK l l' junk h1 w b T2 n os hb
    rw [← hw]
    refine ⟨_, ⟨rfl, l', h2, h3, rfl⟩, ⟨e4, e5, e6, e3, fun k hk hD => ?_⟩, fun k o m => ?_, by simpa using hn, fun k o m => ?_⟩
    · refine e2 k hk (fun e => hD ?_)
      subst e; simp
    · simp only [List.mem_cons, List.not_mem_nil, or_false, Prod.mk.injEq] at m
      rcases m with ⟨rfl, rfl⟩ | ⟨rfl, rfl⟩
      · exact e1
      · rw [e2 _ hsl hne]; exact hs
    · simp only [List.mem_cons, List.not_mem_nil, or_false, Prod.mk.injEq] at m
      rcases m with ⟨rfl, rfl⟩ | ⟨rfl, rfl⟩ <;> exact .inl (by simp)
  by_cases h2 : 2 ≤ l.length
  · have hless : Go.Proofs.LessReadsK Tryz.prog 44 #[.pointer (some ⟨Bs, 0, none⟩)] entL 3 enLt b 0 l.length w := by
      intro m os dk hdk i j hi hj
      obtain ⟨w', hw, e1, e2, _, _, _, _⟩ := heap_putRowK l dk.toList junk (by simpa using hdk) w b T2 m os hb
      have hsw : Go.Proofs.sortWorldK entL 3 w b 0 m dk os = w' := by rw [hw]; rfl
      rw [hsw]
      have := lessE_clo b c Bs l.length w' (fl entL dk.toList ++ junk) T1 T2 (fun t => dk[t]!.ar) ((e2 _ hsl hne).trans hs) e1 (fun t ht => by
        have ht' : t < dk.toList.length := by simpa [hdk] using ht
        have hq : dk.toList[t]? = some dk.toList[t] := List.getElem?_eq_getElem ht'
        refine fl_cell (f := entL) (s := 3) (fun _ => rfl) hq ?_ junk
        have : dk[t]! = dk.toList[t] := by rw [getElem!_pos dk t (by simpa using ht')]; simp
        rw [this]; rfl) i j hi hj
      exact this
    have hS := Go.Proofs.Any.sort_Slice_small_cells_sorted sl6 51 127 sT sE (by kernel_rfl) (by kernel_rfl) (by kernel_rfl) (by kernel_rfl) 25 (fun _ => by kernel_rfl) entL 3 (fun _ => rfl) (by kernel_rfl) (fun _ => by kernel_rfl)
      (fun x v hv => by simp [entL] at hv; rcases hv with rfl | rfl | rfl <;> rfl) enLt swo_en 44 _
      (enters_of Tryz.func44 (by kernel_rfl) rfl) b 0 c l.toArray (by simpa using h2) (by simpa using hl1) 68 (by rw [sK _ (by simpa using h2)]; kernel_rfl) false
      (fun args W => run_callFunc_extern Tryz.func68 (by kernel_rfl) (by kernel_rfl) (by kernel_rfl) (e := Extern.ReflectliteSwapper.swap false) (by kernel_rfl) args W) w hless (holds_row l junk w b T2 hb) hbl
    change Calls Tryz.prog 29 _ _ _ at hS
    refine hS.mono ?_
    rintro e w' ⟨rfl, d', n, os, hp, hso, rfl⟩
    have hp' : PermIn 0 l.length l.toArray d' := hp
    obtain ⟨p1, p2⟩ := perm_of hp'
    exact fin d'.toList n os p2 p1 (sorted_of (by simpa using p2) hso)
  · have hT := Go.Proofs.Any.sort_Slice_tiny sl6 51 127 sT sE (by kernel_rfl) (by kernel_rfl) (by kernel_rfl) (by kernel_rfl) 25 (fun _ => by kernel_rfl) (some ⟨b, 0, none⟩) l.length c (by omega) (if l.length = 0 then 60 else 61) (by
      rcases (show l.length = 0 ∨ l.length = 1 by omega) with h1 | h1
      · rw [h1, sK0]; kernel_rfl
      · rw [h1, sK1]; kernel_rfl) (.func 44) #[] #[.pointer (some ⟨Bs, 0, none⟩)] w
    change Calls Tryz.prog 29 _ _ _ at hT
    refine hT.mono ?_
    rintro e w' ⟨rfl, os, rfl⟩
    have := fin l 0 os rfl (List.Perm.refl _) (by
      rcases (show l.length = 0 ∨ l.length = 1 by omega) with h1 | h1
      · rw [List.eq_nil_of_length_eq_zero h1]; exact .nil
      · obtain ⟨x, rfl⟩ := List.length_eq_one_iff.1 h1
        simp)
    have he : putRowK entL 3 (Sort.ahead w 0) b 0 l.toArray = w := putRowK_self entL 3 w b 0 l.toArray (holds_row l junk w b T2 hb)
    rw [he] at this
    exact this
theorem sortE_spec (l : List En) (hl1 : l.length ≤ 12) (hs : l.Pairwise (fun a b => a.ar < b.ar)) (b c Bs : Nat) (junk : List Value) (T1 T2 : TypeId) :
    Sp Tryz.prog 29 #[.iface 51 (.slice (some ⟨b, 0, none⟩) l.length c), .func (.func 44) #[] #[.pointer (some ⟨Bs, 0, none⟩)]] [(b, C (fl entL l ++ junk) T2), (Bs, C [.slice (some ⟨b, 0, none⟩) l.length c] T1)]
      (fun v F' => v = .tuple #[] ∧ F' = [(b, C (fl entL l ++ junk) T2), (Bs, C [.slice (some ⟨b, 0, none⟩) l.length c] T1)]) := by
  refine sp_post (sortE_raw l hl1 b c Bs junk T1 T2) ?_
  rintro v F' ⟨rfl, l', h1, h2, rfl⟩
  rw [en_same hs h1 h2]
  exact ⟨_, [], ⟨rfl, rfl⟩, by simp⟩

end Go.Proofs.Qxb6500914aGreat

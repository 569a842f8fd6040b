import Derived.Test.Qxb6500912aGreatDoorA4
import Derived.Shelf.SlSortFuncK.WholeK
import Derived.Shelf.GgSortFunc.Tiny
import Derived.Shelf.Lay
import Derived.Ground.GgsProg
namespace Go.Proofs.Qxb6500912aGreatDoor
open Go.Eng
set_option linter.unusedVariables false
set_option linter.unusedSimpArgs false

set_option maxHeartbeats 1000000 in
theorem less_ex (x y : Int) (w : World) : Calls Tryz.prog 39 #[.int .u32 x, .int .u32 y] w (fun e w' => e = .returned (.bool (lessP x y)) ∧ w' = w) := by
  refine f_enterE (args := [.int .u32 x, .int .u32 y]) Tryz.func39 rfl Tryz.ntmps39 rfl ?_
  intro a w2 hq hl hh
  subst hq
  simp only [slotsFrom, Nat.reduceAdd] at hl
  refine c_seq ?_
  refine c_region ?_
  refine wl (wl_val hl rfl trivial (r_assign hl rfl) ?_)
  clear hl a; intro a hl
  refine w_nil ?_
  have hl2 := hl.add (t := 0) (hl.add (t := 1) (hl.nil) rfl) rfl; clear hl; have hl := hl2; clear hl2
  refine then_normal ?_
  refine c_seq ?_
  refine c_region ?_
  refine wl (wl_val hl rfl trivial (r_move hl rfl) ?_)
  clear hl a; intro a hl
  refine wl (wl_val hl rfl trivial (r_move hl rfl) ?_)
  clear hl a; intro a hl
  refine wl (wl_val hl rfl trivial (r_subM wm_u32 hl rfl rfl) ?_)
  clear hl a; intro a hl
  first | refine wl (wl_val hl rfl trivial (r_conv hl rfl Tryz.underlying29 Tryz.underlying21 (by simp only [Fits]; omega)) ?_) | refine wl (wl_val hl rfl trivial (r_convW hl rfl Tryz.underlying29 Tryz.underlying21) ?_)
  clear hl a; intro a hl
  refine wl (wl_val hl rfl trivial (r_lss hl rfl rfl) ?_)
  clear hl a; intro a hl
  refine wl (wl_val hl rfl trivial (r_assign hl rfl) ?_)
  clear hl a; intro a hl
  refine w_nil ?_
  have hl2 := hl.add (t := 4) (hl.nil) rfl; clear hl; have hl := hl2; clear hl2
  refine then_normal ?_
  refine wp_ret ?_
  refine f_ret1E hl rfl rfl ?_
  exact ⟨rfl, rfl⟩

set_option maxHeartbeats 1000000 in
theorem less_clo (blk c Bs size : Nat) (W : World) (X : List Value) (T1 T2 : TypeId) (G : Nat → Int) (hs : W.heap[Bs]? = some (C [.slice (some ⟨blk, 0, none⟩) size c] T1)) (hb : W.heap[blk]? = some (C X T2)) (hc : ∀ t, t < size → X[0 + t * 2 + 0]? = some (.int .u32 (G t))) (i j : Nat) (hi : i < size) (hj : j < size) : Calls Tryz.prog 58 #[.int .i64 (i : Int), .int .i64 (j : Int), .pointer (some ⟨Bs, 0, none⟩)] W (fun e w' => e = .returned (.bool (lessP (G i) (G j))) ∧ ∃ q, w' = W.drewN q) := by
  refine f_enterE (args := [.int .i64 (i : Int), .int .i64 (j : Int), .pointer (some ⟨Bs, 0, none⟩)]) Tryz.func58 rfl Tryz.ntmps58 rfl ?_
  intro a w hqe hl hh
  have hqw : ∃ q, w = W.drewN q := ⟨0, hqe⟩
  clear hqe
  have hci := hc i hi; have hcj := hc j hj
  clear hc
  simp only [slotsFrom, Nat.reduceAdd] at hl
  refine c_seq ?_
  refine c_region ?_
  refine wl (wl_val hl rfl trivial (r_assign hl rfl) ?_)
  clear hl a; intro a hl
  refine w_nil ?_
  have hl2 := hl.add (t := 0) (hl.add (t := 1) (hl.add (t := 2) (hl.nil) rfl) rfl) rfl; clear hl; have hl := hl2; clear hl2
  refine then_normal ?_
  refine c_seq ?_
  refine c_drawE [(Bs, C [.slice (some ⟨blk, 0, none⟩) size c] T1), (blk, C X T2)] [10, 11] mixed hh ?_
  intro w2 hw2 hh2
  have hqw2 : ∃ q, w2 = W.drewN q := hqw.elim fun q e => ⟨q + 1, by rw [hw2, e, drewN_drew]⟩
  clear hw2 hqw hh w
  revert w2; intro w hh hqw
  have hM : Mem [(Bs, C [.slice (some ⟨blk, 0, none⟩) size c] T1), (blk, C X T2)] w := (by (repeat (first | exact Mem.nil | refine Mem.consR hh (by assumption) (by simp) ?_ | refine Mem.cons hh.mem (by (repeat (first | exact find_head | apply find_tail)); done) ?_ | fail)); done)
  refine d_take (i := 0) hl rfl (by kernel_rfl) (by kernel_rfl) (by kernel_rfl) (by kernel_rfl) (by kernel_rfl) rfl trivial (fun _ _ _ h => h) hM (fun w hC => r_loadC hl rfl one48 hC (by repeat (first | exact find_head | apply find_tail)) (by first | exact hci | exact hcj | rfl)) rfl ?_
  clear hl a; intro a hl
  refine d_take (i := 1) hl rfl (by kernel_rfl) (by kernel_rfl) (by kernel_rfl) (by kernel_rfl) (by kernel_rfl) rfl trivial (fun _ _ _ h => h) hM (fun w hC => r_move hl rfl) rfl ?_
  clear hl a; intro a hl
  refine d_take (i := 2) hl rfl (by kernel_rfl) (by kernel_rfl) (by kernel_rfl) (by kernel_rfl) (by kernel_rfl) rfl trivial (fun _ _ _ h => h) hM (fun w hC => r_indexS hl rfl rfl slc48 (by omega) (by omega) (by first | (simp only [Int.reduceToNat]; rfl) | exact toNat_add1 _ | exact toNat_add2 _ _ | exact toNat_emod _ _ | exact Int.toNat_natCast _ | rfl)) rfl ?_
  clear hl a; intro a hl
  refine d_take (i := 3) hl rfl (by kernel_rfl) (by kernel_rfl) (by kernel_rfl) (by kernel_rfl) (by kernel_rfl) rfl trivial (fun _ _ _ h => h) hM (fun w hC => r_field hl rfl fld73_0) rfl ?_
  clear hl a; intro a hl
  refine d_take (i := 4) hl rfl (by kernel_rfl) (by kernel_rfl) (by kernel_rfl) (by kernel_rfl) (by kernel_rfl) rfl trivial (fun _ _ _ h => h) hM (fun w hC => r_loadC hl rfl one29 hC (by repeat (first | exact find_head | apply find_tail)) (by first | exact hci | exact hcj | rfl)) rfl ?_
  clear hl a; intro a hl
  refine d_take (i := 5) hl rfl (by kernel_rfl) (by kernel_rfl) (by kernel_rfl) (by kernel_rfl) (by kernel_rfl) rfl trivial (fun _ _ _ h => h) hM (fun w hC => r_loadC hl rfl one48 hC (by repeat (first | exact find_head | apply find_tail)) (by first | exact hci | exact hcj | rfl)) rfl ?_
  clear hl a; intro a hl
  refine d_take (i := 6) hl rfl (by kernel_rfl) (by kernel_rfl) (by kernel_rfl) (by kernel_rfl) (by kernel_rfl) rfl trivial (fun _ _ _ h => h) hM (fun w hC => r_move hl rfl) rfl ?_
  clear hl a; intro a hl
  refine d_take (i := 7) hl rfl (by kernel_rfl) (by kernel_rfl) (by kernel_rfl) (by kernel_rfl) (by kernel_rfl) rfl trivial (fun _ _ _ h => h) hM (fun w hC => r_indexS hl rfl rfl slc48 (by omega) (by omega) (by first | (simp only [Int.reduceToNat]; rfl) | exact toNat_add1 _ | exact toNat_add2 _ _ | exact toNat_emod _ _ | exact Int.toNat_natCast _ | rfl)) rfl ?_
  clear hl a; intro a hl
  refine d_take (i := 8) hl rfl (by kernel_rfl) (by kernel_rfl) (by kernel_rfl) (by kernel_rfl) (by kernel_rfl) rfl trivial (fun _ _ _ h => h) hM (fun w hC => r_field hl rfl fld73_0) rfl ?_
  clear hl a; intro a hl
  refine d_take (i := 9) hl rfl (by kernel_rfl) (by kernel_rfl) (by kernel_rfl) (by kernel_rfl) (by kernel_rfl) rfl trivial (fun _ _ _ h => h) hM (fun w hC => r_loadC hl rfl one29 hC (by repeat (first | exact find_head | apply find_tail)) (by first | exact hci | exact hcj | rfl)) rfl ?_
  clear hl a; intro a hl
  refine d_one (i := 10) (by kernel_rfl) rfl ?_
  try clear hM
  refine id (w_callE hl rfl trivial rfl cal39 rfl (less_ex _ _ _) ?_)
  clear hl a; intro a hl
  refine d_step (fun h => absurd h (by decide)) ?_
  refine d_takeL (i := 11) hl rfl (by kernel_rfl) (by kernel_rfl) (by kernel_rfl) (by kernel_rfl) (by kernel_rfl) rfl trivial (fun _ _ _ h => h) (fun w => r_assign hl rfl) rfl ?_
  clear hl a; intro a hl
  refine d_done (by kernel_rfl) ?_
  try clear hM
  have hl2 := hl.add (t := 5) (hl.nil) rfl; clear hl; have hl := hl2; clear hl2
  refine then_normal ?_
  refine wp_ret ?_
  refine f_ret1E hl rfl rfl ?_
  exact ⟨rfl, hqw⟩

/-! ## sorting the blocks -/
/-- a block by its offsets -/
structure Bk where
  s : Nat
  e : Nat
  h : s < 2147483648
instance : Inhabited Bk := ⟨⟨0, 0, by decide⟩⟩
def Bk.ab (u : Int) (x : Bk) : Int × Int := ((u + x.s) % 4294967296, (u + x.e) % 4294967296)
def bkc (u : Int) (x : Bk) : List Value := pc (x.ab u)
def bkLt (x y : Bk) : Bool := decide (x.s < y.s)
theorem swo_bk : Go.Sort.SWO bkLt where
  irrefl x := by simp [bkLt]
  trans x y z h1 h2 := by simp [bkLt] at *; omega
  ntrans x y z h1 h2 := by simp [bkLt] at *; omega
theorem lessP_off (u : Int) (x y : Int) (h : -2147483648 ≤ x - y ∧ x - y < 2147483648) : lessP ((u + x) % 4294967296) ((u + y) % 4294967296) = decide (x < y) := by
  unfold lessP
  have e : ((u + x) % 4294967296 - (u + y) % 4294967296) % 4294967296 = (x - y) % 4294967296 := by omega
  rw [e]
  have : IntKind.i32.wrap ((x - y) % 4294967296) = x - y := by
    simp [IntKind.wrap, IntKind.bits, IntKind.signed]; omega
  rw [this]
  congr 1
  exact propext (by omega)
theorem bk_less (u : Int) (x y : Bk) : lessP (x.ab u).1 (y.ab u).1 = bkLt x y := by
  have h1 := x.h; have h2 := y.h
  unfold Bk.ab bkLt
  rw [lessP_off u x.s y.s (by omega)]
  congr 1
  exact propext (by omega)
noncomputable def sT : TypeInfo := (Tryz.prog.info? 48).get (by kernel_rfl)
noncomputable def sE : TypeInfo := (Tryz.prog.info? 73).get (by kernel_rfl)
theorem sK (n : Nat) (h2 : 2 ≤ n) : Go.Lib.swapperK n sE 25 = 5 := by
  have a : sE.hasPointers = false := by kernel_rfl
  have b : sE.bytes = 8 := by kernel_rfl
  have c : (n == 0) = false := by simp; omega
  have d : (n == 1) = false := by simp; omega
  simp [Go.Lib.swapperK, a, b, c, d]
theorem sK1 : Go.Lib.swapperK 1 sE 25 = 2 := by kernel_rfl
/-- the row of blocks, flat -/
theorem flat_eq (u : Int) (l : List Bk) : (Go.Sort.flatK (bkc u) 2 l.toArray).toList = fl (bkc u) l := by
  apply List.ext_getElem?
  intro t
  by_cases ht : t < l.length * 2
  · have h1 : t < (Go.Sort.flatK (bkc u) 2 l.toArray).size := by simpa using ht
    have h2 : t / 2 < l.length := by omega
    have hq : l[t / 2]? = some l[t / 2] := List.getElem?_eq_getElem h2
    have hg := Go.Sort.get_flatK (bkc u) 2 l.toArray t (by simpa using ht)
    rw [getElem!_pos _ t h1] at hg
    rw [Array.getElem?_toList, Array.getElem?_eq_getElem h1, hg]
    have e1 : (l.toArray)[t / 2]! = l[t / 2] := by
      rw [getElem!_pos l.toArray (t / 2) (by simpa using h2)]; rfl
    rw [e1]
    have hk : ∀ x : Bk, (bkc u x).length = 2 := fun _ => rfl
    have hm : t % 2 < 2 := Nat.mod_lt _ (by decide)
    have hj : (bkc u l[t / 2])[t % 2]? = some (bkc u l[t / 2])[t % 2]! := by
      rw [getElem!_pos _ _ (by rw [hk]; exact hm)]
      exact List.getElem?_eq_getElem _
    have := fl_cell hk hq hj []
    rw [List.append_nil] at this
    rw [← this]
    congr 1; omega
  · rw [List.getElem?_eq_none (by simp; omega), List.getElem?_eq_none (by rw [fl_len (s := 2) (fun _ => rfl)]; omega)]


open Go.Sort in
theorem put_cells (u : Int) (l l' : List Bk) (junk : List Value) (hl : l'.length = l.length) : putCells id 0 (flatK (bkc u) 2 l'.toArray) (⟨fl (bkc u) l ++ junk⟩ : Array Value) = ⟨fl (bkc u) l' ++ junk⟩ := by
  have hk : ∀ x : Bk, (bkc u x).length = 2 := fun _ => rfl
  have hfl := flat_eq u l'
  apply Array.ext'
  unfold putCells
  rw [Array.toList_mapIdx]
  apply List.ext_getElem?
  intro t
  rw [List.getElem?_mapIdx]
  by_cases ht : t < l.length * 2
  · have h1 : t < (fl (bkc u) l).length := by rw [fl_len hk]; exact ht
    have h2 : t < (fl (bkc u) l').length := by rw [fl_len hk, hl]; exact ht
    rw [List.getElem?_append_left h1, List.getElem?_append_left h2, List.getElem?_eq_getElem h1]
    have hs : t < (flatK (bkc u) 2 l'.toArray).size := by simp [hl]; exact ht
    rw [Option.map_some, if_pos ⟨Nat.zero_le _, by simpa using hs⟩, ← hfl]
    rw [Nat.sub_zero, getElem!_pos _ t hs]
    simp [hs]
  · have h1 : (fl (bkc u) l).length ≤ t := by rw [fl_len hk]; omega
    have h2 : (fl (bkc u) l').length ≤ t := by rw [fl_len hk, hl]; omega
    have e : (fl (bkc u) l).length = (fl (bkc u) l').length := by rw [fl_len hk, fl_len hk, hl]
    rw [List.getElem?_append_right h1, List.getElem?_append_right h2, e]
    cases junk[t - (fl (bkc u) l').length]? with
    | none => rfl
    | some v =>
      rw [Option.map_some, if_neg]
      rintro ⟨_, h3⟩
      simp at h3
      omega
open Go.Sort in
theorem heap_putRowK (u : Int) (l l' : List Bk) (junk : List Value) (hl : l'.length = l.length) (w : World) (b : Nat) (T : TypeId) (n : Nat) (os : Array Obj) (hb : w.heap[b]? = some (C (fl (bkc u) l ++ junk) T)) :
    ∃ w' : World, w' = grow (putRowK (bkc u) 2 (Sort.ahead w n) b 0 l'.toArray) os ∧ w'.heap[b]? = some (C (fl (bkc u) l' ++ junk) T) ∧ (∀ k, k < w.heap.size → k ≠ b → w'.heap[k]? = w.heap[k]?) ∧ w.heap.size ≤ w'.heap.size ∧ w'.os = w.os ∧ w'.tape = w.tape ∧ w'.output = w.output := by
  have hbl : b < w.heap.size := (Array.getElem?_eq_some_iff.1 hb).1
  have hsz : (putRowK (bkc u) 2 (Sort.ahead w n) b 0 l'.toArray).heap.size = w.heap.size := by rw [size_putRowK]; rfl
  have hh : (putRowK (bkc u) 2 (Sort.ahead w n) b 0 l'.toArray).heap = w.heap.modify b (onCells (putCells id 0 (flatK (bkc u) 2 l'.toArray))) := rfl
  refine ⟨_, rfl, ?_, ?_, ?_, rfl, rfl, rfl⟩
  · rw [heap_grow_old _ _ (by rw [hsz]; exact hbl), hh, Array.getElem?_modify, if_pos rfl, hb]
    show some (Obj.cells (putCells id 0 (flatK (bkc u) 2 l'.toArray) ⟨fl (bkc u) l ++ junk⟩) T (0, 0)) = _
    rw [put_cells u l l' junk hl]; rfl
  · intro k hk hne
    rw [heap_grow_old _ _ (by rw [hsz]; exact hk), hh, Array.getElem?_modify, if_neg (fun e => hne e.symm)]
  · rw [size_grow, hsz]; omega
open Go.Sort in
theorem holds_row (u : Int) (l : List Bk) (junk : List Value) (w : World) (b : Nat) (T : TypeId) (hb : w.heap[b]? = some (C (fl (bkc u) l ++ junk) T)) : HoldsK (bkc u) 2 w b 0 l.toArray := by
  intro j hj
  have hk : ∀ x : Bk, (bkc u x).length = 2 := fun _ => rfl
  have hj2 : j < (fl (bkc u) l).length := by rw [fl_len hk]; simpa using hj
  have hfl := flat_eq u l
  have e : (flatK (bkc u) 2 l.toArray)[j]! = (fl (bkc u) l)[j] := by
    rw [getElem!_pos _ j hj]
    simp only [← hfl, Array.getElem_toList]
  refine ⟨?_, ?_⟩
  · show w.cell? ⟨b, 0 + j, none⟩ = some ((flatK (bkc u) 2 l.toArray)[j]!)
    rw [e]
    simp only [World.cell?, hb, C, Nat.zero_add]
    show (if (Option.isSome (none : Option Nat)) = true then none else ((⟨fl (bkc u) l ++ junk⟩ : Array Value))[j]?) = _
    simp [List.getElem?_append_left hj2, hj2]
  · simp [World.frozen?, hb, C]
open Go.Sort in
theorem perm_of {l : List Bk} {d' : Array Bk} (h : PermIn 0 l.length l.toArray d') : d'.toList.Perm l ∧ d'.toList.length = l.length := by
  obtain ⟨h1, _, h3⟩ := h
  have e1 : l.toArray.extract 0 l.length = l.toArray := by simp
  have e2 : d'.extract 0 l.length = d' := by
    have : d'.size = l.length := by simpa using h1
    rw [← this]; simp
  rw [e1, e2] at h3
  refine ⟨by simpa using h3, by simpa using h1⟩
open Go.Sort in
theorem sorted_of {n : Nat} {d' : Array Bk} (hn : d'.size = n) (h : SortedIn bkLt 0 n d') : d'.toList.Pairwise (fun x y => x.s ≤ y.s) := by
  rw [List.pairwise_iff_getElem]
  intro i j hi hj hij
  have hi' : i < d'.size := by simpa using hi
  have hj' : j < d'.size := by simpa using hj
  have := h i j (Nat.zero_le _) hij (by omega)
  rw [getElem!_pos d' j hj', getElem!_pos d' i hi'] at this
  simp only [bkLt, decide_eq_false_iff_not] at this
  simp only [Array.getElem_toList]
  omega
open Go.Shelf in
shelf_lay LaysGg.n6 Ggs 6 at Tryz as sl6


theorem no_bk {b : Nat} {o : Obj} {F : List (Nat × Obj)} {x : Nat × Obj} (h : (List.map Prod.fst [x, (b, o)]).Nodup) : b ≠ x.1 := by
  simp at h
  exact fun e => h e.symm
open Go.Sort Go.RowKit in
theorem sort_spec (u : Int) (l : List Bk) (hl0 : 0 < l.length) (hl1 : l.length ≤ 1000) (b c Bs : Nat) (junk : List Value) (T1 T2 : TypeId) :
    Sp Tryz.prog 57 #[.iface 48 (.slice (some ⟨b, 0, none⟩) l.length c), .func (.func 58) #[] #[.pointer (some ⟨Bs, 0, none⟩)]] [(b, C (fl (bkc u) l ++ junk) T2), (Bs, C [.slice (some ⟨b, 0, none⟩) l.length c] T1)]
      (fun v F' => v = .tuple #[] ∧ ∃ l' : List Bk, l'.Perm l ∧ l'.Pairwise (fun x y => x.s ≤ y.s) ∧ F' = [(b, C (fl (bkc u) l' ++ junk) T2), (Bs, C [.slice (some ⟨b, 0, none⟩) l.length c] T1)]) := by
  intro w _ hm hn
  have hb : w.heap[b]? = some (C (fl (bkc u) l ++ junk) T2) := hm _ _ (List.mem_cons_self ..)
  have hs : w.heap[Bs]? = some (C [.slice (some ⟨b, 0, none⟩) l.length c] T1) := hm _ _ (List.mem_cons_of_mem _ (List.mem_cons_self ..))
  have hne : Bs ≠ b := no_bk (F := []) hn
  have hbl : b < w.heap.size := (Array.getElem?_eq_some_iff.1 hb).1
  have hsl : Bs < w.heap.size := (Array.getElem?_eq_some_iff.1 hs).1
  have fin : ∀ (l' : List Bk) (n : Nat) (os : Array Obj), l'.length = l.length → l'.Perm l → l'.Pairwise (fun x y => x.s ≤ y.s) →
      Post (List.map Prod.fst [(b, C (fl (bkc u) l ++ junk) T2), (Bs, C [.slice (some ⟨b, 0, none⟩) l.length c] T1)]) w
        (fun v F' => v = .tuple #[] ∧ ∃ l' : List Bk, l'.Perm l ∧ l'.Pairwise (fun x y => x.s ≤ y.s) ∧ F' = [(b, C (fl (bkc u) l' ++ junk) T2), (Bs, C [.slice (some ⟨b, 0, none⟩) l.length c] T1)]) (.returned (.tuple #[])) (grow (putRowK (bkc u) 2 (Sort.ahead w n) b 0 l'.toArray) os) := by
    intro l' n os h1 h2 h3
    obtain ⟨w', hw, e1, e2, e3, e4, e5, e6⟩ := heap_putRowK u l l' junk h1 w b T2 n os hb
    rw [← hw]
    refine ⟨_, ⟨rfl, l', h2, h3, rfl⟩, ⟨e4, e5, e6, e3, fun k hk hD => ?_⟩, fun k o m => ?_, by simpa using hn, fun k o m => ?_⟩
    · refine e2 k hk (fun e => hD ?_)
      subst e; simp
    · simp only [List.mem_cons, List.not_mem_nil, or_false, Prod.mk.injEq] at m
      rcases m with ⟨rfl, rfl⟩ | ⟨rfl, rfl⟩
      · exact e1
      · rw [e2 _ hsl hne]; exact hs
    · simp only [List.mem_cons, List.not_mem_nil, or_false, Prod.mk.injEq] at m
      rcases m with ⟨rfl, rfl⟩ | ⟨rfl, rfl⟩ <;> exact .inl (by simp)
  by_cases h2 : 2 ≤ l.length
  · have hless : Go.Proofs.LessReadsK Tryz.prog 58 #[.pointer (some ⟨Bs, 0, none⟩)] (bkc u) 2 bkLt b 0 l.length w := by
      intro m os dk hdk i j hi hj
      obtain ⟨w', hw, e1, e2, _, _, _, _⟩ := heap_putRowK u l dk.toList junk (by simpa using hdk) w b T2 m os hb
      have hsw : Go.Proofs.sortWorldK (bkc u) 2 w b 0 m dk os = w' := by rw [hw]; rfl
      rw [hsw]
      have := less_clo b c Bs l.length w' (fl (bkc u) dk.toList ++ junk) T1 T2 (fun t => (dk[t]!.ab u).1) ((e2 _ hsl hne).trans hs) e1 (fun t ht => by
        have ht' : t < dk.toList.length := by simpa [hdk] using ht
        have hq : dk.toList[t]? = some dk.toList[t] := List.getElem?_eq_getElem ht'
        refine fl_cell (f := bkc u) (s := 2) (fun _ => rfl) hq ?_ junk
        have : dk[t]! = dk.toList[t] := by rw [getElem!_pos dk t (by simpa using ht')]; simp
        rw [this]; rfl) i j hi hj
      rw [bk_less] at this
      exact this
    have hS := Go.Proofs.Any.sort_Slice_cells_sorted sl6 48 73 sT sE (by kernel_rfl) (by kernel_rfl) (by kernel_rfl) (by kernel_rfl) 25 (fun _ => by kernel_rfl) (bkc u) 2 (fun _ => rfl) (by kernel_rfl) (fun _ => by kernel_rfl)
      (fun x v hv => by simp [bkc, pc] at hv; rcases hv with rfl | rfl <;> rfl) bkLt swo_bk 58 _
      (enters_of Tryz.func58 (by kernel_rfl) rfl) b 0 c l.toArray (by simpa using h2) (by simp; omega) 79 (by rw [sK _ (by simpa using h2)]; kernel_rfl) true
      (fun args W => run_callFunc_extern Tryz.func79 (by kernel_rfl) (by kernel_rfl) (by kernel_rfl) (e := Extern.ReflectliteSwapper.swap true) (by kernel_rfl) args W) w hless (holds_row u l junk w b T2 hb) hbl
    change Calls Tryz.prog 57 _ _ _ at hS
    refine hS.mono ?_
    rintro e w' ⟨rfl, d', n, os, hp, hso, rfl⟩
    have hp' : PermIn 0 l.length l.toArray d' := hp
    obtain ⟨p1, p2⟩ := perm_of hp'
    exact fin d'.toList n os p2 p1 (sorted_of (by simpa using p2) hso)
  · have h1 : l.length = 1 := by omega
    have hT := Go.Proofs.Any.sort_Slice_tiny sl6 48 73 sT sE (by kernel_rfl) (by kernel_rfl) (by kernel_rfl) (by kernel_rfl) 25 (fun _ => by kernel_rfl) (some ⟨b, 0, none⟩) l.length c (by omega) 76 (by rw [h1, sK1]; kernel_rfl) (.func 58) #[] #[.pointer (some ⟨Bs, 0, none⟩)] w
    change Calls Tryz.prog 57 _ _ _ at hT
    refine hT.mono ?_
    rintro e w' ⟨rfl, os, rfl⟩
    have := fin l 0 os rfl (List.Perm.refl _) (by
      obtain ⟨x, rfl⟩ := List.length_eq_one_iff.1 h1
      simp)
    have he : putRowK (bkc u) 2 (Sort.ahead w 0) b 0 l.toArray = w := putRowK_self (bkc u) 2 w b 0 l.toArray (holds_row u l junk w b T2 hb)
    rw [he] at this
    exact this

end Go.Proofs.Qxb6500912aGreatDoor

import Derived.Test.Qxb6500914aGreatH7
namespace Go.Proofs.Qxb6500914aGreat
open Go.Eng
set_option linter.unusedVariables false
set_option linter.unusedSimpArgs false
theorem one93 : oneOk Tryz.prog 93 = true := by kernel_rfl
theorem one97 : oneOk Tryz.prog 97 = true := by kernel_rfl
theorem slc97 : slcOk Tryz.prog 97 1 = true := by kernel_rfl
theorem fld47_0 : fieldOk Tryz.prog 47 0 0 = true := by kernel_rfl
theorem arr49 : arrOk Tryz.prog 49 6 1 = true := by kernel_rfl
/-! ## sorting the turns -/
def tc (t : Nat) : List Value := [.int .i64 (t : Int)]
theorem tc_len (t : Nat) : (tc t).length = 1 := rfl
theorem tc_one (t : Nat) : (tc t).all (·.oneCell') = true := rfl
structure Tn (H : Nat → List Rec) (d : Nat → Nat) where
  t : Nat
  lt : t < 6
  le : d t < (H t).length
def fnO (H : Nat → List Rec) (d : Nat → Nat) (t : Nat) : Nat := match (H t)[d t]? with
  | none => 0
  | some r => r.fn
def tnLt (H : Nat → List Rec) (d : Nat → Nat) (x y : Tn H d) : Bool := decide (fnO H d x.t < fnO H d y.t)
theorem swo_tn (H : Nat → List Rec) (d : Nat → Nat) : Go.Sort.SWO (tnLt H d) where
  irrefl x := by simp [tnLt]
  trans x y z h1 h2 := by simp [tnLt] at *; omega
  ntrans x y z h1 h2 := by simp [tnLt] at *; omega
def tnE (H : Nat → List Rec) (d : Nat → Nat) (x : Tn H d) : Value := .int .i64 (x.t : Int)
def tnC (H : Nat → List Rec) (d : Nat → Nat) (x : Tn H d) : List Value := [tnE H d x]
noncomputable def iT : TypeInfo := (Tryz.prog.info? 97).get (by kernel_rfl)
noncomputable def iE : TypeInfo := (Tryz.prog.info? 3).get (by kernel_rfl)
theorem iK (n : Nat) (h2 : 2 ≤ n) : Go.Lib.swapperK n iE 2 = 5 := by
  have a : iE.hasPointers = false := by kernel_rfl
  have b : iE.bytes = 8 := by kernel_rfl
  have c : (n == 0) = false := by simp; omega
  have d : (n == 1) = false := by simp; omega
  simp [Go.Lib.swapperK, a, b, c, d]
theorem iK0 : Go.Lib.swapperK 0 iE 2 = 1 := by kernel_rfl
theorem iK1 : Go.Lib.swapperK 1 iE 2 = 2 := by kernel_rfl
open Go.Sort in
theorem put_cells1 {α : Type} [Inhabited α] (f : α → Value) (l l' : List α) (junk : List Value) (hl : l'.length = l.length) : putCells f 0 l'.toArray (⟨fl (fun x => [f x]) l ++ junk⟩ : Array Value) = ⟨fl (fun x => [f x]) l' ++ junk⟩ := by
  have hk : ∀ x : α, ([f x] : List Value).length = 1 := fun _ => rfl
  have hm : ∀ l : List α, fl (fun x => [f x]) l = l.map f := fun l => by
    induction l with
    | nil => rfl
    | cons x l ih => rw [fl_cons, ih]; rfl
  rw [hm, hm]
  apply Array.ext'
  unfold putCells
  rw [Array.toList_mapIdx]
  apply List.ext_getElem?
  intro t
  rw [List.getElem?_mapIdx]
  by_cases ht : t < l.length
  · rw [List.getElem?_append_left (by simpa using ht), List.getElem?_append_left (by rw [List.length_map, hl]; exact ht), List.getElem?_eq_getElem (by simpa using ht)]
    rw [Option.map_some, if_pos ⟨Nat.zero_le _, by simp [hl]; exact ht⟩, Nat.sub_zero, getElem!_pos l'.toArray t (by simpa [hl] using ht)]
    rw [List.getElem?_eq_getElem (by rw [List.length_map, hl]; exact ht)]
    simp
  · rw [List.getElem?_append_right (by simpa using ht), List.getElem?_append_right (by rw [List.length_map, hl]; omega)]
    rw [List.length_map, List.length_map, hl]
    cases junk[t - l.length]? with
    | none => rfl
    | some v =>
      rw [Option.map_some, if_neg]
      rintro ⟨_, h3⟩
      simp at h3
      omega
open Go.Sort in
theorem heap_putRow1 {α : Type} [Inhabited α] (f : α → Value) (l l' : List α) (junk : List Value) (hl : l'.length = l.length) (w : World) (b : Nat) (T : TypeId) (n : Nat) (os : Array Obj) (hb : w.heap[b]? = some (C (fl (fun x => [f x]) l ++ junk) T)) :
    ∃ w' : World, w' = grow (putRow f (Sort.ahead w n) b 0 l'.toArray) os ∧ w'.heap[b]? = some (C (fl (fun x => [f x]) l' ++ junk) T) ∧ (∀ k, k < w.heap.size → k ≠ b → w'.heap[k]? = w.heap[k]?) ∧ w.heap.size ≤ w'.heap.size ∧ w'.os = w.os ∧ w'.tape = w.tape ∧ w'.output = w.output := by
  have hbl : b < w.heap.size := (Array.getElem?_eq_some_iff.1 hb).1
  have hh : (putRow f (Sort.ahead w n) b 0 l'.toArray).heap = w.heap.modify b (onCells (putCells f 0 l'.toArray)) := rfl
  have hsz : (putRow f (Sort.ahead w n) b 0 l'.toArray).heap.size = w.heap.size := by rw [hh, Array.size_modify]
  refine ⟨_, rfl, ?_, ?_, ?_, rfl, rfl, rfl⟩
  · rw [heap_grow_old _ _ (by rw [hsz]; exact hbl), hh, Array.getElem?_modify, if_pos rfl, hb]
    show some (Obj.cells (putCells f 0 l'.toArray ⟨fl (fun x => [f x]) l ++ junk⟩) T (0, 0)) = _
    rw [put_cells1 f l l' junk hl]; rfl
  · intro k hk hne
    rw [heap_grow_old _ _ (by rw [hsz]; exact hk), hh, Array.getElem?_modify, if_neg (fun e => hne e.symm)]
  · rw [size_grow, hsz]; omega
open Go.Sort in
theorem holds_row1 {α : Type} [Inhabited α] (f : α → Value) (l : List α) (junk : List Value) (w : World) (b : Nat) (T : TypeId) (hb : w.heap[b]? = some (C (fl (fun x => [f x]) l ++ junk) T)) : Holds f w b 0 l.toArray := by
  have hm : ∀ l : List α, fl (fun x => [f x]) l = l.map f := fun l => by
    induction l with
    | nil => rfl
    | cons x l ih => rw [fl_cons, ih]; rfl
  rw [hm] at hb
  intro j hj
  have hj1 : j < l.length := by simpa using hj
  refine ⟨?_, ?_⟩
  · rw [getElem!_pos l.toArray j hj]
    simp only [World.cell?, hb, C, Nat.zero_add]
    show (if (Option.isSome (none : Option Nat)) = true then none else ((⟨l.map f ++ junk⟩ : Array Value))[j]?) = _
    simp [List.getElem?_append_left, hj1]
  · simp [World.frozen?, hb, C]
open Go.Sort in
theorem perm_of1 {α : Type} [Inhabited α] {l : List α} {d' : Array α} (h : PermIn 0 l.length l.toArray d') : d'.toList.Perm l ∧ d'.toList.length = l.length := by
  obtain ⟨h1, _, h3⟩ := h
  have e1 : l.toArray.extract 0 l.length = l.toArray := by simp
  have e2 : d'.extract 0 l.length = d' := by
    have : d'.size = l.length := by simpa using h1
    rw [← this]; simp
  rw [e1, e2] at h3
  refine ⟨by simpa using h3, by simpa using h1⟩


set_option maxHeartbeats 8000000 in
theorem lessT_clo (blk c k3 k4 k11 sb size : Nat) (W : World) (X ss dd li lj : List Value) (T2 : TypeId) (h3 : W.heap[k3]? = some (C [.pointer (some ⟨sb, 0, none⟩)] 93)) (h4 : W.heap[k4]? = some (C dd 49)) (h11 : W.heap[k11]? = some (C [.slice (some ⟨blk, 0, none⟩) size c] 97)) (hb : W.heap[blk]? = some (C X T2)) (hsb : W.heap[sb]? = some (C ss 47)) (i j : Nat) (hi : i < size) (hj : j < size) (ti tj bi bj ni nj ci cj ei ej fi fj : Nat) (hiX : X[0 + i * 1]? = some (.int .i64 ((ti : Nat) : Int))) (hit : ti < 6) (his : ss[0 + 0 + ti * 1]? = some (.slice (some ⟨bi, 0, none⟩) ni ci)) (hib : W.heap[bi]? = some (C li 95)) (hid : dd[0 + ti * 1]? = some (.int .i64 ((ei : Nat) : Int))) (hin : ei < ni) (hir : li[0 + ei * 9 + 8]? = some (.int .i64 ((fi : Nat) : Int))) (hjX : X[0 + j * 1]? = some (.int .i64 ((tj : Nat) : Int))) (hjt : tj < 6) (hjs : ss[0 + 0 + tj * 1]? = some (.slice (some ⟨bj, 0, none⟩) nj cj)) (hjb : W.heap[bj]? = some (C lj 95)) (hjd : dd[0 + tj * 1]? = some (.int .i64 ((ej : Nat) : Int))) (hjn : ej < nj) (hjr : lj[0 + ej * 9 + 8]? = some (.int .i64 ((fj : Nat) : Int))) : Calls Tryz.prog 30 #[.int .i64 (i : Int), .int .i64 (j : Int), .pointer (some ⟨k3, 0, none⟩), .pointer (some ⟨k11, 0, none⟩), .pointer (some ⟨k4, 0, none⟩)] W (fun e w' => e = .returned (.bool (decide (fi < fj))) ∧ ∃ q, w' = W.drewN q) := by
  refine f_enterE (args := [.int .i64 (i : Int), .int .i64 (j : Int), .pointer (some ⟨k3, 0, none⟩), .pointer (some ⟨k11, 0, none⟩), .pointer (some ⟨k4, 0, none⟩)]) Tryz.func30 rfl Tryz.ntmps30 rfl ?_
  intro a w hqe hl hh
  have hqw : ∃ q, w = W.drewN q := ⟨0, hqe⟩
  clear hqe
  simp only [slotsFrom, Nat.reduceAdd] at hl
  refine c_seq ?_
  refine c_region ?_
  refine wl (wl_val hl rfl trivial (r_assign hl rfl) ?_)
  clear hl a; intro a hl
  refine w_nil ?_
  have hl2 := hl.add (t := 0) (hl.add (t := 1) (hl.add (t := 2) (hl.add (t := 3) (hl.add (t := 4) (hl.nil) rfl) rfl) rfl) rfl) rfl; clear hl; have hl := hl2; clear hl2
  refine then_normal ?_
  refine c_seq ?_
  refine c_drawE [(k3, C [.pointer (some ⟨sb, 0, none⟩)] 93), (k4, C dd 49), (k11, C [.slice (some ⟨blk, 0, none⟩) size c] 97), (blk, C X T2), (sb, C ss 47), (bi, C li 95), (bj, C lj 95)] [] mixed hh ?_
  intro w2 hw2 hh2
  have hqw2 : ∃ q, w2 = W.drewN q := hqw.elim fun q e => ⟨q + 1, by rw [hw2, e, drewN_drew]⟩
  clear hw2 hqw hh w
  revert w2; intro w hh hqw
  have hM : Mem [(k3, C [.pointer (some ⟨sb, 0, none⟩)] 93), (k4, C dd 49), (k11, C [.slice (some ⟨blk, 0, none⟩) size c] 97), (blk, C X T2), (sb, C ss 47), (bi, C li 95), (bj, C lj 95)] w := (by (repeat (first | exact Mem.nil | refine Mem.consR hh (by assumption) (by simp) ?_ | refine Mem.cons hh.mem (by (repeat (first | exact find_head | apply find_tail)); done) ?_ | fail)); done)
  refine d_take (i := 0) hl rfl (by kernel_rfl) (by kernel_rfl) (by kernel_rfl) (by kernel_rfl) (by kernel_rfl) rfl trivial (fun _ _ _ h => h) hM (fun w hC => r_loadC hl rfl one93 hC (by repeat (first | exact find_head | apply find_tail)) (by first | exact hiX | exact hjX | exact his | exact hjs | exact hid | exact hjd | exact hir | exact hjr | rfl)) rfl ?_
  clear hl a; intro a hl
  refine d_take (i := 1) hl rfl (by kernel_rfl) (by kernel_rfl) (by kernel_rfl) (by kernel_rfl) (by kernel_rfl) rfl trivial (fun _ _ _ h => h) hM (fun w hC => r_loadC hl rfl one97 hC (by repeat (first | exact find_head | apply find_tail)) (by first | exact hiX | exact hjX | exact his | exact hjs | exact hid | exact hjd | exact hir | exact hjr | rfl)) rfl ?_
  clear hl a; intro a hl
  refine d_take (i := 2) hl rfl (by kernel_rfl) (by kernel_rfl) (by kernel_rfl) (by kernel_rfl) (by kernel_rfl) rfl trivial (fun _ _ _ h => h) hM (fun w hC => r_move hl rfl) rfl ?_
  clear hl a; intro a hl
  refine d_take (i := 3) hl rfl (by kernel_rfl) (by kernel_rfl) (by kernel_rfl) (by kernel_rfl) (by kernel_rfl) rfl trivial (fun _ _ _ h => h) hM (fun w hC => r_indexS hl rfl rfl slc97 (by omega) (by omega) (by first | (simp only [Int.reduceToNat]; rfl) | exact toNat_add1 _ | exact toNat_add2 _ _ | exact toNat_emod _ _ | exact Int.toNat_natCast _ | rfl)) rfl ?_
  clear hl a; intro a hl
  refine d_take (i := 4) hl rfl (by kernel_rfl) (by kernel_rfl) (by kernel_rfl) (by kernel_rfl) (by kernel_rfl) rfl trivial (fun _ _ _ h => h) hM (fun w hC => r_loadC hl rfl one3 hC (by repeat (first | exact find_head | apply find_tail)) (by first | exact hiX | exact hjX | exact his | exact hjs | exact hid | exact hjd | exact hir | exact hjr | rfl)) rfl ?_
  clear hl a; intro a hl
  refine d_take (i := 5) hl rfl (by kernel_rfl) (by kernel_rfl) (by kernel_rfl) (by kernel_rfl) (by kernel_rfl) rfl trivial (fun _ _ _ h => h) hM (fun w hC => r_nilCheck hl rfl) rfl ?_
  clear hl a; intro a hl
  refine d_take (i := 6) hl rfl (by kernel_rfl) (by kernel_rfl) (by kernel_rfl) (by kernel_rfl) (by kernel_rfl) rfl trivial (fun _ _ _ h => h) hM (fun w hC => r_field hl rfl fld47_0) rfl ?_
  clear hl a; intro a hl
  refine d_take (i := 7) hl rfl (by kernel_rfl) (by kernel_rfl) (by kernel_rfl) (by kernel_rfl) (by kernel_rfl) rfl trivial (fun _ _ _ h => h) hM (fun w hC => r_indexA hl rfl rfl arr29 (by omega) (by omega) (by first | (simp only [Int.reduceToNat]; rfl) | exact toNat_add1 _ | exact toNat_add2 _ _ | exact toNat_emod _ _ | exact Int.toNat_natCast _ | rfl)) rfl ?_
  clear hl a; intro a hl
  refine d_take (i := 8) hl rfl (by kernel_rfl) (by kernel_rfl) (by kernel_rfl) (by kernel_rfl) (by kernel_rfl) rfl trivial (fun _ _ _ h => h) hM (fun w hC => r_loadC hl rfl one27 hC (by repeat (first | exact find_head | apply find_tail)) (by first | exact hiX | exact hjX | exact his | exact hjs | exact hid | exact hjd | exact hir | exact hjr | rfl)) rfl ?_
  clear hl a; intro a hl
  refine d_take (i := 9) hl rfl (by kernel_rfl) (by kernel_rfl) (by kernel_rfl) (by kernel_rfl) (by kernel_rfl) rfl trivial (fun _ _ _ h => h) hM (fun w hC => r_loadC hl rfl one97 hC (by repeat (first | exact find_head | apply find_tail)) (by first | exact hiX | exact hjX | exact his | exact hjs | exact hid | exact hjd | exact hir | exact hjr | rfl)) rfl ?_
  clear hl a; intro a hl
  refine d_take (i := 10) hl rfl (by kernel_rfl) (by kernel_rfl) (by kernel_rfl) (by kernel_rfl) (by kernel_rfl) rfl trivial (fun _ _ _ h => h) hM (fun w hC => r_move hl rfl) rfl ?_
  clear hl a; intro a hl
  refine d_take (i := 11) hl rfl (by kernel_rfl) (by kernel_rfl) (by kernel_rfl) (by kernel_rfl) (by kernel_rfl) rfl trivial (fun _ _ _ h => h) hM (fun w hC => r_indexS hl rfl rfl slc97 (by omega) (by omega) (by first | (simp only [Int.reduceToNat]; rfl) | exact toNat_add1 _ | exact toNat_add2 _ _ | exact toNat_emod _ _ | exact Int.toNat_natCast _ | rfl)) rfl ?_
  clear hl a; intro a hl
  refine d_take (i := 12) hl rfl (by kernel_rfl) (by kernel_rfl) (by kernel_rfl) (by kernel_rfl) (by kernel_rfl) rfl trivial (fun _ _ _ h => h) hM (fun w hC => r_loadC hl rfl one3 hC (by repeat (first | exact find_head | apply find_tail)) (by first | exact hiX | exact hjX | exact his | exact hjs | exact hid | exact hjd | exact hir | exact hjr | rfl)) rfl ?_
  clear hl a; intro a hl
  refine d_take (i := 13) hl rfl (by kernel_rfl) (by kernel_rfl) (by kernel_rfl) (by kernel_rfl) (by kernel_rfl) rfl trivial (fun _ _ _ h => h) hM (fun w hC => r_indexA hl rfl rfl arr49 (by omega) (by omega) (by first | (simp only [Int.reduceToNat]; rfl) | exact toNat_add1 _ | exact toNat_add2 _ _ | exact toNat_emod _ _ | exact Int.toNat_natCast _ | rfl)) rfl ?_
  clear hl a; intro a hl
  refine d_take (i := 14) hl rfl (by kernel_rfl) (by kernel_rfl) (by kernel_rfl) (by kernel_rfl) (by kernel_rfl) rfl trivial (fun _ _ _ h => h) hM (fun w hC => r_loadC hl rfl one3 hC (by repeat (first | exact find_head | apply find_tail)) (by first | exact hiX | exact hjX | exact his | exact hjs | exact hid | exact hjd | exact hir | exact hjr | rfl)) rfl ?_
  clear hl a; intro a hl
  refine d_take (i := 15) hl rfl (by kernel_rfl) (by kernel_rfl) (by kernel_rfl) (by kernel_rfl) (by kernel_rfl) rfl trivial (fun _ _ _ h => h) hM (fun w hC => r_indexS hl rfl rfl slc27 (by omega) (by omega) (by first | (simp only [Int.reduceToNat]; rfl) | exact toNat_add1 _ | exact toNat_add2 _ _ | exact toNat_emod _ _ | exact Int.toNat_natCast _ | rfl)) rfl ?_
  clear hl a; intro a hl
  refine d_take (i := 16) hl rfl (by kernel_rfl) (by kernel_rfl) (by kernel_rfl) (by kernel_rfl) (by kernel_rfl) rfl trivial (fun _ _ _ h => h) hM (fun w hC => r_field hl rfl fld95_4) rfl ?_
  clear hl a; intro a hl
  refine d_take (i := 17) hl rfl (by kernel_rfl) (by kernel_rfl) (by kernel_rfl) (by kernel_rfl) (by kernel_rfl) rfl trivial (fun _ _ _ h => h) hM (fun w hC => r_loadC hl rfl one3 hC (by repeat (first | exact find_head | apply find_tail)) (by first | exact hiX | exact hjX | exact his | exact hjs | exact hid | exact hjd | exact hir | exact hjr | rfl)) rfl ?_
  clear hl a; intro a hl
  refine d_take (i := 18) hl rfl (by kernel_rfl) (by kernel_rfl) (by kernel_rfl) (by kernel_rfl) (by kernel_rfl) rfl trivial (fun _ _ _ h => h) hM (fun w hC => r_loadC hl rfl one93 hC (by repeat (first | exact find_head | apply find_tail)) (by first | exact hiX | exact hjX | exact his | exact hjs | exact hid | exact hjd | exact hir | exact hjr | rfl)) rfl ?_
  clear hl a; intro a hl
  refine d_take (i := 19) hl rfl (by kernel_rfl) (by kernel_rfl) (by kernel_rfl) (by kernel_rfl) (by kernel_rfl) rfl trivial (fun _ _ _ h => h) hM (fun w hC => r_loadC hl rfl one97 hC (by repeat (first | exact find_head | apply find_tail)) (by first | exact hiX | exact hjX | exact his | exact hjs | exact hid | exact hjd | exact hir | exact hjr | rfl)) rfl ?_
  clear hl a; intro a hl
  refine d_take (i := 20) hl rfl (by kernel_rfl) (by kernel_rfl) (by kernel_rfl) (by kernel_rfl) (by kernel_rfl) rfl trivial (fun _ _ _ h => h) hM (fun w hC => r_move hl rfl) rfl ?_
  clear hl a; intro a hl
  refine d_take (i := 21) hl rfl (by kernel_rfl) (by kernel_rfl) (by kernel_rfl) (by kernel_rfl) (by kernel_rfl) rfl trivial (fun _ _ _ h => h) hM (fun w hC => r_indexS hl rfl rfl slc97 (by omega) (by omega) (by first | (simp only [Int.reduceToNat]; rfl) | exact toNat_add1 _ | exact toNat_add2 _ _ | exact toNat_emod _ _ | exact Int.toNat_natCast _ | rfl)) rfl ?_
  clear hl a; intro a hl
  refine d_take (i := 22) hl rfl (by kernel_rfl) (by kernel_rfl) (by kernel_rfl) (by kernel_rfl) (by kernel_rfl) rfl trivial (fun _ _ _ h => h) hM (fun w hC => r_loadC hl rfl one3 hC (by repeat (first | exact find_head | apply find_tail)) (by first | exact hiX | exact hjX | exact his | exact hjs | exact hid | exact hjd | exact hir | exact hjr | rfl)) rfl ?_
  clear hl a; intro a hl
  refine d_take (i := 23) hl rfl (by kernel_rfl) (by kernel_rfl) (by kernel_rfl) (by kernel_rfl) (by kernel_rfl) rfl trivial (fun _ _ _ h => h) hM (fun w hC => r_nilCheck hl rfl) rfl ?_
  clear hl a; intro a hl
  refine d_take (i := 24) hl rfl (by kernel_rfl) (by kernel_rfl) (by kernel_rfl) (by kernel_rfl) (by kernel_rfl) rfl trivial (fun _ _ _ h => h) hM (fun w hC => r_field hl rfl fld47_0) rfl ?_
  clear hl a; intro a hl
  refine d_take (i := 25) hl rfl (by kernel_rfl) (by kernel_rfl) (by kernel_rfl) (by kernel_rfl) (by kernel_rfl) rfl trivial (fun _ _ _ h => h) hM (fun w hC => r_indexA hl rfl rfl arr29 (by omega) (by omega) (by first | (simp only [Int.reduceToNat]; rfl) | exact toNat_add1 _ | exact toNat_add2 _ _ | exact toNat_emod _ _ | exact Int.toNat_natCast _ | rfl)) rfl ?_
  clear hl a; intro a hl
  refine d_take (i := 26) hl rfl (by kernel_rfl) (by kernel_rfl) (by kernel_rfl) (by kernel_rfl) (by kernel_rfl) rfl trivial (fun _ _ _ h => h) hM (fun w hC => r_loadC hl rfl one27 hC (by repeat (first | exact find_head | apply find_tail)) (by first | exact hiX | exact hjX | exact his | exact hjs | exact hid | exact hjd | exact hir | exact hjr | rfl)) rfl ?_
  clear hl a; intro a hl
  refine d_take (i := 27) hl rfl (by kernel_rfl) (by kernel_rfl) (by kernel_rfl) (by kernel_rfl) (by kernel_rfl) rfl trivial (fun _ _ _ h => h) hM (fun w hC => r_loadC hl rfl one97 hC (by repeat (first | exact find_head | apply find_tail)) (by first | exact hiX | exact hjX | exact his | exact hjs | exact hid | exact hjd | exact hir | exact hjr | rfl)) rfl ?_
  clear hl a; intro a hl
  refine d_take (i := 28) hl rfl (by kernel_rfl) (by kernel_rfl) (by kernel_rfl) (by kernel_rfl) (by kernel_rfl) rfl trivial (fun _ _ _ h => h) hM (fun w hC => r_move hl rfl) rfl ?_
  clear hl a; intro a hl
  refine d_take (i := 29) hl rfl (by kernel_rfl) (by kernel_rfl) (by kernel_rfl) (by kernel_rfl) (by kernel_rfl) rfl trivial (fun _ _ _ h => h) hM (fun w hC => r_indexS hl rfl rfl slc97 (by omega) (by omega) (by first | (simp only [Int.reduceToNat]; rfl) | exact toNat_add1 _ | exact toNat_add2 _ _ | exact toNat_emod _ _ | exact Int.toNat_natCast _ | rfl)) rfl ?_
  clear hl a; intro a hl
  refine d_take (i := 30) hl rfl (by kernel_rfl) (by kernel_rfl) (by kernel_rfl) (by kernel_rfl) (by kernel_rfl) rfl trivial (fun _ _ _ h => h) hM (fun w hC => r_loadC hl rfl one3 hC (by repeat (first | exact find_head | apply find_tail)) (by first | exact hiX | exact hjX | exact his | exact hjs | exact hid | exact hjd | exact hir | exact hjr | rfl)) rfl ?_
  clear hl a; intro a hl
  refine d_take (i := 31) hl rfl (by kernel_rfl) (by kernel_rfl) (by kernel_rfl) (by kernel_rfl) (by kernel_rfl) rfl trivial (fun _ _ _ h => h) hM (fun w hC => r_indexA hl rfl rfl arr49 (by omega) (by omega) (by first | (simp only [Int.reduceToNat]; rfl) | exact toNat_add1 _ | exact toNat_add2 _ _ | exact toNat_emod _ _ | exact Int.toNat_natCast _ | rfl)) rfl ?_
  clear hl a; intro a hl
  refine d_take (i := 32) hl rfl (by kernel_rfl) (by kernel_rfl) (by kernel_rfl) (by kernel_rfl) (by kernel_rfl) rfl trivial (fun _ _ _ h => h) hM (fun w hC => r_loadC hl rfl one3 hC (by repeat (first | exact find_head | apply find_tail)) (by first | exact hiX | exact hjX | exact his | exact hjs | exact hid | exact hjd | exact hir | exact hjr | rfl)) rfl ?_
  clear hl a; intro a hl
  refine d_take (i := 33) hl rfl (by kernel_rfl) (by kernel_rfl) (by kernel_rfl) (by kernel_rfl) (by kernel_rfl) rfl trivial (fun _ _ _ h => h) hM (fun w hC => r_indexS hl rfl rfl slc27 (by omega) (by omega) (by first | (simp only [Int.reduceToNat]; rfl) | exact toNat_add1 _ | exact toNat_add2 _ _ | exact toNat_emod _ _ | exact Int.toNat_natCast _ | rfl)) rfl ?_
  clear hl a; intro a hl
  refine d_take (i := 34) hl rfl (by kernel_rfl) (by kernel_rfl) (by kernel_rfl) (by kernel_rfl) (by kernel_rfl) rfl trivial (fun _ _ _ h => h) hM (fun w hC => r_field hl rfl fld95_4) rfl ?_
  clear hl a; intro a hl
  refine d_take (i := 35) hl rfl (by kernel_rfl) (by kernel_rfl) (by kernel_rfl) (by kernel_rfl) (by kernel_rfl) rfl trivial (fun _ _ _ h => h) hM (fun w hC => r_loadC hl rfl one3 hC (by repeat (first | exact find_head | apply find_tail)) (by first | exact hiX | exact hjX | exact his | exact hjs | exact hid | exact hjd | exact hir | exact hjr | rfl)) rfl ?_
  clear hl a; intro a hl
  refine d_take (i := 36) hl rfl (by kernel_rfl) (by kernel_rfl) (by kernel_rfl) (by kernel_rfl) (by kernel_rfl) rfl trivial (fun _ _ _ h => h) hM (fun w hC => r_lss hl rfl rfl) rfl ?_
  clear hl a; intro a hl
  refine d_take (i := 37) hl rfl (by kernel_rfl) (by kernel_rfl) (by kernel_rfl) (by kernel_rfl) (by kernel_rfl) rfl trivial (fun _ _ _ h => h) hM (fun w hC => r_assign hl rfl) rfl ?_
  clear hl a; intro a hl
  refine d_done (by kernel_rfl) ?_
  try clear hM
  have hl2 := hl.add (t := 7) (hl.nil) rfl; clear hl; have hl := hl2; clear hl2
  refine then_normal ?_
  refine wp_ret ?_
  refine f_ret1E hl rfl rfl ?_
  exact ⟨congrArg (fun z => Ending.returned (Value.bool z)) (decide_eq_decide.2 (by omega)), hqw⟩

theorem fl_tn {H : Nat → List Rec} {d : Nat → Nat} (l : List (Tn H d)) : fl (fun x => [tnE H d x]) l = fl tc (l.map Tn.t) := by
  unfold fl; rw [List.map_map]; rfl
theorem tn_lift {H : Nat → List Rec} {d : Nat → Nat} : ∀ ts : List Nat, (∀ t ∈ ts, t < 6 ∧ d t < (H t).length) → ∃ l : List (Tn H d), l.map Tn.t = ts
  | [], _ => ⟨[], rfl⟩
  | t :: ts, h => by
    obtain ⟨l, hl⟩ := tn_lift ts (fun s hs => h s (List.mem_cons_of_mem _ hs))
    have ht := h t (List.mem_cons_self ..)
    exact ⟨⟨t, ht.1, ht.2⟩ :: l, by rw [List.map_cons, hl]⟩
def BK3 (k3 sb : Nat) : Nat × Obj := (k3, C [.pointer (some ⟨sb, 0, none⟩)] 93)
def BK4 (k4 : Nat) (d : Nat → Nat) : Nat × Obj := (k4, C (arrL 6 (fun t => .int .i64 ((d t : Nat) : Int))) 49)
def SPre (sb : Nat) (sv : Nat → Value) (mv : Value) (ES : Nat → List (Nat × Obj)) (w : World) : Prop := w.heap[sb]? = some (C (arrL 6 sv ++ [mv]) 47) ∧ ∀ t, t < 6 → Mem (ES t) w
theorem ty_ne {w : World} {b b' : Nat} {l l' : List Value} {T T' : TypeId} (h : w.heap[b]? = some (C l T)) (h' : w.heap[b']? = some (C l' T')) (hT : T ≠ T') : b ≠ b' := by
  intro e
  subst e
  rw [h] at h'
  injection h' with h'
  unfold C at h'
  injection h' with _ h2
  exact hT h2
structure At (w : World) (sv : Nat → Value) (t n fn : Nat) (bi ni ci : Nat) (li : List Value) : Prop where
  s : sv t = .slice (some ⟨bi, 0, none⟩) ni ci
  b : w.heap[bi]? = some (C li 95)
  nl : n < ni
  r : li[0 + n * 9 + 8]? = some (.int .i64 ((fn : Nat) : Int))
theorem at_of {w : World} {sv : Nat → Value} {H : Nat → List Rec} {ES : Nat → List (Nat × Obj)} {d : Nat → Nat} (hHR : HR sv H ES) (hm : ∀ t, t < 6 → Mem (ES t) w) (x : Tn H d) : ∃ bi ci li, At w sv x.t (d x.t) (fnO H d x.t) bi (H x.t).length ci li := by
  obtain ⟨bi, ci, junk, h1, h2, h3, h4⟩ := row_blk3 (hHR x.t x.lt) (by have := x.le; omega)
  have hm9 := hm x.t x.lt
  rw [h4] at hm9
  have hr : (H x.t)[d x.t]? = some ((H x.t)[d x.t]'x.le) := List.getElem?_eq_getElem x.le
  refine ⟨bi, ci, _, h1, hm9 _ _ (List.mem_singleton.2 rfl), x.le, ?_⟩
  have hf : fnO H d x.t = ((H x.t)[d x.t]'x.le).fn := by unfold fnO; rw [hr]
  rw [hf]
  exact fl_cell recL_len hr rfl junk
open Go.Sort Go.RowKit in
theorem sortT_big {H : Nat → List Rec} {d : Nat → Nat} {sv : Nat → Value} {ES : Nat → List (Nat × Obj)} {mv : Value} (hHR : HR sv H ES) [Inhabited (Tn H d)] (l : List (Tn H d)) (h2 : 2 ≤ l.length) (h12 : l.length ≤ 12) (k3 k4 k11 sb b c : Nat) (junk : List Value) :
    SpK Tryz.prog 29 #[.iface 97 (.slice (some ⟨b, 0, none⟩) l.length c), .func (.func 30) #[] #[.pointer (some ⟨k3, 0, none⟩), .pointer (some ⟨k11, 0, none⟩), .pointer (some ⟨k4, 0, none⟩)]] (SPre sb sv mv ES) [(k11, C [.slice (some ⟨b, 0, none⟩) l.length c] 97), BK3 k3 sb, BK4 k4 d, (b, C (fl (fun x => [tnE H d x]) l ++ junk) 3)]
      (fun u F' => u = .tuple #[] ∧ ∃ l' : List (Tn H d), l'.Perm l ∧ l'.length = l.length ∧ F' = [(k11, C [.slice (some ⟨b, 0, none⟩) l.length c] 97), BK3 k3 sb, BK4 k4 d, (b, C (fl (fun x => [tnE H d x]) l' ++ junk) 3)]) := by
  intro w hpre hm hn
  have h11 : w.heap[k11]? = some (C [.slice (some ⟨b, 0, none⟩) l.length c] 97) := hm _ _ (by simp)
  have h3 : w.heap[k3]? = some (C [.pointer (some ⟨sb, 0, none⟩)] 93) := hm _ _ (by simp [BK3])
  have h4 : w.heap[k4]? = some (C (arrL 6 (fun t => .int .i64 ((d t : Nat) : Int))) 49) := hm _ _ (by simp [BK4])
  have hb : w.heap[b]? = some (C (fl (fun x => [tnE H d x]) l ++ junk) 3) := hm _ _ (by simp)
  obtain ⟨hsb, hES⟩ := hpre
  have hbl : b < w.heap.size := (Array.getElem?_eq_some_iff.1 hb).1
  have n11 := ty_ne h11 hb (by decide); have n3 := ty_ne h3 hb (by decide); have n4 := ty_ne h4 hb (by decide); have nsb := ty_ne hsb hb (by decide)
  have sz : ∀ {k : Nat} {o : Obj}, w.heap[k]? = some o → k < w.heap.size := fun h => (Array.getElem?_eq_some_iff.1 h).1
  have hless : Go.Proofs.LessReads Tryz.prog 30 #[.pointer (some ⟨k3, 0, none⟩), .pointer (some ⟨k11, 0, none⟩), .pointer (some ⟨k4, 0, none⟩)] (tnE H d) (tnLt H d) b 0 l.length w := by
    intro m os dk hdk i j hi hj
    obtain ⟨w', hw, e1, e2, _, _, _, _⟩ := heap_putRow1 (tnE H d) l dk.toList junk (by simpa using hdk) w b 3 m os hb
    have hsw : Go.Proofs.sortWorld (tnE H d) w b 0 m dk os = w' := by rw [hw]; rfl
    rw [hsw]
    obtain ⟨bi, ci, li, ai⟩ := at_of hHR hES dk[i]!
    obtain ⟨bj, cj, lj, aj⟩ := at_of hHR hES dk[j]!
    have kp : ∀ {k : Nat} {o : Obj}, w.heap[k]? = some o → k ≠ b → w'.heap[k]? = some o := fun h hne => (e2 _ (sz h) hne).trans h
    have hX : ∀ t, t < l.length → (fl (fun x => [tnE H d x]) dk.toList ++ junk)[0 + t * 1]? = some (.int .i64 ((dk[t]!.t : Nat) : Int)) := fun t ht => by
      have ht' : t < dk.toList.length := by simpa [hdk] using ht
      have hq : dk.toList[t]? = some dk.toList[t] := List.getElem?_eq_getElem ht'
      have := fl_cell (f := fun x => [tnE H d x]) (s := 1) (fun _ => rfl) (j := 0) hq rfl junk
      have e9 : dk[t]! = dk.toList[t] := by rw [getElem!_pos dk t (by simpa using ht')]; simp
      rw [e9]; exact this
    have hs : ∀ {t : Nat} {v : Value}, t < 6 → sv t = v → (arrL 6 sv ++ [mv])[0 + 0 + t * 1]? = some v := fun {t v} ht e => by
      rw [List.getElem?_append_left (by rw [arrL_length]; omega), show 0 + 0 + t * 1 = t by omega, arrL_get ht, e]
    have hd9 : ∀ {t : Nat}, t < 6 → (arrL 6 (fun t => Value.int .i64 ((d t : Nat) : Int)))[0 + t * 1]? = some (.int .i64 ((d t : Nat) : Int)) := fun {t} ht => by
      rw [show 0 + t * 1 = t by omega, arrL_get ht]
    exact lessT_clo b c k3 k4 k11 sb l.length w' _ _ _ li lj 3 (kp h3 n3) (kp h4 n4) (kp h11 n11) e1 (kp hsb nsb) i j hi hj dk[i]!.t dk[j]!.t bi bj (H dk[i]!.t).length (H dk[j]!.t).length ci cj (d dk[i]!.t) (d dk[j]!.t) (fnO H d dk[i]!.t) (fnO H d dk[j]!.t)
      (hX i hi) dk[i]!.lt (hs dk[i]!.lt ai.s) (kp ai.b (ty_ne ai.b hb (by decide))) (hd9 dk[i]!.lt) ai.nl ai.r
      (hX j hj) dk[j]!.lt (hs dk[j]!.lt aj.s) (kp aj.b (ty_ne aj.b hb (by decide))) (hd9 dk[j]!.lt) aj.nl aj.r
  have hS := Go.Proofs.Any.sort_Slice_small_sorted sl6 97 3 iT iE (by kernel_rfl) (by kernel_rfl) (by kernel_rfl) (by kernel_rfl) 2 (fun _ => by kernel_rfl) (by kernel_rfl) (fun _ => by kernel_rfl) (tnE H d) (fun _ => rfl) (tnLt H d) (swo_tn H d) 30 _
    (enters_of Tryz.func30 (by kernel_rfl) rfl) b 0 c l.toArray (by simpa using h2) (by simpa using h12) 64 (by rw [iK _ (by simpa using h2)]; kernel_rfl) true
    (fun args W => run_callFunc_extern Tryz.func64 (by kernel_rfl) (by kernel_rfl) (by kernel_rfl) (e := Extern.ReflectliteSwapper.swap true) (by kernel_rfl) args W) w hless (holds_row1 (tnE H d) l junk w b 3 hb) hbl
  change Calls Tryz.prog 29 _ _ _ at hS
  refine hS.mono ?_
  rintro e w' ⟨rfl, d', n, os, hp, hso, rfl⟩
  have hp' : PermIn 0 l.length l.toArray d' := hp
  obtain ⟨p1, p2⟩ := perm_of1 hp'
  obtain ⟨w', hw, e1, e2, e3, e4, e5, e6⟩ := heap_putRow1 (tnE H d) l d'.toList junk p2 w b 3 n os hb
  rw [show d' = d'.toList.toArray by simp, ← hw]
  have kp : ∀ {k : Nat} {o : Obj}, w.heap[k]? = some o → k ≠ b → w'.heap[k]? = some o := fun h hne => (e2 _ (sz h) hne).trans h
  refine ⟨_, ⟨rfl, d'.toList, p1, p2, rfl⟩, ⟨e4, e5, e6, e3, fun k hk hD => ?_⟩, fun k o m => ?_, ?_, fun k o m => ?_⟩
  · refine e2 k hk (fun e => hD ?_)
    subst e; simp
  · simp only [List.mem_cons, List.not_mem_nil, or_false] at m
    rcases m with m | m | m | m
    · cases m; exact kp h11 n11
    · cases m; exact kp h3 n3
    · cases m; exact kp h4 n4
    · cases m; exact e1
  · simpa using hn
  · simp only [List.mem_cons, List.not_mem_nil, or_false] at m
    rcases m with m | m | m | m <;> (cases m; exact .inl (by simp [BK3, BK4]))
theorem sortT_small {p : Option Addr} {n c : Nat} (h1 : n ≤ 1) (k3 k4 k11 : Nat) (Pre : World → Prop) (F : List (Nat × Obj)) :
    SpK Tryz.prog 29 #[.iface 97 (.slice p n c), .func (.func 30) #[] #[.pointer (some ⟨k3, 0, none⟩), .pointer (some ⟨k11, 0, none⟩), .pointer (some ⟨k4, 0, none⟩)]] Pre F (fun u F' => u = .tuple #[] ∧ F' = F) := by
  intro w hpre hm hn
  have hT := Go.Proofs.Any.sort_Slice_tiny sl6 97 3 iT iE (by kernel_rfl) (by kernel_rfl) (by kernel_rfl) (by kernel_rfl) 2 (fun _ => by kernel_rfl) p n c h1 (if n = 0 then 60 else 61) (by
    rcases (show n = 0 ∨ n = 1 by omega) with h1 | h1
    · subst h1; rw [iK0]; kernel_rfl
    · subst h1; rw [iK1]; kernel_rfl) (.func 30) #[] #[.pointer (some ⟨k3, 0, none⟩), .pointer (some ⟨k11, 0, none⟩), .pointer (some ⟨k4, 0, none⟩)] w
  change Calls Tryz.prog 29 _ _ _ at hT
  refine hT.mono ?_
  rintro e w' ⟨rfl, os, rfl⟩
  refine ⟨_, ⟨rfl, rfl⟩, ⟨rfl, rfl, rfl, by rw [Go.Sort.size_grow]; omega, fun k hk hD => Go.Sort.heap_grow_old _ _ hk⟩, fun k o m => ?_, hn, fun k o m => ?_⟩
  · have hb := hm k o m
    rw [Go.Sort.heap_grow_old _ _ (Array.getElem?_eq_some_iff.1 hb).1]; exact hb
  · exact .inl (List.mem_map.2 ⟨_, m, rfl⟩)
theorem sortT_row {H : Nat → List Rec} {d : Nat → Nat} {sv : Nat → Value} {ES : Nat → List (Nat × Obj)} {mv : Value} (hHR : HR sv H ES) (ts : List Nat) (hts : ∀ t ∈ ts, t < 6 ∧ d t < (H t).length) (h12 : ts.length ≤ 12) (tv : Value) (E : List (Nat × Obj)) (hR : Row tv ts.length (fl tc ts) 1 3 E) (k3 k4 k11 sb : Nat) :
    SpK Tryz.prog 29 #[.iface 97 tv, .func (.func 30) #[] #[.pointer (some ⟨k3, 0, none⟩), .pointer (some ⟨k11, 0, none⟩), .pointer (some ⟨k4, 0, none⟩)]] (SPre sb sv mv ES) ((k11, C [tv] 97) :: BK3 k3 sb :: BK4 k4 d :: E)
      (fun u F' => u = .tuple #[] ∧ ∃ ts' E', ts'.Perm ts ∧ Row tv ts'.length (fl tc ts') 1 3 E' ∧ F' = (k11, C [tv] 97) :: BK3 k3 sb :: BK4 k4 d :: E') := by
  by_cases h2 : 2 ≤ ts.length
  · obtain ⟨b, c, junk, rfl, hj, hc, rfl⟩ := row_blk3 hR (by omega)
    obtain ⟨l, rfl⟩ := tn_lift ts hts
    rw [List.length_map] at h2 h12
    haveI : Inhabited (Tn H d) := ⟨l[0]⟩
    have := sortT_big (mv := mv) hHR l h2 h12 k3 k4 k11 sb b c junk
    rw [fl_tn] at this
    rw [List.length_map] at hc ⊢
    refine fun w h1 h3 h4 => (this w h1 h3 h4).mono ?_
    intro e w' hq
    cases e with
    | returned v =>
      obtain ⟨F', ⟨rfl, l', p1, p2, rfl⟩, hh⟩ := hq
      refine ⟨_, ⟨rfl, l'.map Tn.t, _, p1.map _, ?_, rfl⟩, hh⟩
      rw [List.length_map, p2, fl_tn]
      exact .inr ⟨b, c, junk, rfl, by rw [fl_len tc_len, List.length_map, p2], by rw [List.length_append, fl_len tc_len, List.length_map, p2]; rw [List.length_append, fl_len tc_len, List.length_map] at hj; exact hj, hc, rfl⟩
    | _ => exact hq.elim
  · obtain ⟨p, c, rfl⟩ := row_val hR
    refine fun w h1 h3 h4 => (sortT_small (p := p) (c := c) (n := ts.length) (by omega) k3 k4 k11 (SPre sb sv mv ES) _ w h1 h3 h4).mono ?_
    intro e w' hq
    cases e with
    | returned v =>
      obtain ⟨F', ⟨rfl, rfl⟩, hh⟩ := hq
      exact ⟨_, ⟨rfl, ts, E, List.Perm.refl _, hR, rfl⟩, hh⟩
    | _ => exact hq.elim

end Go.Proofs.Qxb6500914aGreat

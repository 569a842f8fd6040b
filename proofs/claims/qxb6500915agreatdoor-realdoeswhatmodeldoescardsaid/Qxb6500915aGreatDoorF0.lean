import Derived.Test.Qxb6500915aGreatDoorE7
import Derived.Shelf.Sort.Plain
import Derived.Shelf.Lay
import Derived.Ground.NamesProg
namespace Go.Proofs.Qxb6500915aGreatDoor
open Go.Eng
set_option linter.unusedVariables false
set_option linter.unusedSimpArgs false
theorem cal105 : callable Tryz.prog 105 = true := by kernel_rfl
theorem cal130 : callable Tryz.prog 130 = true := by kernel_rfl
theorem slc89 : slcOk Tryz.prog 89 1 = true := by kernel_rfl
theorem cal77 : callable Tryz.prog 77 = true := by kernel_rfl
theorem cal121 : callable Tryz.prog 121 = true := by kernel_rfl
theorem cal93 : callable Tryz.prog 93 = true := by kernel_rfl
/-! ## sort.Strings, from the shelf -/
def stc (n : ByteArray) : List Value := [.string n]
theorem stc_len (n : ByteArray) : (stc n).length = 1 := rfl
theorem stc_one (n : ByteArray) : (stc n).all (·.oneCell') = true := rfl
theorem fcS {l : List ByteArray} {c : ByteArray} {i : Nat} (h : l[i]? = some c) (junk : List Value) : (fl stc l ++ junk)[0 + i * 1]? = some (.string c) := fl_cell1 (f := stc) (g := fun x => .string x) (fun _ => rfl) h junk
theorem le_cmp : ∀ a b : List UInt8, a ≤ b → Lib.compareBytes a b ≤ 0
  | [], [], _ => by decide
  | [], _ :: _, _ => by show (-1 : Int) ≤ 0; omega
  | a :: l, [], h => absurd h (by simp)
  | a :: l, b :: m, h => by
    unfold Lib.compareBytes
    rcases List.cons_le_cons_iff.1 h with h1 | ⟨h1, h2⟩
    · rw [if_pos h1]; omega
    · subst h1
      rw [if_neg (UInt8.lt_irrefl _), if_neg (UInt8.lt_irrefl _)]
      exact le_cmp l m h2
def byL (n : ByteArray) : List UInt8 := n.data.toList
theorem byL_inj {a b : ByteArray} (h : byL a = byL b) : a = b := ByteArray.ext (Array.toList_inj.mp h)
theorem enc_byL (n : ByteArray) : encStr (byL n) = .string n := rfl
theorem sort_names (ns : List ByteArray) : ∃ ns' : List ByteArray, ns'.Perm ns ∧ ns'.Pairwise (fun x y => cmpS x y ≤ 0) ∧ ((ns.map byL).mergeSort fun x y => decide (x ≤ y)) = ns'.map byL := by
  have hp : ((ns.map byL).mergeSort fun x y => decide (x ≤ y)).Perm (ns.map byL) := List.mergeSort_perm _ _
  have hs : ((ns.map byL).mergeSort fun x y => decide (x ≤ y)).Pairwise (fun x y => decide (x ≤ y) = true) := List.pairwise_mergeSort (fun a b c h1 h2 => by simp only [decide_eq_true_eq] at *; exact List.le_trans h1 h2) (fun a b => by simp only [Bool.or_eq_true, decide_eq_true_eq]; exact List.le_total a b) _
  refine ⟨((ns.map byL).mergeSort fun x y => decide (x ≤ y)).map (fun l => ⟨l.toArray⟩), ?_, ?_, ?_⟩
  · have := hp.map (fun l : List UInt8 => (⟨l.toArray⟩ : ByteArray))
    rw [List.map_map, show ((fun l : List UInt8 => (⟨l.toArray⟩ : ByteArray)) ∘ byL) = id from rfl, List.map_id] at this
    exact this
  · rw [List.pairwise_map]
    refine hs.imp fun {a b} h => ?_
    simp only [decide_eq_true_eq] at h
    exact le_cmp a b h
  · rw [List.map_map]
    exact (List.map_id _).symm
open Go.Sort in
theorem putS_cells (l l' : List ByteArray) (junk : List Value) (hl : l'.length = l.length) : putCells encStr 0 (l'.map byL).toArray (⟨fl stc l ++ junk⟩ : Array Value) = ⟨fl stc l' ++ junk⟩ := by
  apply Array.ext'
  unfold putCells
  rw [Array.toList_mapIdx]
  apply List.ext_getElem?
  intro t
  rw [List.getElem?_mapIdx]
  by_cases ht : t < l.length
  · have h1 : t < (fl stc l).length := by rw [fl_len stc_len]; omega
    have h2 : t < (fl stc l').length := by rw [fl_len stc_len, hl]; omega
    have h3 : t < l'.length := by omega
    rw [List.getElem?_append_left h1, List.getElem?_append_left h2, List.getElem?_eq_getElem h1, Option.map_some, if_pos ⟨Nat.zero_le _, by simp; omega⟩]
    have h4 := fcS (l := l') (i := t) (List.getElem?_eq_getElem h3) []
    rw [Nat.zero_add, Nat.mul_one, List.append_nil] at h4
    rw [h4, Nat.sub_zero, getElem!_pos _ t (by simpa using h3)]
    simp [byL]
  · have h1 : (fl stc l).length ≤ t := by rw [fl_len stc_len]; omega
    have h2 : (fl stc l').length ≤ t := by rw [fl_len stc_len, hl]; omega
    have e : (fl stc l).length = (fl stc l').length := by rw [fl_len stc_len, fl_len stc_len, hl]
    rw [List.getElem?_append_right h1, List.getElem?_append_right h2, e]
    cases junk[t - (fl stc l').length]? with
    | none => rfl
    | some v =>
      rw [Option.map_some, if_neg]
      rintro ⟨_, h3⟩
      simp at h3
      omega
open Go.Sort in
theorem heap_putS (l l' : List ByteArray) (junk : List Value) (hl : l'.length = l.length) (w : World) (b : Nat) (T : TypeId) (n : Nat) (os : Array Obj) (hb : w.heap[b]? = some (C (fl stc l ++ junk) T)) :
    ∃ w' : World, w' = grow (putRow encStr (Sort.ahead w n) b 0 (l'.map byL).toArray) os ∧ w'.heap[b]? = some (C (fl stc l' ++ junk) T) ∧ (∀ k, k < w.heap.size → k ≠ b → w'.heap[k]? = w.heap[k]?) ∧ w.heap.size ≤ w'.heap.size ∧ w'.os = w.os ∧ w'.tape = w.tape ∧ w'.output = w.output := by
  have hbl : b < w.heap.size := (Array.getElem?_eq_some_iff.1 hb).1
  have hsz : (putRow encStr (Sort.ahead w n) b 0 (l'.map byL).toArray).heap.size = w.heap.size := by
    show (w.heap.modify b _).size = _
    rw [Array.size_modify]
  have hh : (putRow encStr (Sort.ahead w n) b 0 (l'.map byL).toArray).heap = w.heap.modify b (onCells (putCells encStr 0 (l'.map byL).toArray)) := rfl
  refine ⟨_, rfl, ?_, ?_, ?_, rfl, rfl, rfl⟩
  · rw [heap_grow_old _ _ (by rw [hsz]; exact hbl), hh, Array.getElem?_modify, if_pos rfl, hb]
    show some (Obj.cells (putCells encStr 0 (l'.map byL).toArray ⟨fl stc l ++ junk⟩) T (0, 0)) = _
    rw [putS_cells l l' junk hl]; rfl
  · intro k hk hne
    rw [heap_grow_old _ _ (by rw [hsz]; exact hk), hh, Array.getElem?_modify, if_neg (fun e => hne e.symm)]
  · rw [size_grow, hsz]; omega
open Go.Sort in
theorem holdsS (l : List ByteArray) (junk : List Value) (w : World) (b : Nat) (T : TypeId) (hb : w.heap[b]? = some (C (fl stc l ++ junk) T)) : Holds encStr w b 0 (l.map byL).toArray := by
  intro j hj
  have hj1 : j < l.length := by simpa using hj
  have hj2 : j < (fl stc l).length := by rw [fl_len stc_len]; omega
  have h4 := fcS (l := l) (i := j) (List.getElem?_eq_getElem hj1) []
  rw [Nat.zero_add, Nat.mul_one, List.append_nil] at h4
  refine ⟨?_, ?_⟩
  · rw [getElem!_pos _ j hj]
    simp only [World.cell?, hb, C, Nat.zero_add]
    show (if (Option.isSome (none : Option Nat)) = true then none else ((⟨fl stc l ++ junk⟩ : Array Value))[j]?) = _
    rw [if_neg (by simp)]
    rw [List.getElem?_toArray, List.getElem?_append_left hj2, h4]
    simp [byL]
  · simp [World.frozen?, hb, C]
open Go.Shelf in
shelf_lay Lays.n192 Nm 192 at Tryz as st192
open Go.Sort Go.RowKit in
theorem strs1_spec (l : List ByteArray) (hl0 : 0 < l.length) (hl1 : l.length ≤ 100000000) (b c : Nat) (junk : List Value) (T : TypeId) :
    Sp Tryz.prog 68 #[.slice (some ⟨b, 0, none⟩) l.length c] [(b, C (fl stc l ++ junk) T)]
      (fun v F' => v = .tuple #[] ∧ ∃ l' : List ByteArray, l'.Perm l ∧ l'.Pairwise (fun x y => cmpS x y ≤ 0) ∧ F' = [(b, C (fl stc l' ++ junk) T)]) := by
  intro w _ hm hn
  have hb : w.heap[b]? = some (C (fl stc l ++ junk) T) := hm _ _ (List.mem_cons_self ..)
  have hbl : b < w.heap.size := (Array.getElem?_eq_some_iff.1 hb).1
  obtain ⟨l', h2, h3, h4⟩ := sort_names l
  have h1 := h2.length_eq
  have hS := Go.Proofs.Any.sort_Strings st192 b 0 c (l.map byL) w (holdsS l junk w b T hb) hbl (by simp; omega)
  rw [List.length_map, h4] at hS
  change Calls Tryz.prog 68 _ _ _ at hS
  refine hS.mono ?_
  rintro e w' ⟨rfl, n, os, rfl⟩
  obtain ⟨w', hw, e1, e2, e3, e4, e5, e6⟩ := heap_putS l l' junk h1 w b T n os hb
  rw [← hw]
  refine ⟨_, ⟨rfl, l', h2, h3, rfl⟩, ⟨e4, e5, e6, e3, fun k hk hD => ?_⟩, fun k o m => ?_, by simp, fun k o m => ?_⟩
  · refine e2 k hk (fun e => hD ?_)
    subst e; simp
  · simp only [List.mem_cons, List.not_mem_nil, or_false, Prod.mk.injEq] at m
    obtain ⟨rfl, rfl⟩ := m
    exact e1
  · simp only [List.mem_cons, List.not_mem_nil, or_false, Prod.mk.injEq] at m
    obtain ⟨rfl, rfl⟩ := m
    exact .inl (by simp)


set_option maxHeartbeats 1000000 in
theorem len64_0 : Sp Tryz.prog 105 #[.int .u64 0] [] (fun v F' => (∃ k, v = .int .i64 k) ∧ F' = []) := by
  refine f_enter (args := [.int .u64 0]) Tryz.func105 rfl Tryz.ntmps105 rfl ?_
  intro w0 w a hpre hl hh
  simp only [slotsFrom, Nat.reduceAdd] at hl
  refine c_seq ?_
  refine c_region ?_
  refine wl (wl_val hl rfl trivial (r_assign hl rfl) ?_)
  clear hl a; intro a hl
  refine w_nil ?_
  have hl2 := hl.add (t := 0) (hl.add (t := 2) (hl.nil) rfl) rfl; clear hl; have hl := hl2; clear hl2
  refine then_normal ?_
  refine c_seq ?_
  refine c_seq ?_
  refine c_region ?_
  refine wl (wl_val hl rfl trivial (r_move hl rfl) ?_)
  clear hl a; intro a hl
  refine wl (wl_val hl rfl trivial (r_geq hl rfl rfl) ?_)
  clear hl a; intro a hl
  refine w_nil ?_
  have hl2 := hl.add (t := 0) (hl.add (t := 2) (hl.add (t := 4) (hl.nil) rfl) rfl) rfl; clear hl; have hl := hl2; clear hl2
  refine then_normal ?_
  refine c_cond hl rfl ?_ ?_
  · intro hc0
    try simp only [decide_eq_true_eq, decide_eq_false_iff_not, Bool.not_eq_true', Bool.not_eq_false', Bool.not_eq_true, Bool.not_eq_false, Bool.and_eq_true, Bool.or_eq_true, Bool.and_eq_false_iff, Bool.or_eq_false_iff, Bool.not_not, ne_eq, Int.not_lt, Int.not_le, Decidable.not_not, beq_iff_eq, bne_iff_ne] at hc0
    exfalso; omega
  · intro hc0
    try simp only [decide_eq_true_eq, decide_eq_false_iff_not, Bool.not_eq_true', Bool.not_eq_false', Bool.not_eq_true, Bool.not_eq_false, Bool.and_eq_true, Bool.or_eq_true, Bool.and_eq_false_iff, Bool.or_eq_false_iff, Bool.not_not, ne_eq, Int.not_lt, Int.not_le, Decidable.not_not, beq_iff_eq, bne_iff_ne] at hc0
    refine wp_skip ?_
    refine then_normal ?_
    refine c_seq ?_
    refine c_seq ?_
    refine c_region ?_
    refine wl (wl_val hl rfl trivial (r_move hl rfl) ?_)
    clear hl a; intro a hl
    refine wl (wl_val hl rfl trivial (r_geq hl rfl rfl) ?_)
    clear hl a; intro a hl
    refine w_nil ?_
    have hl2 := hl.add (t := 0) (hl.add (t := 2) (hl.add (t := 8) (hl.nil) rfl) rfl) rfl; clear hl; have hl := hl2; clear hl2
    refine then_normal ?_
    refine c_cond hl rfl ?_ ?_
    · intro hc1
      try simp only [decide_eq_true_eq, decide_eq_false_iff_not, Bool.not_eq_true', Bool.not_eq_false', Bool.not_eq_true, Bool.not_eq_false, Bool.and_eq_true, Bool.or_eq_true, Bool.and_eq_false_iff, Bool.or_eq_false_iff, Bool.not_not, ne_eq, Int.not_lt, Int.not_le, Decidable.not_not, beq_iff_eq, bne_iff_ne] at hc1
      exfalso; omega
    · intro hc1
      try simp only [decide_eq_true_eq, decide_eq_false_iff_not, Bool.not_eq_true', Bool.not_eq_false', Bool.not_eq_true, Bool.not_eq_false, Bool.and_eq_true, Bool.or_eq_true, Bool.and_eq_false_iff, Bool.or_eq_false_iff, Bool.not_not, ne_eq, Int.not_lt, Int.not_le, Decidable.not_not, beq_iff_eq, bne_iff_ne] at hc1
      refine wp_skip ?_
      refine then_normal ?_
      refine c_seq ?_
      refine c_seq ?_
      refine c_region ?_
      refine wl (wl_val hl rfl trivial (r_move hl rfl) ?_)
      clear hl a; intro a hl
      refine wl (wl_val hl rfl trivial (r_geq hl rfl rfl) ?_)
      clear hl a; intro a hl
      refine w_nil ?_
      have hl2 := hl.add (t := 0) (hl.add (t := 2) (hl.add (t := 14) (hl.nil) rfl) rfl) rfl; clear hl; have hl := hl2; clear hl2
      refine then_normal ?_
      refine c_cond hl rfl ?_ ?_
      · intro hc2
        try simp only [decide_eq_true_eq, decide_eq_false_iff_not, Bool.not_eq_true', Bool.not_eq_false', Bool.not_eq_true, Bool.not_eq_false, Bool.and_eq_true, Bool.or_eq_true, Bool.and_eq_false_iff, Bool.or_eq_false_iff, Bool.not_not, ne_eq, Int.not_lt, Int.not_le, Decidable.not_not, beq_iff_eq, bne_iff_ne] at hc2
        exfalso; omega
      · intro hc2
        try simp only [decide_eq_true_eq, decide_eq_false_iff_not, Bool.not_eq_true', Bool.not_eq_false', Bool.not_eq_true, Bool.not_eq_false, Bool.and_eq_true, Bool.or_eq_true, Bool.and_eq_false_iff, Bool.or_eq_false_iff, Bool.not_not, ne_eq, Int.not_lt, Int.not_le, Decidable.not_not, beq_iff_eq, bne_iff_ne] at hc2
        refine wp_skip ?_
        refine then_normal ?_
        refine c_seq ?_
        refine c_region ?_
        refine wl (wl_val hl rfl trivial (r_move hl rfl) ?_)
        clear hl a; intro a hl
        refine wl (wl_val hl rfl trivial (r_move hl rfl) ?_)
        clear hl a; intro a hl
        first | refine wl (wl_val hl rfl trivial (r_conv hl rfl Tryz.underlying49 Tryz.underlying5 (by simp only [Fits]; omega)) ?_) | refine wl (wl_val hl rfl trivial (r_convW hl rfl Tryz.underlying49 Tryz.underlying5) ?_)
        clear hl a; intro a hl
        refine wl (wl_val hl rfl trivial (r_indexStr hl rfl rfl Tryz.underlying9 (by decide) (of_decide_eq_true (by kernel_rfl)) rfl) ?_)
        clear hl a; intro a hl
        first | refine wl (wl_val hl rfl trivial (r_conv hl rfl Tryz.underlying5 Tryz.underlying3 (by simp only [Fits]; omega)) ?_) | refine wl (wl_val hl rfl trivial (r_convW hl rfl Tryz.underlying5 Tryz.underlying3) ?_)
        clear hl a; intro a hl
        first | refine wl (wl_val hl rfl trivial (r_add hl rfl rfl (by simp only [Fits]; omega)) ?_) | refine wl (wl_val hl rfl trivial (r_addW hl rfl rfl) ?_)
        clear hl a; intro a hl
        refine wl (wl_val hl rfl trivial (r_assign hl rfl) ?_)
        clear hl a; intro a hl
        refine w_nil ?_
        have hl2 := hl.add (t := 2) (hl.nil) rfl; clear hl; have hl := hl2; clear hl2
        refine then_normal ?_
        refine wp_ret ?_
        refine f_ret1 (F' := []) hl hh rfl rfl (by repeat (first | exact keeps_nil | apply keeps_cons (by repeat (first | exact find_head | apply find_tail)) (by first  | rfl) | exact keeps_self | apply keeps_mv)) ?_
        exact ⟨⟨_, rfl⟩, rfl⟩

set_option maxHeartbeats 1000000 in
theorem len_0 : Sp Tryz.prog 77 #[.int .u64 0] [] (fun v F' => (∃ k, v = .int .i64 k) ∧ F' = []) := by
  refine f_enter (args := [.int .u64 0]) Tryz.func77 rfl Tryz.ntmps77 rfl ?_
  intro w0 w a hpre hl hh
  simp only [slotsFrom, Nat.reduceAdd] at hl
  refine c_seq ?_
  refine c_region ?_
  refine wl (wl_val hl rfl trivial (r_assign hl rfl) ?_)
  clear hl a; intro a hl
  refine w_nil ?_
  have hl2 := hl.add (t := 0) (hl.nil) rfl; clear hl; have hl := hl2; clear hl2
  refine then_normal ?_
  refine c_seq ?_
  refine c_condF hl rfl ?_
  refine wp_skip ?_
  refine then_normal ?_
  refine c_seq ?_
  refine c_region ?_
  refine wl (wl_val hl rfl trivial (r_move hl rfl) ?_)
  clear hl a; intro a hl
  refine wl (w_call hl hh rfl trivial rfl cal105 rfl (len64_0) (by repeat (first | exact keeps_nil | apply keeps_cons (by repeat (first | exact find_head | apply find_tail)) (by first  | rfl) | exact keeps_self | apply keeps_mv)) trivial ?_)
  clear hl hh a w; intro vc Fc a w hR hl hh
  obtain ⟨⟨k, rfl⟩, rfl⟩ := hR
  try simp only [List.cons_append, List.nil_append] at hh
  refine wl (wl_val hl rfl trivial (r_assign hl rfl) ?_)
  clear hl a; intro a hl
  refine w_nil ?_
  have hl2 := hl.add (t := 2) (hl.nil) rfl; clear hl; have hl := hl2; clear hl2
  refine then_normal ?_
  refine wp_ret ?_
  refine f_ret1 (F' := []) hl hh rfl rfl (by repeat (first | exact keeps_nil | apply keeps_cons (by repeat (first | exact find_head | apply find_tail)) (by first  | rfl) | exact keeps_self | apply keeps_mv)) ?_
  exact ⟨⟨_, rfl⟩, rfl⟩

set_option maxHeartbeats 1000000 in
theorem ins0_spec (p : Option Addr) (c : Nat) (E : List (Nat × Obj)) : Sp Tryz.prog 130 #[.slice p 0 c, .int .i64 0, .int .i64 0] E (fun v F' => v = .tuple #[] ∧ F' = E) := by
  refine f_enter (args := [.slice p 0 c, .int .i64 0, .int .i64 0]) Tryz.func130 rfl Tryz.ntmps130 rfl ?_
  intro w0 w a hpre hl hh
  simp only [slotsFrom, Nat.reduceAdd] at hl
  refine c_seq ?_
  refine c_region ?_
  refine wl (wl_val hl rfl trivial (r_move hl rfl) ?_)
  clear hl a; intro a hl
  first | refine wl (wl_val hl rfl trivial (r_add hl rfl rfl (by simp only [Fits]; omega)) ?_) | refine wl (wl_val hl rfl trivial (r_addW hl rfl rfl) ?_)
  clear hl a; intro a hl
  refine wl (wl_val hl rfl trivial (r_assign hl rfl) ?_)
  clear hl a; intro a hl
  refine w_nil ?_
  have hl2 := hl.add (t := 0) (hl.add (t := 1) (hl.add (t := 2) (hl.add (t := 6) (hl.nil) rfl) rfl) rfl) rfl; clear hl; have hl := hl2; clear hl2
  refine then_normal ?_
  refine wp_block ?_
  obtain ⟨KS0, hKS0, hk⟩ := (hl.add (t := 0) (hl.add (t := 1) (hl.add (t := 2) (hl.nil) rfl) rfl) rfl).name
  obtain ⟨HS0, hHS0, hh2⟩ := hh.nameT (A := []) (U := E) ((by repeat (first | exact keeps_nil | exact keeps_self | exact keeps_swap | apply keeps_mv)))
  refine c_loop (α := Nat) (fun z => 0 - z) (fun z a w => (True) ∧ Sl 49 ([(6, .int .i64 1)] ++ KS0) a ∧ Has _ w0 ([] ++ (HS0 ++ E)) w) 0 ⟨trivial, hl.addE (t := 6) (hk) rfl (by first | rfl), hh2⟩ ?_
  clear hk hh2 hl hh a w
  intro z a w hI
  obtain ⟨_, hl, hh⟩ := hI
  subst hKS0; subst hHS0
  simp only [List.cons_append, List.nil_append, List.append_nil] at hl hh
  refine c_seq ?_
  refine c_seq ?_
  refine c_region ?_
  refine wl (wl_val hl rfl trivial (r_move hl rfl) ?_)
  clear hl a; intro a hl
  refine wl (wl_val hl rfl trivial (r_move hl rfl) ?_)
  clear hl a; intro a hl
  refine wl (wl_val hl rfl trivial (r_lss hl rfl rfl) ?_)
  clear hl a; intro a hl
  refine w_nil ?_
  have hl2 := hl.add (t := 0) (hl.add (t := 1) (hl.add (t := 2) (hl.add (t := 6) (hl.add (t := 12) (hl.nil) rfl) rfl) rfl) rfl) rfl; clear hl; have hl := hl2; clear hl2
  refine then_normal ?_
  refine c_cond hl rfl ?_ ?_
  · intro hc0
    try simp only [decide_eq_true_eq, decide_eq_false_iff_not, Bool.not_eq_true', Bool.not_eq_false', Bool.not_eq_true, Bool.not_eq_false, Bool.and_eq_true, Bool.or_eq_true, Bool.and_eq_false_iff, Bool.or_eq_false_iff, Bool.not_not, ne_eq, Int.not_lt, Int.not_le, Decidable.not_not, beq_iff_eq, bne_iff_ne] at hc0
    exfalso; omega
  · intro hc0
    try simp only [decide_eq_true_eq, decide_eq_false_iff_not, Bool.not_eq_true', Bool.not_eq_false', Bool.not_eq_true, Bool.not_eq_false, Bool.and_eq_true, Bool.or_eq_true, Bool.and_eq_false_iff, Bool.or_eq_false_iff, Bool.not_not, ne_eq, Int.not_lt, Int.not_le, Decidable.not_not, beq_iff_eq, bne_iff_ne] at hc0
    refine wp_exit ?_
    refine then_exit ?_
    refine then_exit ?_
    refine blk_exit ?_
    refine f_end0 (F' := E) hl hh rfl (by repeat (first | exact keeps_nil | apply keeps_cons (by repeat (first | exact find_head | apply find_tail)) (by first  | rfl) | exact keeps_self | exact keeps_left | exact keeps_right | exact keeps_swap | apply keeps_mv)) ?_
    exact ⟨rfl, rfl⟩

set_option maxHeartbeats 1000000 in
theorem pdq0_spec (p : Option Addr) (c : Nat) (k : Int) (E : List (Nat × Obj)) : Sp Tryz.prog 121 #[.slice p 0 c, .int .i64 0, .int .i64 0, .int .i64 k] E (fun v F' => v = .tuple #[] ∧ F' = E) := by
  refine f_enter (args := [.slice p 0 c, .int .i64 0, .int .i64 0, .int .i64 k]) Tryz.func121 rfl Tryz.ntmps121 rfl ?_
  intro w0 w a hpre hl hh
  simp only [slotsFrom, Nat.reduceAdd] at hl
  refine c_seq ?_
  refine c_region ?_
  refine wl (wl_val hl rfl trivial (r_assign hl rfl) ?_)
  clear hl a; intro a hl
  refine w_nil ?_
  have hl2 := hl.add (t := 0) (hl.add (t := 1) (hl.add (t := 2) (hl.add (t := 3) (hl.add (t := 8) (hl.nil) rfl) rfl) rfl) rfl) rfl; clear hl; have hl := hl2; clear hl2
  refine then_normal ?_
  refine c_seq ?_
  refine c_region ?_
  refine wl (wl_val hl rfl trivial (r_assign hl rfl) ?_)
  clear hl a; intro a hl
  refine w_nil ?_
  have hl2 := hl.add (t := 0) (hl.add (t := 1) (hl.add (t := 2) (hl.add (t := 3) (hl.add (t := 8) (hl.add (t := 9) (hl.nil) rfl) rfl) rfl) rfl) rfl) rfl; clear hl; have hl := hl2; clear hl2
  refine then_normal ?_
  refine wp_block ?_
  obtain ⟨KS0, hKS0, hk⟩ := (hl.add (t := 0) (hl.nil) rfl).name
  obtain ⟨HS0, hHS0, hh2⟩ := hh.nameT (A := []) (U := E) ((by repeat (first | exact keeps_nil | exact keeps_self | exact keeps_swap | apply keeps_mv)))
  refine c_loop (α := Nat) (fun z => 0 - z) (fun z a w => (True) ∧ Sl 134 ([(1, .int .i64 0), (2, .int .i64 0), (3, .int .i64 k), (8, .bool true), (9, .bool true)] ++ KS0) a ∧ Has _ w0 ([] ++ (HS0 ++ E)) w) 0 ⟨trivial, hl.addE (t := 1) (hl.addE (t := 2) (hl.addE (t := 3) (hl.addE (t := 8) (hl.addE (t := 9) (hk) rfl (by first | rfl)) rfl (by first | rfl)) rfl (by first | rfl)) rfl (by first | rfl)) rfl (by first | rfl), hh2⟩ ?_
  clear hk hh2 hl hh a w
  intro z a w hI
  obtain ⟨_, hl, hh⟩ := hI
  subst hKS0; subst hHS0
  simp only [List.cons_append, List.nil_append, List.append_nil] at hl hh
  refine wp_block ?_
  refine c_seq ?_
  refine c_region ?_
  refine wl (wl_val hl rfl trivial (r_move hl rfl) ?_)
  clear hl a; intro a hl
  refine wl (wl_val hl rfl trivial (r_move hl rfl) ?_)
  clear hl a; intro a hl
  first | refine wl (wl_val hl rfl trivial (r_sub hl rfl rfl (by simp only [Fits]; omega)) ?_) | refine wl (wl_val hl rfl trivial (r_subW hl rfl rfl) ?_)
  clear hl a; intro a hl
  refine wl (wl_val hl rfl trivial (r_assign hl rfl) ?_)
  clear hl a; intro a hl
  refine w_nil ?_
  have hl2 := hl.add (t := 0) (hl.add (t := 1) (hl.add (t := 2) (hl.add (t := 3) (hl.add (t := 8) (hl.add (t := 9) (hl.add (t := 10) (hl.nil) rfl) rfl) rfl) rfl) rfl) rfl) rfl; clear hl; have hl := hl2; clear hl2
  refine then_normal ?_
  refine c_seq ?_
  refine c_seq ?_
  refine c_region ?_
  refine wl (wl_val hl rfl trivial (r_move hl rfl) ?_)
  clear hl a; intro a hl
  refine wl (wl_val hl rfl trivial (r_leq hl rfl rfl) ?_)
  clear hl a; intro a hl
  refine w_nil ?_
  have hl2 := hl.add (t := 0) (hl.add (t := 1) (hl.add (t := 2) (hl.add (t := 3) (hl.add (t := 8) (hl.add (t := 9) (hl.add (t := 10) (hl.add (t := 23) (hl.nil) rfl) rfl) rfl) rfl) rfl) rfl) rfl) rfl; clear hl; have hl := hl2; clear hl2
  refine then_normal ?_
  refine c_cond hl rfl ?_ ?_
  · intro hc0
    try simp only [decide_eq_true_eq, decide_eq_false_iff_not, Bool.not_eq_true', Bool.not_eq_false', Bool.not_eq_true, Bool.not_eq_false, Bool.and_eq_true, Bool.or_eq_true, Bool.and_eq_false_iff, Bool.or_eq_false_iff, Bool.not_not, ne_eq, Int.not_lt, Int.not_le, Decidable.not_not, beq_iff_eq, bne_iff_ne] at hc0
    refine c_seq ?_
    refine c_region ?_
    refine wl (wl_val hl rfl trivial (r_move hl rfl) ?_)
    clear hl a; intro a hl
    refine wl (wl_val hl rfl trivial (r_move hl rfl) ?_)
    clear hl a; intro a hl
    refine wl (wl_val hl rfl trivial (r_move hl rfl) ?_)
    clear hl a; intro a hl
    refine wl (w_call hl hh rfl trivial rfl cal130 rfl (ins0_spec p c E) (by repeat (first | exact keeps_nil | apply keeps_cons (by repeat (first | exact find_head | apply find_tail)) (by first  | rfl) | exact keeps_self | exact keeps_left | exact keeps_right | exact keeps_swap | apply keeps_mv)) trivial ?_)
    clear hl hh a w; intro vc Fc a w hR hl hh
    obtain ⟨rfl, hF⟩ := hR
    try simp only [List.cons_append, List.nil_append] at hh
    rw [hF] at hh
    try simp only [List.append_nil] at hh
    refine w_nil ?_
    have hl2 := hl.nil; clear hl; have hl := hl2; clear hl2
    refine then_normal ?_
    refine wp_ret ?_
    refine then_ret ?_
    refine blk_ret ?_
    refine then_ret ?_
    refine blk_ret ?_
    refine f_ret0 (F' := E) hl hh rfl (by repeat (first | exact keeps_nil | apply keeps_cons (by repeat (first | exact find_head | apply find_tail)) (by first  | rfl) | exact keeps_self | exact keeps_left | exact keeps_right | exact keeps_swap | apply keeps_mv)) ?_
    exact ⟨rfl, rfl⟩
  · intro hc0
    try simp only [decide_eq_true_eq, decide_eq_false_iff_not, Bool.not_eq_true', Bool.not_eq_false', Bool.not_eq_true, Bool.not_eq_false, Bool.and_eq_true, Bool.or_eq_true, Bool.and_eq_false_iff, Bool.or_eq_false_iff, Bool.not_not, ne_eq, Int.not_lt, Int.not_le, Decidable.not_not, beq_iff_eq, bne_iff_ne] at hc0
    exfalso; omega

set_option maxHeartbeats 1000000 in
theorem srt0_spec (p : Option Addr) (c : Nat) (E : List (Nat × Obj)) : Sp Tryz.prog 93 #[.slice p 0 c] E (fun v F' => v = .tuple #[] ∧ F' = E) := by
  refine f_enter (args := [.slice p 0 c]) Tryz.func93 rfl Tryz.ntmps93 rfl ?_
  intro w0 w a hpre hl hh
  simp only [slotsFrom, Nat.reduceAdd] at hl
  refine c_seq ?_
  refine c_region ?_
  refine wl (wl_val hl rfl trivial (r_move hl rfl) ?_)
  clear hl a; intro a hl
  refine wl (wl_val hl rfl trivial (r_lenS hl rfl slc89) ?_)
  clear hl a; intro a hl
  refine wl (wl_val hl rfl trivial (r_assign hl rfl) ?_)
  clear hl a; intro a hl
  refine w_nil ?_
  have hl2 := hl.add (t := 0) (hl.add (t := 2) (hl.nil) rfl) rfl; clear hl; have hl := hl2; clear hl2
  refine then_normal ?_
  refine c_region ?_
  refine wl (wl_val hl rfl trivial (r_move hl rfl) ?_)
  clear hl a; intro a hl
  refine wl (wl_val hl rfl trivial (r_move hl rfl) ?_)
  clear hl a; intro a hl
  refine wl (wl_val hl rfl trivial (r_move hl rfl) ?_)
  clear hl a; intro a hl
  first | refine wl (wl_val hl rfl trivial (r_conv hl rfl Tryz.underlying3 Tryz.underlying106 (by simp only [Fits]; omega)) ?_) | refine wl (wl_val hl rfl trivial (r_convW hl rfl Tryz.underlying3 Tryz.underlying106) ?_)
  clear hl a; intro a hl
  refine wl (w_call hl hh rfl trivial rfl cal77 rfl (len_0) (by repeat (first | exact keeps_nil | apply keeps_cons (by repeat (first | exact find_head | apply find_tail)) (by first  | rfl) | exact keeps_self | exact keeps_left | exact keeps_right | exact keeps_swap | apply keeps_mv)) trivial ?_)
  clear hl hh a w; intro vc Fc a w hR hl hh
  obtain ⟨⟨k, rfl⟩, rfl⟩ := hR
  try simp only [List.cons_append, List.nil_append] at hh
  refine wl (w_call hl hh rfl trivial rfl cal121 rfl (pdq0_spec p c k E) (by repeat (first | exact keeps_nil | apply keeps_cons (by repeat (first | exact find_head | apply find_tail)) (by first  | rfl) | exact keeps_self | exact keeps_left | exact keeps_right | exact keeps_swap | apply keeps_mv)) trivial ?_)
  clear hl hh a w; intro vc Fc a w hR hl hh
  obtain ⟨rfl, hF⟩ := hR
  try simp only [List.cons_append, List.nil_append] at hh
  rw [hF] at hh
  try simp only [List.append_nil] at hh
  refine w_nil ?_
  have hl2 := hl.nil; clear hl; have hl := hl2; clear hl2
  refine f_end0 (F' := E) hl hh rfl (by repeat (first | exact keeps_nil | apply keeps_cons (by repeat (first | exact find_head | apply find_tail)) (by first  | rfl) | exact keeps_self | exact keeps_left | exact keeps_right | exact keeps_swap | apply keeps_mv)) ?_
  exact ⟨rfl, rfl⟩

set_option maxHeartbeats 1000000 in
theorem strs0_spec (p : Option Addr) (c : Nat) (E : List (Nat × Obj)) : Sp Tryz.prog 68 #[.slice p 0 c] E (fun v F' => v = .tuple #[] ∧ F' = E) := by
  refine f_enter (args := [.slice p 0 c]) Tryz.func68 rfl Tryz.ntmps68 rfl ?_
  intro w0 w a hpre hl hh
  simp only [slotsFrom, Nat.reduceAdd] at hl
  refine c_region ?_
  refine wl (wl_val hl rfl trivial (r_move hl rfl) ?_)
  clear hl a; intro a hl
  refine wl (w_call hl hh rfl trivial rfl cal93 rfl (srt0_spec p c E) (by repeat (first | exact keeps_nil | apply keeps_cons (by repeat (first | exact find_head | apply find_tail)) (by first  | rfl) | exact keeps_self | exact keeps_left | exact keeps_right | exact keeps_swap | apply keeps_mv)) trivial ?_)
  clear hl hh a w; intro vc Fc a w hR hl hh
  obtain ⟨rfl, hF⟩ := hR
  try simp only [List.cons_append, List.nil_append] at hh
  rw [hF] at hh
  try simp only [List.append_nil] at hh
  refine w_nil ?_
  have hl2 := hl.nil; clear hl; have hl := hl2; clear hl2
  refine f_end0 (F' := E) hl hh rfl (by repeat (first | exact keeps_nil | apply keeps_cons (by repeat (first | exact find_head | apply find_tail)) (by first  | rfl) | exact keeps_self | exact keeps_left | exact keeps_right | exact keeps_swap | apply keeps_mv)) ?_
  exact ⟨rfl, rfl⟩

theorem strs_spec (l : List ByteArray) (p : Option Addr) (c : Nat) (E : List (Nat × Obj)) (hR : Row (.slice p l.length c) l.length (fl stc l) 1 9 E) (hl1 : l.length ≤ 100000000) : Sp Tryz.prog 68 #[.slice p l.length c] E (fun v F' => v = .tuple #[] ∧ ∃ l', l'.Perm l ∧ l'.Pairwise (fun x y => cmpS x y ≤ 0) ∧ Row (.slice p l'.length c) l'.length (fl stc l') 1 9 F') := by
  by_cases h0 : 0 < l.length
  · obtain ⟨b, junk, rfl, hjl, hjc, rfl⟩ := row_pos hR h0
    refine sp_mono (strs1_spec l h0 hl1 b c junk 9) fun v G h => ?_
    obtain ⟨h1, l', h2, h3, rfl⟩ := h
    exact ⟨h1, l', h2, h3, row_put stc_len h2.length_eq hjl hjc⟩
  · have h1 : l = [] := List.eq_nil_of_length_eq_zero (by omega)
    subst h1
    refine sp_mono (strs0_spec p c E) fun v G h => ?_
    exact ⟨h.1, [], List.Perm.refl _, List.Pairwise.nil, by rw [h.2]; exact hR⟩
end Go.Proofs.Qxb6500915aGreatDoor

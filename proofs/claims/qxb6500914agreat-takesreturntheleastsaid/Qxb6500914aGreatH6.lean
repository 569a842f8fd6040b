import Derived.Test.Qxb6500914aGreatH5
namespace Go.Proofs.Qxb6500914aGreat
open Go.Eng
set_option linter.unusedVariables false
set_option linter.unusedSimpArgs false
theorem agg49 : aggOk Tryz.prog 49 6 = true := by kernel_rfl
theorem arrT49 : arrTOk Tryz.prog 49 6 1 3 = true := by kernel_rfl
theorem agg124 : aggOk Tryz.prog 124 0 = true := by kernel_rfl
theorem cal43 : callable Tryz.prog 43 = true := by kernel_rfl
theorem zero51 : zeroOk Tryz.prog 51 (.slice none 0 0) := by unfold zeroOk; kernel_rfl
theorem conc51 : concT Tryz.prog 51 = true := by kernel_rfl
theorem cal29 : callable Tryz.prog 29 = true := by kernel_rfl
/-! ## the key of a state of the search -/
theorem sortE_row (es : List En) (h8 : es.length ≤ 8) (hs : es.Pairwise (fun a b => a.ar < b.ar)) (v : Value) (E : List (Nat × Obj)) (hR : Row v es.length (fl entL es) 3 127 E) (Bs : Nat) :
    Sp Tryz.prog 29 #[.iface 51 v, .func (.func 44) #[] #[.pointer (some ⟨Bs, 0, none⟩)]] ((Bs, C [v] 51) :: E) (fun u F' => u = .tuple #[] ∧ F' = (Bs, C [v] 51) :: E) := by
  rcases hR with ⟨rfl, h0, h1, rfl⟩ | ⟨b, cap, junk, rfl, h2, h3, h4, rfl⟩
  · intro w hpre hm hn
    have hT := Go.Proofs.Any.sort_Slice_tiny sl6 51 127 sT sE (by kernel_rfl) (by kernel_rfl) (by kernel_rfl) (by kernel_rfl) 25 (fun _ => by kernel_rfl) none 0 0 (by omega) 60 (by rw [sK0]; kernel_rfl) (.func 44) #[] #[.pointer (some ⟨Bs, 0, none⟩)] w
    change Calls Tryz.prog 29 _ _ _ at hT
    refine hT.mono ?_
    rintro e w' ⟨rfl, os, rfl⟩
    have hb : w.heap[Bs]? = some (C [.slice none 0 0] 51) := hm _ _ (List.mem_singleton.2 rfl)
    have hbl : Bs < w.heap.size := (Array.getElem?_eq_some_iff.1 hb).1
    refine ⟨_, ⟨rfl, rfl⟩, ⟨rfl, rfl, rfl, by rw [Go.Sort.size_grow]; omega, fun k hk hD => Go.Sort.heap_grow_old _ _ hk⟩, fun k o m => ?_, hn, fun k o m => ?_⟩
    · rw [List.mem_singleton] at m; cases m
      rw [Go.Sort.heap_grow_old _ _ hbl]; exact hb
    · rw [List.mem_singleton] at m; cases m; exact .inl (by simp)
  · refine sp_post (sp_frame (G := []) (sortE_spec es (by omega) hs b cap Bs junk 51 127) (List.Perm.swap _ _ _)) ?_
    rintro u F' ⟨F2, ⟨rfl, rfl⟩, rfl⟩
    exact ⟨_, [], ⟨rfl, rfl⟩, by simp; exact List.Perm.swap _ _ _⟩
theorem row_rd {p : Option Addr} {n c : Nat} {xs : List Value} {e : TypeId} {E : List (Nat × Obj)} {w : World} (h : Row (.slice p n c) n xs 1 e E) (hm : Mem E w) : Rd p n xs w := by
  rcases h with ⟨h1, rfl, rfl, rfl⟩ | ⟨b, cap, junk, h1, h2, h3, h4, rfl⟩
  · exact .inl ⟨rfl, rfl⟩
  · cases h1
    exact .inr ⟨by omega, b, 0, _, e, _, rfl, hm _ _ (List.mem_singleton.2 rfl), by rw [List.drop_zero, show n = xs.length by omega]; simp⟩
def dL (d : Nat → Nat) (t : Nat) : List Value := le8 (d t : Int)
def vL (x : Int × Int) : List Value := le8 x.2
def pvL (e : En) : List Value := le8 e.pr ++ le8 e.v
def keyL (d : Nat → Nat) (D : List (Int × Int)) (es : List En) : List Value := fl (dL d) (List.range 6) ++ [.int .u8 (D.length : Int)] ++ fl vL D ++ fl pvL es
theorem fl_u8 {α : Type} {f : α → List Value} (h : ∀ x, ∀ v, v ∈ f x → ∃ y : Int, v = .int .u8 y) (l : List α) : ∀ v, v ∈ fl f l → ∃ y : Int, v = .int .u8 y := by
  intro v hv
  unfold fl at hv
  rw [List.mem_flatten] at hv
  obtain ⟨x, hx, hv⟩ := hv
  rw [List.mem_map] at hx
  obtain ⟨z, _, rfl⟩ := hx
  exact h z v hv
theorem keyL_u8 (d : Nat → Nat) (D : List (Int × Int)) (es : List En) : ∀ v, v ∈ keyL d D es → ∃ y : Int, v = .int .u8 y := by
  intro v hv
  unfold keyL at hv
  rw [List.mem_append, List.mem_append, List.mem_append] at hv
  rcases hv with ((q | q) | q) | q
  · exact fl_u8 (fun x => le8_u8 _) _ v q
  · rw [List.mem_singleton] at q; exact ⟨_, q⟩
  · exact fl_u8 (fun x => le8_u8 _) _ v q
  · exact fl_u8 (fun x v hv => by rcases List.mem_append.1 hv with z | z; exact le8_u8 _ v z; exact le8_u8 _ v z) _ v q
structure KSt where
  i : Nat
  bv : Value
  E : List (Nat × Obj)
theorem fl_take1 {α : Type} {f : α → List Value} {l : List α} {i : Nat} {x : α} (h : l[i]? = some x) : fl f (l.take (i + 1)) = fl f (l.take i) ++ f x := by
  obtain ⟨hi, rfl⟩ := List.getElem?_eq_some_iff.1 h
  rw [List.take_succ_eq_append_getElem hi, fl_append]
  simp [fl]
theorem fl_range1 {f : Nat → List Value} (i : Nat) : fl f (List.range (i + 1)) = fl f (List.range i) ++ f i := by
  rw [List.range_succ, fl_append]; simp [fl]
theorem rowD0 (d : Nat → Nat) : Row (.slice none 0 0) (0 * 8) (fl (dL d) (List.range 0)) 1 5 [] := Row.nil _ _
theorem rowD1 {d : Nat → Nat} {D : List (Int × Int)} {v : Value} {E : List (Nat × Obj)} {x : Value} (h : Row v (6 * 8 + 1) (fl (dL d) (List.range 6) ++ [x]) 1 5 E) : Row v (49 + 0 * 8) (fl (dL d) (List.range 6) ++ [x] ++ fl vL (D.take 0)) 1 5 E := by
  rw [List.take_zero, show fl vL [] = [] from rfl, List.append_nil]; exact h
theorem rowD2 {X : List Value} {n : Nat} {es : List En} {v : Value} {E : List (Nat × Obj)} (h : Row v (49 + n * 8) X 1 5 E) : Row v (49 + n * 8 + 0 * 16) (X ++ fl pvL (es.take 0)) 1 5 E := by
  rw [List.take_zero, show fl pvL [] = [] from rfl, List.append_nil, Nat.zero_mul, Nat.add_zero]; exact h
theorem rowD3 {X : List Value} {n i : Nat} {xp xv : Int} {xa : Nat} {v : Value} {E : List (Nat × Obj)} (h : Row v (n + i * 16 + 8 + 8) (X ++ le8 xp ++ le8 xv) 1 5 E) : Row v (n + (i + 1) * 16) (X ++ pvL ⟨xp, xa, xv⟩) 1 5 E := by
  rw [show n + (i + 1) * 16 = n + i * 16 + 8 + 8 by omega]
  unfold pvL
  rw [← List.append_assoc]; exact h
theorem keeps_skp {B F E G : List (Nat × Obj)} (h : Keeps F E G) : Keeps (B ++ F) E (B ++ G) := ⟨by
  refine (List.Perm.append_left B h.perm).trans ?_
  rw [← List.append_assoc, ← List.append_assoc]
  exact List.Perm.append_right G List.perm_append_comm⟩
theorem keyL_u8' (d : Nat → Nat) (D : List (Int × Int)) (es : List En) : ∀ v, v ∈ fl (dL d) (List.range 6) ++ [.int .u8 (D.length : Int)] ++ fl vL D ++ fl pvL es → ∃ y : Int, v = .int .u8 y := keyL_u8 d D es


attribute [local irreducible] fl le8 keyL

set_option maxHeartbeats 4000000 in
theorem key_spec (d : Nat → Nat) (hd : ∀ t, t < 6 → d t ≤ 2000000) (D : List (Int × Int)) (hD : D.length ≤ 8) (Z : List (Nat × Obj)) (p1 : Option Addr) (c1 : Nat) (hv1 : VwZ 1 (.slice p1 D.length c1) D.length (fl u64c D) Z) (es : List En) (h8 : es.length ≤ 8) (hs : es.Pairwise (fun a b => a.ar < b.ar)) (p2 : Option Addr) (c2 : Nat) (hv2 : VwZ 3 (.slice p2 es.length c2) es.length (fl entL es) Z) (arv : Int) : SpK Tryz.prog 28 #[.agg ⟨arrL 6 (fun t => .int .i64 ((d t : Nat) : Int))⟩, .agg ⟨[.slice p1 D.length c1, .slice p2 es.length c2, .int .i64 arv]⟩] (Mem Z) [] (fun v F' => v = .string (bstr (keyL d D es)) ∧ F' = []) := by
  refine f_enter (args := [.agg ⟨arrL 6 (fun t => .int .i64 ((d t : Nat) : Int))⟩, .agg ⟨[.slice p1 D.length c1, .slice p2 es.length c2, .int .i64 arv]⟩]) Tryz.func28 rfl Tryz.ntmps28 rfl ?_
  intro w0 w a hpre hl hh
  simp only [slotsFrom, Nat.reduceAdd] at hl
  refine c_seq ?_
  refine c_region ?_
  refine wl (w_box hl hh rfl trivial rfl rfl ?_)
  clear hl hh a w; intro k2 a w hl hh
  refine wl (w_box hl hh rfl trivial rfl rfl ?_)
  clear hl hh a w; intro k3 a w hl hh
  refine wl (wl_val hl rfl trivial (r_assign hl rfl) ?_)
  clear hl a; intro a hl
  refine w_nil ?_
  have hl2 := hl.add (t := 2) (hl.add (t := 3) (hl.nil) rfl) rfl; clear hl; have hl := hl2; clear hl2
  refine then_normal ?_
  refine c_seq ?_
  refine c_region ?_
  refine wl (wl_val hl rfl trivial (r_assign hl rfl) ?_)
  clear hl a; intro a hl
  refine w_nil ?_
  have hl2 := hl.add (t := 2) (hl.add (t := 3) (hl.add (t := 5) (hl.nil) rfl) rfl) rfl; clear hl; have hl := hl2; clear hl2
  refine then_normal ?_
  refine c_seq ?_
  refine c_seq ?_
  refine c_region ?_
  refine wl (w_loadA hl hh rfl trivial agg49 rfl (by repeat (first | exact find_head | apply find_tail)) (by exact take6 _) (by rw [arrL_length]) ?_)
  clear hl a; intro a hl
  refine wl (wl_val hl rfl trivial (r_move hl rfl) ?_)
  clear hl a; intro a hl
  refine w_nil ?_
  have hl2 := hl.add (t := 3) (hl.add (t := 5) (hl.add (t := 13) (hl.add (t := 14) (hl.nil) rfl) rfl) rfl) rfl; clear hl; have hl := hl2; clear hl2
  refine then_normal ?_
  refine wp_block ?_
  obtain ⟨KS0, hKS0, hk⟩ := (hl.add (t := 3) (hl.add (t := 13) (hl.nil) rfl) rfl).name
  obtain ⟨HS0, hHS0, hh2⟩ := hh.nameT (A := []) (U := ([] : List (Nat × Obj))) (keeps_nil)
  refine c_loop (α := KSt) (fun s => 6 - s.i) (fun s a w => (s.i ≤ 6 ∧ Row s.bv (s.i * 8) (fl (dL d) (List.range s.i)) 1 5 s.E) ∧ Sl 69 ([(14, .int .i64 (s.i : Int)), (5, s.bv)] ++ KS0) a ∧ Has _ w0 ([] ++ (HS0 ++ s.E)) w) ⟨0, .slice none 0 0, []⟩ ⟨⟨Nat.zero_le _, rowD0 d⟩, hl.addE (t := 14) (hl.addE (t := 5) (hk) rfl (by first | rfl)) rfl (by first | rfl), hh2⟩ ?_
  clear hk hh2 hl hh a w
  intro s a w hI
  obtain ⟨⟨hi, hR⟩, hl, hh⟩ := hI
  subst hKS0; subst hHS0
  simp only [List.cons_append, List.nil_append, List.append_nil] at hl hh
  obtain ⟨i, bv, E⟩ := s
  simp only at hi hR hl hh
  refine c_seq ?_
  refine c_region ?_
  refine wl (wl_val hl rfl trivial (r_lss hl rfl rfl) ?_)
  clear hl a; intro a hl
  refine w_nil ?_
  have hl2 := hl.add (t := 3) (hl.add (t := 5) (hl.add (t := 13) (hl.add (t := 14) (hl.add (t := 15) (hl.nil) rfl) rfl) rfl) rfl) rfl; clear hl; have hl := hl2; clear hl2
  refine then_normal ?_
  refine c_seq ?_
  refine c_cond hl rfl ?_ ?_
  · intro hc0
    try simp only [decide_eq_true_eq, decide_eq_false_iff_not, Bool.not_eq_true', Bool.not_eq_false', Bool.not_eq_true, Bool.not_eq_false, Bool.and_eq_true, Bool.or_eq_true, Bool.and_eq_false_iff, Bool.or_eq_false_iff, Bool.not_not, ne_eq, Int.not_lt, Int.not_le, Decidable.not_not, beq_iff_eq, bne_iff_ne] at hc0
    have hdi := hd i (by omega)
    refine wp_skip ?_
    refine then_normal ?_
    refine c_seq ?_
    refine wp_block ?_
    refine c_seq ?_
    refine c_region ?_
    refine wl (wl_val hl rfl trivial (r_indexAgg hl rfl rfl arrT49 one3 (by omega) (by omega) (by first | (simp only [Int.reduceToNat]; rfl) | exact toNat_add1 _ | exact toNat_add2 _ _ | exact toNat_emod _ _ | exact Int.toNat_natCast _ | rfl) (by exact (arrL_get (by omega)))) ?_)
    clear hl a; intro a hl
    rw [Nat.mul_one] at hl
    refine wl (wl_val hl rfl trivial (r_assign hl rfl) ?_)
    clear hl a; intro a hl
    refine w_nil ?_
    have hl2 := hl.add (t := 3) (hl.add (t := 5) (hl.add (t := 7) (hl.add (t := 13) (hl.add (t := 14) (hl.nil) rfl) rfl) rfl) rfl) rfl; clear hl; have hl := hl2; clear hl2
    refine then_normal ?_
    refine c_region ?_
    refine wl (wl_val hl rfl trivial (r_load0 hl rfl agg124) ?_)
    clear hl a; intro a hl
    refine wl (wl_val hl rfl trivial (r_move hl rfl) ?_)
    clear hl a; intro a hl
    refine wl (wl_val hl rfl trivial (r_move hl rfl) ?_)
    clear hl a; intro a hl
    first | refine wl (wl_val hl rfl trivial (r_conv hl rfl Tryz.underlying3 Tryz.underlying37 (by simp only [Fits]; omega)) ?_) | refine wl (wl_val hl rfl trivial (r_convW hl rfl Tryz.underlying3 Tryz.underlying37) ?_)
    clear hl a; intro a hl
    refine wl (w_call hl hh rfl trivial rfl cal43 rfl (ap64_spec ((d i : Nat) : Int) bv (i * 8) (by omega) _ E hR) (by repeat (first | exact keeps_nil | apply keeps_cons (by repeat (first | exact find_head | apply find_tail)) (by first  | rfl) | exact keeps_self | exact keeps_left | exact keeps_right | exact keeps_swap | apply keeps_mv)) trivial ?_)
    clear hl hh a w; intro vc Fc a w hR hl hh
    try simp only [List.cons_append, List.nil_append] at hh
    have hR9 := hR
    clear hR
    have hR := hR9
    clear hR9
    replace hh := hh.comm
    try simp only [List.cons_append, List.nil_append] at hh
    refine wl (wl_val hl rfl trivial (r_assign hl rfl) ?_)
    clear hl a; intro a hl
    refine w_nil ?_
    have hl2 := hl.add (t := 3) (hl.add (t := 5) (hl.add (t := 13) (hl.add (t := 14) (hl.nil) rfl) rfl) rfl) rfl; clear hl; have hl := hl2; clear hl2
    refine blk_normal ?_
    refine then_normal ?_
    refine c_region ?_
    first | refine wl (wl_val hl rfl trivial (r_add hl rfl rfl (by simp only [Fits]; omega)) ?_) | refine wl (wl_val hl rfl trivial (r_addW hl rfl rfl) ?_)
    clear hl a; intro a hl
    refine wl (wl_val hl rfl trivial (r_move hl rfl) ?_)
    clear hl a; intro a hl
    refine w_nil ?_
    have hl2 := hl.add (t := 3) (hl.add (t := 5) (hl.add (t := 13) (hl.add (t := 14) (hl.nil) rfl) rfl) rfl) rfl; clear hl; have hl := hl2; clear hl2
    refine then_normal ?_
    refine ⟨⟨i + 1, vc, Fc⟩, (by simp only; omega), ⟨by simp only; omega, by simp only; rw [fl_range1, Nat.succ_mul]; exact hR⟩, hl.addE (t := 14) (hl.addE (t := 5) (hl.addE (t := 3) (hl.addE (t := 13) (hl.nil) rfl (by first | rfl | exact congrArg (Value.int .i64) (i_succ i))) rfl (by first | rfl | exact congrArg (Value.int .i64) (i_succ i))) rfl (by first | rfl | exact congrArg (Value.int .i64) (i_succ i))) rfl (by first | rfl | exact congrArg (Value.int .i64) (i_succ i)), hh.keep (by repeat (first | exact keeps_nil | apply keeps_cons (by repeat (first | exact find_head | apply find_tail)) (by first  | rfl) | exact keeps_self | exact keeps_left | exact keeps_right | exact keeps_swap | apply keeps_mv))⟩
  · intro hc0
    try simp only [decide_eq_true_eq, decide_eq_false_iff_not, Bool.not_eq_true', Bool.not_eq_false', Bool.not_eq_true, Bool.not_eq_false, Bool.and_eq_true, Bool.or_eq_true, Bool.and_eq_false_iff, Bool.or_eq_false_iff, Bool.not_not, ne_eq, Int.not_lt, Int.not_le, Decidable.not_not, beq_iff_eq, bne_iff_ne] at hc0
    have hi6 : i = 6 := by omega
    subst hi6
    refine wp_exit ?_
    refine then_exit ?_
    refine then_exit ?_
    refine blk_exit ?_
    refine then_normal ?_
    refine c_seq ?_
    refine c_region ?_
    refine wl (wl_val hl rfl trivial (r_move hl rfl) ?_)
    clear hl a; intro a hl
    refine wl (wl_val hl rfl trivial (r_field hl rfl fld53_0) ?_)
    clear hl a; intro a hl
    first | refine wl (w_load hl hh rfl trivial one50 rfl (by repeat (first | exact find_head | apply find_tail)) (by first | rfl) ?_) | refine wl (w_loadR hl hh rfl trivial one50 rfl hm (by simp) hq1 ?_)
    clear hl a; intro a hl
    refine wl (wl_val hl rfl trivial (r_lenS hl rfl slc50) ?_)
    clear hl a; intro a hl
    first | refine wl (wl_val hl rfl trivial (r_conv hl rfl Tryz.underlying3 Tryz.underlying5 (by simp only [Fits]; omega)) ?_) | refine wl (wl_val hl rfl trivial (r_convW hl rfl Tryz.underlying3 Tryz.underlying5) ?_)
    clear hl a; intro a hl
    refine wl (w_buildSlice hl hh rfl trivial app122 zero5 rfl rfl rfl rfl rfl (by simp only [fillL, arrPl, List.range_succ, List.range_zero, List.map_cons, List.map_nil, List.map_append, List.nil_append, List.replicate_succ, List.replicate_zero, List.flatten_cons, List.flatten_nil, Nat.zero_mul, Nat.mul_one, Nat.one_mul, Nat.reduceMul, setL, List.getElem?_cons_zero, List.getElem?_cons_succ, Value.cells, List.take_zero, List.take_succ_cons, List.take_nil, List.drop_zero, List.drop_succ_cons, List.drop_nil, List.length_cons, List.length_nil, List.cons_append, List.nil_append, List.append_nil, Nat.zero_add, Nat.add_zero, Nat.reduceAdd, Nat.reduceBEq, Nat.reduceEqDiff, Nat.ble, BEq.rfl, Bool.and_true, Bool.and_self, cond_true, beq_self_eq_true]; rfl) ?_)
    clear hl hh a w; intro k28 a w hl hh
    refine wl (w_append (news := [.int .u8 (D.length : Int)]) hl hh rfl trivial app122 rfl rfl rfl hR (by repeat (first | exact keeps_nil | apply keeps_cons (by repeat (first | exact find_head | apply find_tail)) (by first  | rfl) | exact keeps_self | exact keeps_left | exact keeps_right | exact keeps_swap | apply keeps_mv)) (hh.mem _ _ (Find.mem (by repeat (first | exact find_head | apply find_tail)))) rfl rfl rfl (by omega) (by omega) (by omega) (by decide) ?_)
    clear hl hh a w; intro rv1 E1 a w hR1 hl hh
    have hh3 := hh.comm; clear hh; have hh := hh3; clear hh3
    simp only [List.cons_append, List.nil_append] at hh
    refine wl (wl_val hl rfl trivial (r_assign hl rfl) ?_)
    clear hl a; intro a hl
    refine w_nil ?_
    have hl2 := hl.add (t := 3) (hl.add (t := 5) (hl.nil) rfl) rfl; clear hl; have hl := hl2; clear hl2
    refine then_normal ?_
    refine c_seq ?_
    refine c_seq ?_
    refine c_region ?_
    refine wl (wl_val hl rfl trivial (r_field hl rfl fld53_0) ?_)
    clear hl a; intro a hl
    first | refine wl (w_load hl hh rfl trivial one50 rfl (by repeat (first | exact find_head | apply find_tail)) (by first | rfl) ?_) | refine wl (w_loadR hl hh rfl trivial one50 rfl hm (by simp) hq1 ?_)
    clear hl a; intro a hl
    refine wl (wl_val hl rfl trivial (r_lenS hl rfl slc50) ?_)
    clear hl a; intro a hl
    refine wl (wl_val hl rfl trivial (r_move hl rfl) ?_)
    clear hl a; intro a hl
    refine w_nil ?_
    have hl2 := hl.add (t := 3) (hl.add (t := 5) (hl.add (t := 31) (hl.add (t := 32) (hl.add (t := 33) (hl.nil) rfl) rfl) rfl) rfl) rfl; clear hl; have hl := hl2; clear hl2
    refine then_normal ?_
    refine wp_block ?_
    obtain ⟨KS1, hKS1, hk⟩ := (hl.add (t := 3) (hl.add (t := 31) (hl.add (t := 32) (hl.nil) rfl) rfl) rfl).name
    obtain ⟨HS1, hHS1, hh2⟩ := hh.nameT (A := []) (U := E1) ((by repeat (first | exact keeps_nil | exact keeps_self | exact keeps_swap | apply keeps_mv)))
    refine c_loop (α := KSt) (fun s => D.length - s.i) (fun s a w => (s.i ≤ D.length ∧ Row s.bv (49 + s.i * 8) (fl (dL d) (List.range 6) ++ [.int .u8 (D.length : Int)] ++ fl vL (D.take s.i)) 1 5 s.E) ∧ Sl 69 ([(33, .int .i64 (s.i : Int)), (5, s.bv)] ++ KS1) a ∧ Has _ w0 ([] ++ (HS1 ++ s.E)) w) ⟨0, rv1, E1⟩ ⟨⟨Nat.zero_le _, rowD1 hR1⟩, hl.addE (t := 33) (hl.addE (t := 5) (hk) rfl (by first | rfl)) rfl (by first | rfl), hh2⟩ ?_
    clear hk hh2 hl hh a w
    intro s a w hI
    obtain ⟨⟨hi, hR⟩, hl, hh⟩ := hI
    subst hKS1; subst hHS1
    simp only [List.cons_append, List.nil_append, List.append_nil] at hl hh
    obtain ⟨i, bv, E⟩ := s
    simp only at hi hR hl hh
    refine c_seq ?_
    refine c_region ?_
    refine wl (wl_val hl rfl trivial (r_lss hl rfl rfl) ?_)
    clear hl a; intro a hl
    refine w_nil ?_
    have hl2 := hl.add (t := 3) (hl.add (t := 5) (hl.add (t := 31) (hl.add (t := 32) (hl.add (t := 33) (hl.add (t := 34) (hl.nil) rfl) rfl) rfl) rfl) rfl) rfl; clear hl; have hl := hl2; clear hl2
    refine then_normal ?_
    refine c_seq ?_
    refine c_cond hl rfl ?_ ?_
    · intro hc1
      try simp only [decide_eq_true_eq, decide_eq_false_iff_not, Bool.not_eq_true', Bool.not_eq_false', Bool.not_eq_true, Bool.not_eq_false, Bool.and_eq_true, Bool.or_eq_true, Bool.and_eq_false_iff, Bool.or_eq_false_iff, Bool.not_not, ne_eq, Int.not_lt, Int.not_le, Decidable.not_not, beq_iff_eq, bne_iff_ne] at hc1
      obtain ⟨x, hx⟩ : ∃ x, D[i]? = some x := ⟨_, List.getElem?_eq_getElem (by omega)⟩
      obtain ⟨b9, o9, c9, l9, T9, e9, h3, h4, h5, _⟩ := hv1.blk (by omega)
      cases e9
      have hm : w0.heap[b9]? = some (C l9 T9) := hpre _ _ h4
      have hq1 := u64_at h5 hx
      refine wp_skip ?_
      refine then_normal ?_
      refine c_seq ?_
      refine wp_block ?_
      refine c_seq ?_
      refine c_region ?_
      refine wl (wl_val hl rfl trivial (r_indexS hl rfl rfl slc50 (by omega) (by omega) (by first | (simp only [Int.reduceToNat]; rfl) | exact toNat_add1 _ | exact toNat_add2 _ _ | exact toNat_emod _ _ | exact Int.toNat_natCast _ | rfl)) ?_)
      clear hl a; intro a hl
      first | refine wl (w_load hl hh rfl trivial one37 rfl (by repeat (first | exact find_head | apply find_tail)) (by first | rfl) ?_) | refine wl (w_loadR hl hh rfl trivial one37 rfl hm (by simp) hq1 ?_)
      clear hl a; intro a hl
      refine wl (wl_val hl rfl trivial (r_assign hl rfl) ?_)
      clear hl a; intro a hl
      refine w_nil ?_
      have hl2 := hl.add (t := 3) (hl.add (t := 5) (hl.add (t := 9) (hl.add (t := 31) (hl.add (t := 32) (hl.add (t := 33) (hl.nil) rfl) rfl) rfl) rfl) rfl) rfl; clear hl; have hl := hl2; clear hl2
      refine then_normal ?_
      refine c_region ?_
      refine wl (wl_val hl rfl trivial (r_load0 hl rfl agg124) ?_)
      clear hl a; intro a hl
      refine wl (wl_val hl rfl trivial (r_move hl rfl) ?_)
      clear hl a; intro a hl
      refine wl (wl_val hl rfl trivial (r_move hl rfl) ?_)
      clear hl a; intro a hl
      refine wl (w_call hl hh rfl trivial rfl cal43 rfl (ap64_spec x.2 bv (49 + i * 8) (by omega) _ E hR) (by repeat (first | exact keeps_nil | apply keeps_cons (by repeat (first | exact find_head | apply find_tail)) (by first  | rfl) | exact keeps_self | exact keeps_left | exact keeps_right | exact keeps_swap | apply keeps_mv)) trivial ?_)
      clear hl hh a w; intro vc Fc a w hR hl hh
      try simp only [List.cons_append, List.nil_append] at hh
      have hR9 := hR
      clear hR
      have hR := hR9
      clear hR9
      replace hh := hh.comm
      try simp only [List.cons_append, List.nil_append] at hh
      refine wl (wl_val hl rfl trivial (r_assign hl rfl) ?_)
      clear hl a; intro a hl
      refine w_nil ?_
      have hl2 := hl.add (t := 3) (hl.add (t := 5) (hl.add (t := 31) (hl.add (t := 32) (hl.add (t := 33) (hl.nil) rfl) rfl) rfl) rfl) rfl; clear hl; have hl := hl2; clear hl2
      refine blk_normal ?_
      refine then_normal ?_
      refine c_region ?_
      first | refine wl (wl_val hl rfl trivial (r_add hl rfl rfl (by simp only [Fits]; omega)) ?_) | refine wl (wl_val hl rfl trivial (r_addW hl rfl rfl) ?_)
      clear hl a; intro a hl
      refine wl (wl_val hl rfl trivial (r_move hl rfl) ?_)
      clear hl a; intro a hl
      refine w_nil ?_
      have hl2 := hl.add (t := 3) (hl.add (t := 5) (hl.add (t := 31) (hl.add (t := 32) (hl.add (t := 33) (hl.nil) rfl) rfl) rfl) rfl) rfl; clear hl; have hl := hl2; clear hl2
      refine then_normal ?_
      refine ⟨⟨i + 1, vc, Fc⟩, (by simp only; omega), ⟨by simp only; omega, by simp only; rw [fl_take1 hx, Nat.succ_mul, ← List.append_assoc]; exact hR⟩, hl.addE (t := 33) (hl.addE (t := 5) (hl.addE (t := 3) (hl.addE (t := 31) (hl.addE (t := 32) (hl.nil) rfl (by first | rfl | exact congrArg (Value.int .i64) (i_succ i))) rfl (by first | rfl | exact congrArg (Value.int .i64) (i_succ i))) rfl (by first | rfl | exact congrArg (Value.int .i64) (i_succ i))) rfl (by first | rfl | exact congrArg (Value.int .i64) (i_succ i))) rfl (by first | rfl | exact congrArg (Value.int .i64) (i_succ i)), hh.keep (by repeat (first | exact keeps_nil | apply keeps_cons (by repeat (first | exact find_head | apply find_tail)) (by first  | rfl) | exact keeps_self | exact keeps_left | exact keeps_right | exact keeps_swap | apply keeps_mv))⟩
    · intro hc1
      try simp only [decide_eq_true_eq, decide_eq_false_iff_not, Bool.not_eq_true', Bool.not_eq_false', Bool.not_eq_true, Bool.not_eq_false, Bool.and_eq_true, Bool.or_eq_true, Bool.and_eq_false_iff, Bool.or_eq_false_iff, Bool.not_not, ne_eq, Int.not_lt, Int.not_le, Decidable.not_not, beq_iff_eq, bne_iff_ne] at hc1
      have hid : i = D.length := by omega
      subst hid
      rw [List.take_length] at hR
      refine wp_exit ?_
      refine then_exit ?_
      refine then_exit ?_
      refine blk_exit ?_
      refine then_normal ?_
      refine c_seq ?_
      refine c_region ?_
      refine wl (w_buildSlice0 hl hh rfl trivial app51 ?_)
      clear hl hh a w; intro k42 a w hl hh
      refine wl (wl_val hl rfl trivial (r_field hl rfl fld53_1) ?_)
      clear hl a; intro a hl
      first | refine wl (w_load hl hh rfl trivial one51 rfl (by repeat (first | exact find_head | apply find_tail)) (by first | rfl) ?_) | refine wl (w_loadR hl hh rfl trivial one51 rfl hm (by simp) hq1 ?_)
      clear hl a; intro a hl
      refine wl (w_appendV hl hh rfl trivial app51 rfl rfl rfl (row0 k42 3 127) (by repeat (first | exact keeps_nil | apply keeps_cons (by repeat (first | exact find_head | apply find_tail)) (by first  | rfl) | exact keeps_self | exact keeps_left | exact keeps_right | exact keeps_swap | apply keeps_mv)) hv2 (mem_keep hh hpre) (fl_all entL_one _) (by simp only [Nat.zero_add]; omega) (by omega) (by decide) ?_)
      clear hl hh a w; intro rv2 E2 a w hR2 hl hh
      have hh3 := hh.comm; clear hh; have hh := hh3; clear hh3
      simp only [List.cons_append, List.nil_append] at hh
      rw [Nat.zero_add, List.nil_append] at hR2
      obtain ⟨p7, c7, rfl⟩ := row_val hR2
      refine wl (w_alloc hl hh rfl trivial zero51 rfl ?_)
      clear hl hh a w; intro k10 a w hl hh
      refine wl (w_store hl hh trivial one51 rfl rfl (by repeat (first | exact find_head | apply find_tail)) (by first | (simp; done) | (simp; omega)) (by first | rfl | assumption | (apply Row.one; assumption)) (by first | (simp only [setL, List.getElem?_cons_zero, List.getElem?_cons_succ, Value.cells, List.take_zero, List.take_succ_cons, List.take_nil, List.drop_zero, List.drop_succ_cons, List.drop_nil, List.length_cons, List.length_nil, List.cons_append, List.nil_append, List.append_nil, Nat.zero_add, Nat.add_zero, Nat.reduceAdd, Nat.reduceBEq, Nat.reduceEqDiff, Nat.ble, BEq.rfl, Bool.and_true, Bool.and_self, cond_true, beq_self_eq_true]; rfl)) ?_)
      clear hh w; intro w hh
      refine w_nil ?_
      have hl2 := hl.add (t := 5) (hl.add (t := 10) (hl.nil) rfl) rfl; clear hl; have hl := hl2; clear hl2
      refine then_normal ?_
      refine c_seq ?_
      refine c_region ?_
      first | refine wl (w_load hl hh rfl trivial one51 rfl (by repeat (first | exact find_head | apply find_tail)) (by first | rfl) ?_) | refine wl (w_loadR hl hh rfl trivial one51 rfl hm (by simp) hq1 ?_)
      clear hl a; intro a hl
      refine wl (wl_val hl rfl trivial (r_makeInterface hl rfl conc51) ?_)
      clear hl a; intro a hl
      refine wl (wl_val hl rfl trivial (r_makeFunc hl rfl) ?_)
      clear hl a; intro a hl
      refine wl (w_call hl hh rfl trivial rfl cal29 rfl (sortE_row es h8 hs _ E2 hR2 k10) (by repeat (first | exact keeps_nil | apply keeps_cons (by repeat (first | exact find_head | apply find_tail)) (by first  | rfl) | exact keeps_self | exact keeps_left | exact keeps_right | exact keeps_swap | apply keeps_mv)) trivial ?_)
      clear hl hh a w; intro vc Fc a w hR hl hh
      obtain ⟨rfl, rfl⟩ := hR
      try simp only [List.cons_append, List.nil_append] at hh
      try simp only [List.cons_append, List.nil_append] at hh
      refine w_nil ?_
      have hl2 := hl.add (t := 5) (hl.add (t := 10) (hl.nil) rfl) rfl; clear hl; have hl := hl2; clear hl2
      refine then_normal ?_
      refine c_seq ?_
      refine c_seq ?_
      refine c_region ?_
      first | refine wl (w_load hl hh rfl trivial one51 rfl (by repeat (first | exact find_head | apply find_tail)) (by first | rfl) ?_) | refine wl (w_loadR hl hh rfl trivial one51 rfl hm (by simp) hq1 ?_)
      clear hl a; intro a hl
      refine wl (wl_val hl rfl trivial (r_lenS hl rfl slc51) ?_)
      clear hl a; intro a hl
      refine wl (wl_val hl rfl trivial (r_move hl rfl) ?_)
      clear hl a; intro a hl
      refine w_nil ?_
      have hl2 := hl.add (t := 5) (hl.add (t := 50) (hl.add (t := 51) (hl.add (t := 52) (hl.nil) rfl) rfl) rfl) rfl; clear hl; have hl := hl2; clear hl2
      refine then_normal ?_
      refine wp_block ?_
      obtain ⟨KS2, hKS2, hk⟩ := (hl.add (t := 50) (hl.add (t := 51) (hl.nil) rfl) rfl).name
      obtain ⟨HS2, hHS2, hh2⟩ := hh.nameT (A := []) (U := E) ((by repeat (first | exact keeps_self | apply keeps_mv | apply keeps_skp)))
      refine c_loop (α := KSt) (fun s => es.length - s.i) (fun s a w => (s.i ≤ es.length ∧ Row s.bv (49 + D.length * 8 + s.i * 16) (fl (dL d) (List.range 6) ++ [.int .u8 (D.length : Int)] ++ fl vL D ++ fl pvL (es.take s.i)) 1 5 s.E) ∧ Sl 69 ([(52, .int .i64 (s.i : Int)), (5, s.bv)] ++ KS2) a ∧ Has _ w0 ([] ++ (HS2 ++ s.E)) w) ⟨0, bv, E⟩ ⟨⟨Nat.zero_le _, rowD2 hR⟩, hl.addE (t := 52) (hl.addE (t := 5) (hk) rfl (by first | rfl)) rfl (by first | rfl), hh2⟩ ?_
      clear hk hh2 hl hh a w hR
      intro s a w hI
      obtain ⟨⟨hi, hR⟩, hl, hh⟩ := hI
      subst hKS2; subst hHS2
      simp only [List.cons_append, List.nil_append, List.append_nil] at hl hh
      clear bv E
      obtain ⟨i, bv, E⟩ := s
      simp only at hi hR hl hh
      refine c_seq ?_
      refine c_region ?_
      refine wl (wl_val hl rfl trivial (r_lss hl rfl rfl) ?_)
      clear hl a; intro a hl
      refine w_nil ?_
      have hl2 := hl.add (t := 5) (hl.add (t := 50) (hl.add (t := 51) (hl.add (t := 52) (hl.add (t := 53) (hl.nil) rfl) rfl) rfl) rfl) rfl; clear hl; have hl := hl2; clear hl2
      refine then_normal ?_
      refine c_seq ?_
      refine c_cond hl rfl ?_ ?_
      · intro hc2
        try simp only [decide_eq_true_eq, decide_eq_false_iff_not, Bool.not_eq_true', Bool.not_eq_false', Bool.not_eq_true, Bool.not_eq_false, Bool.and_eq_true, Bool.or_eq_true, Bool.and_eq_false_iff, Bool.or_eq_false_iff, Bool.not_not, ne_eq, Int.not_lt, Int.not_le, Decidable.not_not, beq_iff_eq, bne_iff_ne] at hc2
        obtain ⟨x, hx⟩ : ∃ x, es[i]? = some x := ⟨_, List.getElem?_eq_getElem (by omega)⟩
        obtain ⟨b8, junk, rfl, hjl, hcc, rfl⟩ := row_pos hR2 (by omega)
        have hq2 := fl_at entL_len hx junk
        obtain ⟨xp, xa, xv⟩ := x
        simp only [entL] at hq2
        simp only [List.cons_append, List.nil_append] at hh
        refine wp_skip ?_
        refine then_normal ?_
        refine c_seq ?_
        refine wp_block ?_
        refine c_seq ?_
        refine c_region ?_
        refine wl (wl_val hl rfl trivial (r_indexS hl rfl rfl slc51 (by omega) (by omega) (by first | (simp only [Int.reduceToNat]; rfl) | exact toNat_add1 _ | exact toNat_add2 _ _ | exact toNat_emod _ _ | exact Int.toNat_natCast _ | rfl)) ?_)
        clear hl a; intro a hl
        refine wl (w_loadA hl hh rfl trivial agg127 rfl (by repeat (first | exact find_head | apply find_tail)) (by first | exact hq2 | (simp only [List.getElem?_cons_zero, List.getElem?_cons_succ, Value.cells, List.take_zero, List.take_succ_cons, List.take_nil, List.drop_zero, List.drop_succ_cons, List.drop_nil, List.length_cons, List.length_nil, List.cons_append, List.nil_append, List.append_nil, Nat.zero_add, Nat.add_zero, Nat.reduceAdd, Nat.reduceBEq, Nat.reduceEqDiff, Nat.ble, BEq.rfl, Bool.and_true, Bool.and_self, cond_true, beq_self_eq_true]; rfl)) (by first | rfl | (simp; done)) ?_)
        clear hl a; intro a hl
        refine wl (w_alloc hl hh rfl trivial zero127 rfl ?_)
        clear hl hh a w; intro k12 a w hl hh
        refine wl (w_storeA hl hh trivial agg127 rfl rfl (by repeat (first | exact find_head | apply find_tail)) (by first | rfl | (simp; done) | exact hq2) (by first | (simp; done) | (simp; omega)) (by first | rfl | (simp; done)) (by first | (simp only [setL, List.getElem?_cons_zero, List.getElem?_cons_succ, Value.cells, List.take_zero, List.take_succ_cons, List.take_nil, List.drop_zero, List.drop_succ_cons, List.drop_nil, List.length_cons, List.length_nil, List.cons_append, List.nil_append, List.append_nil, Nat.zero_add, Nat.add_zero, Nat.reduceAdd, Nat.reduceBEq, Nat.reduceEqDiff, Nat.ble, BEq.rfl, Bool.and_true, Bool.and_self, cond_true, beq_self_eq_true]; rfl)) ?_)
        clear hh w; intro w hh
        refine w_nil ?_
        have hl2 := hl.add (t := 5) (hl.add (t := 12) (hl.add (t := 50) (hl.add (t := 51) (hl.add (t := 52) (hl.nil) rfl) rfl) rfl) rfl) rfl; clear hl; have hl := hl2; clear hl2
        refine then_normal ?_
        refine c_seq ?_
        refine c_region ?_
        refine wl (wl_val hl rfl trivial (r_load0 hl rfl agg124) ?_)
        clear hl a; intro a hl
        refine wl (wl_val hl rfl trivial (r_move hl rfl) ?_)
        clear hl a; intro a hl
        refine wl (wl_val hl rfl trivial (r_field hl rfl fld127_0) ?_)
        clear hl a; intro a hl
        first | refine wl (w_load hl hh rfl trivial one37 rfl (by repeat (first | exact find_head | apply find_tail)) (by first | rfl) ?_) | refine wl (w_loadR hl hh rfl trivial one37 rfl hm (by simp) hq1 ?_)
        clear hl a; intro a hl
        refine wl (w_call hl hh rfl trivial rfl cal43 rfl (ap64_spec xp bv (49 + D.length * 8 + i * 16) (by omega) _ E hR) (by repeat (first | exact keeps_nil | apply keeps_cons (by repeat (first | exact find_head | apply find_tail)) (by first  | rfl) | exact keeps_self | exact keeps_left | exact keeps_right | exact keeps_swap | apply keeps_mv)) trivial ?_)
        clear hl hh a w; intro vc Fc a w hR hl hh
        try simp only [List.cons_append, List.nil_append] at hh
        have hR9 := hR
        clear hR
        have hR := hR9
        clear hR9
        replace hh := hh.comm
        try simp only [List.cons_append, List.nil_append] at hh
        generalize vc = vc1 at hR hl
        generalize Fc = Fc1 at hR hh
        refine wl (wl_val hl rfl trivial (r_assign hl rfl) ?_)
        clear hl a; intro a hl
        refine w_nil ?_
        have hl2 := hl.add (t := 5) (hl.add (t := 12) (hl.add (t := 50) (hl.add (t := 51) (hl.add (t := 52) (hl.nil) rfl) rfl) rfl) rfl) rfl; clear hl; have hl := hl2; clear hl2
        refine then_normal ?_
        refine c_region ?_
        refine wl (wl_val hl rfl trivial (r_load0 hl rfl agg124) ?_)
        clear hl a; intro a hl
        refine wl (wl_val hl rfl trivial (r_move hl rfl) ?_)
        clear hl a; intro a hl
        refine wl (wl_val hl rfl trivial (r_field hl rfl fld127_2) ?_)
        clear hl a; intro a hl
        first | refine wl (w_load hl hh rfl trivial one37 rfl (by repeat (first | exact find_head | apply find_tail)) (by first | rfl) ?_) | refine wl (w_loadR hl hh rfl trivial one37 rfl hm (by simp) hq1 ?_)
        clear hl a; intro a hl
        refine wl (w_call hl hh rfl trivial rfl cal43 rfl (ap64_spec xv vc1 (49 + D.length * 8 + i * 16 + 8) (by omega) _ Fc1 hR) (by repeat (first | exact keeps_nil | apply keeps_cons (by repeat (first | exact find_head | apply find_tail)) (by first  | rfl) | exact keeps_self | exact keeps_left | exact keeps_right | exact keeps_swap | apply keeps_mv)) trivial ?_)
        clear hl hh a w; intro vc Fc a w hR hl hh
        try simp only [List.cons_append, List.nil_append] at hh
        have hR9 := hR
        clear hR
        have hR := hR9
        clear hR9
        replace hh := hh.comm
        try simp only [List.cons_append, List.nil_append] at hh
        refine wl (wl_val hl rfl trivial (r_assign hl rfl) ?_)
        clear hl a; intro a hl
        refine w_nil ?_
        have hl2 := hl.add (t := 5) (hl.add (t := 50) (hl.add (t := 51) (hl.add (t := 52) (hl.nil) rfl) rfl) rfl) rfl; clear hl; have hl := hl2; clear hl2
        refine blk_normal ?_
        refine then_normal ?_
        refine c_region ?_
        first | refine wl (wl_val hl rfl trivial (r_add hl rfl rfl (by simp only [Fits]; omega)) ?_) | refine wl (wl_val hl rfl trivial (r_addW hl rfl rfl) ?_)
        clear hl a; intro a hl
        refine wl (wl_val hl rfl trivial (r_move hl rfl) ?_)
        clear hl a; intro a hl
        refine w_nil ?_
        have hl2 := hl.add (t := 5) (hl.add (t := 50) (hl.add (t := 51) (hl.add (t := 52) (hl.nil) rfl) rfl) rfl) rfl; clear hl; have hl := hl2; clear hl2
        refine then_normal ?_
        refine ⟨⟨i + 1, vc, Fc⟩, (by simp only; omega), ⟨by simp only; omega, by simp only; rw [fl_take1 hx, ← List.append_assoc]; exact rowD3 hR⟩, hl.addE (t := 52) (hl.addE (t := 5) (hl.addE (t := 50) (hl.addE (t := 51) (hl.nil) rfl (by first | rfl | exact congrArg (Value.int .i64) (i_succ i))) rfl (by first | rfl | exact congrArg (Value.int .i64) (i_succ i))) rfl (by first | rfl | exact congrArg (Value.int .i64) (i_succ i))) rfl (by first | rfl | exact congrArg (Value.int .i64) (i_succ i)), hh.keep (by repeat (first | exact keeps_nil | apply keeps_cons (by repeat (first | exact find_head | apply find_tail)) (by first  | rfl) | exact keeps_self | exact keeps_left | exact keeps_right | exact keeps_swap | apply keeps_mv))⟩
      · intro hc2
        try simp only [decide_eq_true_eq, decide_eq_false_iff_not, Bool.not_eq_true', Bool.not_eq_false', Bool.not_eq_true, Bool.not_eq_false, Bool.and_eq_true, Bool.or_eq_true, Bool.and_eq_false_iff, Bool.or_eq_false_iff, Bool.not_not, ne_eq, Int.not_lt, Int.not_le, Decidable.not_not, beq_iff_eq, bne_iff_ne] at hc2
        have hid : i = es.length := by omega
        subst hid
        rw [List.take_length] at hR
        obtain ⟨p8, c8, rfl⟩ := row_val hR
        refine wp_exit ?_
        refine then_exit ?_
        refine then_exit ?_
        refine blk_exit ?_
        refine then_normal ?_
        refine c_seq ?_
        refine c_region ?_
        refine wl (wl_val hl rfl trivial (r_move hl rfl) ?_)
        clear hl a; intro a hl
        refine wl (wl_val hl rfl trivial (r_bytesToString hl Tryz.underlying122 Tryz.underlying9 Tryz.underlying5 rfl (row_rd hR (fun b o m => hh.mem b o (by simp [m]))) (keyL_u8' d D es)) ?_)
        clear hl a; intro a hl
        refine wl (wl_val hl rfl trivial (r_assign hl rfl) ?_)
        clear hl a; intro a hl
        refine w_nil ?_
        have hl2 := hl.add (t := 4) (hl.nil) rfl; clear hl; have hl := hl2; clear hl2
        refine then_normal ?_
        refine wp_ret ?_
        refine f_ret1 (F' := []) hl hh rfl rfl (by repeat (first | exact keeps_nil | apply keeps_cons (by repeat (first | exact find_head | apply find_tail)) (by first  | rfl) | exact keeps_self | exact keeps_left | exact keeps_right | exact keeps_swap | apply keeps_mv)) ?_
        exact ⟨by unfold keyL; rfl, rfl⟩
end Go.Proofs.Qxb6500914aGreat

import Derived.Test.Qxb6500915aGreatDoorA2
namespace Go.Proofs.Qxb6500915aGreatDoor
open Go.Eng
set_option linter.unusedVariables false
set_option linter.unusedSimpArgs false
theorem cal82 : callable Tryz.prog 82 = true := by kernel_rfl
theorem zero54 : zeroOk Tryz.prog 54 (.agg #[(.int .u8 0), (.int .i64 0), (.int .i64 0), (.string ⟨#[]⟩)]) := by unfold zeroOk; kernel_rfl
theorem one58 : oneOk Tryz.prog 58 = true := by kernel_rfl
theorem cal48 : callable Tryz.prog 48 = true := by kernel_rfl
theorem lvars_take {r : RV} (i : Nat) : (r.ls.map LV.l).take i = (r.ls.take i).map LV.l := by rw [List.map_take]
/-- arguments that may lie in whatever blocks -/
structure AgG (v : Value) (ts : List Tm) (Z : List (Nat × Obj)) : Prop where
  vw : VwG 4 v ts.length (fl tmc ts) Z
  len : ts.length ≤ 65536
  ok : ∀ t, t ∈ ts → t.ok
theorem Ags.g {v : Value} {ts : List Tm} {E : List (Nat × Obj)} (h : Ags v ts E) : AgG v ts E := ⟨.of h.row, h.len, h.ok⟩
theorem ags_nil : Ags (.slice none 0 0) [] [] := ⟨Row.nil _ _, by simp, fun t h => by cases h⟩
theorem buildN_row {k : Nat} : Row (.slice (some ⟨k, 0, none⟩) 0 0) 0 [] 4 54 [(k, C [] 54)] := .inr ⟨k, 0, [], rfl, rfl, rfl, Nat.le_refl _, rfl⟩
theorem agg_isNone {v : Value} {ts : List Tm} {Z : List (Nat × Obj)} {p : Option Addr} {c : Nat} (h : AgG (.slice p ts.length c) ts Z) (hp : p.isNone = true) : ts = [] := by
  rcases h.vw with ⟨h1, _⟩ | ⟨b, o, c, l, T, fr, h0, h2, _⟩
  · exact List.eq_nil_of_length_eq_zero h1
  · injection h2 with h2 _ _; subst h2; cases hp
structure CL where
  i : Nat
  ls : List LV
  v : Value
  E : List (Nat × Obj)
def CL.T (s : CL) : List (Nat × Obj) := s.E ++ s.ls.flatMap LV.E
theorem apart0 {w0 w : World} {F E A : List (Nat × Obj)} (hh : Has [] w0 F w) (hm : Mem E w0) (hs : ∀ y, y ∈ A → y ∈ F) : ∀ x, x ∈ E → x.1 ∉ A.map Prod.fst := fun x hx h => by
  obtain ⟨y, hy, e⟩ := List.mem_map.1 h
  rcases hh.own y.1 y.2 (hs y hy) with h1 | h1
  · cases h1
  · have := (Array.getElem?_eq_some_iff.1 (hm x.1 x.2 hx)).1
    rw [e] at h1; omega
theorem vars_bd {r : RV} (h : r.ok) (i : Nat) : (lvars (nvs [] r.a) ((r.ls.map LV.l).take i)).length ≤ 65536 + 65536 * 65536 := by
  have h1 := lvars_len (nvs [] r.a) ((r.ls.map LV.l).take i) fun l hl => by
    obtain ⟨x, hx, rfl⟩ := List.mem_map.1 (List.mem_of_mem_take hl)
    exact (h.ls x hx).ags.len
  have h2 := nvs_len [] r.a
  have h3 := h.hd.len; have h4 := h.len
  rw [List.length_take, List.length_map] at h1
  simp only [List.length_nil] at h2
  have h5 : min i r.ls.length * 65536 ≤ 65536 * 65536 := Nat.mul_le_mul_right _ (by omega)
  omega


set_option maxHeartbeats 1000000 in
theorem index_spec (ns : List Int) (p : Option Addr) (c : Nat) (E : List (Nat × Obj)) (hR : Row (.slice p ns.length c) ns.length (fl iI ns) 1 3 E) (hln : ns.length ≤ 4000000000000) (x : Int) : SpK Tryz.prog 82 #[.slice p ns.length c, .int .i64 x] (Mem E) [] (fun v F' => (∃ k, v = .int .i64 k ∧ (0 ≤ k ↔ x ∈ ns)) ∧ F' = []) := by
  refine f_enter (args := [.slice p ns.length c, .int .i64 x]) Tryz.func82 rfl Tryz.ntmps82 rfl ?_
  intro w0 w a hpre hl hh
  simp only [slotsFrom, Nat.reduceAdd] at hl
  refine c_seq ?_
  refine c_region ?_
  refine wl (wl_val hl rfl trivial (r_assign hl rfl) ?_)
  clear hl a; intro a hl
  refine w_nil ?_
  have hl2 := hl.add (t := 0) (hl.add (t := 1) (hl.nil) rfl) rfl; clear hl; have hl := hl2; clear hl2
  refine then_normal ?_
  refine c_seq ?_
  refine c_seq ?_
  refine c_region ?_
  refine wl (wl_val hl rfl trivial (r_move hl rfl) ?_)
  clear hl a; intro a hl
  refine wl (wl_val hl rfl trivial (r_lenS hl rfl slc58) ?_)
  clear hl a; intro a hl
  refine wl (wl_val hl rfl trivial (r_move hl rfl) ?_)
  clear hl a; intro a hl
  refine w_nil ?_
  have hl2 := hl.add (t := 0) (hl.add (t := 1) (hl.add (t := 7) (hl.add (t := 8) (hl.nil) rfl) rfl) rfl) rfl; clear hl; have hl := hl2; clear hl2
  refine then_normal ?_
  refine wp_block ?_
  obtain ⟨KS0, hKS0, hk⟩ := (hl.add (t := 0) (hl.add (t := 1) (hl.add (t := 7) (hl.nil) rfl) rfl) rfl).name
  obtain ⟨HS0, hHS0, hh2⟩ := hh.name (keeps_nil)
  refine c_loop (α := Nat) (fun i => ns.length - i) (fun i a w => (i ≤ ns.length ∧ ∀ j, j < i → ns[j]? ≠ some x) ∧ Sl 19 ([(8, .int .i64 (i : Int))] ++ KS0) a ∧ Has _ w0 ([] ++ HS0) w) 0 ⟨⟨Nat.zero_le _, fun j h => absurd h (Nat.not_lt_zero _)⟩, hl.addE (t := 8) (hk) rfl (by first | rfl), hh2⟩ ?_
  clear hk hh2 hl hh a w
  intro i a w hI
  obtain ⟨⟨hi, hno⟩, hl, hh⟩ := hI
  subst hKS0; subst hHS0
  simp only [List.cons_append, List.nil_append, List.append_nil] at hl hh
  refine c_seq ?_
  refine c_region ?_
  refine wl (wl_val hl rfl trivial (r_lss hl rfl rfl) ?_)
  clear hl a; intro a hl
  refine w_nil ?_
  have hl2 := hl.add (t := 0) (hl.add (t := 1) (hl.add (t := 7) (hl.add (t := 8) (hl.add (t := 9) (hl.nil) rfl) rfl) rfl) rfl) rfl; clear hl; have hl := hl2; clear hl2
  refine then_normal ?_
  refine c_seq ?_
  refine c_cond hl rfl ?_ ?_
  · intro hc0
    try simp only [decide_eq_true_eq, decide_eq_false_iff_not, Bool.not_eq_true', Bool.not_eq_false', Bool.not_eq_true, Bool.not_eq_false, Bool.and_eq_true, Bool.or_eq_true, Bool.and_eq_false_iff, Bool.or_eq_false_iff, Bool.not_not, ne_eq, Int.not_lt, Int.not_le, Decidable.not_not, beq_iff_eq, bne_iff_ne] at hc0
    obtain ⟨y, hy⟩ : ∃ y, ns[i]? = some y := ⟨_, List.getElem?_eq_getElem (by omega)⟩
    obtain ⟨b1, j1, hq1, rfl, hm1⟩ := row_mem hR (by omega) hpre
    subst hq1
    have hd1 := fl_cell1 (f := iI) (g := .int .i64) (fun _ => rfl) hy j1
    refine wp_skip ?_
    refine then_normal ?_
    refine c_seq ?_
    refine wp_block ?_
    refine c_seq ?_
    refine c_region ?_
    refine wl (wl_val hl rfl trivial (r_move hl rfl) ?_)
    clear hl a; intro a hl
    refine wl (wl_val hl rfl trivial (r_assign hl rfl) ?_)
    clear hl a; intro a hl
    refine w_nil ?_
    have hl2 := hl.add (t := 0) (hl.add (t := 1) (hl.add (t := 5) (hl.add (t := 7) (hl.add (t := 8) (hl.nil) rfl) rfl) rfl) rfl) rfl; clear hl; have hl := hl2; clear hl2
    refine then_normal ?_
    refine c_seq ?_
    refine c_region ?_
    refine wl (wl_val hl rfl trivial (r_move hl rfl) ?_)
    clear hl a; intro a hl
    refine wl (wl_val hl rfl trivial (r_move hl rfl) ?_)
    clear hl a; intro a hl
    refine wl (wl_val hl rfl trivial (r_move hl rfl) ?_)
    clear hl a; intro a hl
    refine wl (wl_val hl rfl trivial (r_indexS hl rfl rfl slc58 (by omega) (by omega) (by first | (simp only [Int.reduceToNat]; rfl) | exact toNat_add1 _ | exact toNat_add2 _ _ | exact toNat_emod _ _ | exact Int.toNat_natCast _ | rfl)) ?_)
    clear hl a; intro a hl
    first | refine wl (w_load hl hh rfl trivial one3 rfl (by repeat (first | exact find_head | apply find_tail)) (by first | rfl) ?_) | refine wl (w_loadR hl hh rfl trivial one3 rfl hm1 (by simp) hd1 ?_)
    clear hl a; intro a hl
    refine wl (wl_val hl rfl trivial (r_eql hl rfl rfl) ?_)
    clear hl a; intro a hl
    refine w_nil ?_
    have hl2 := hl.add (t := 0) (hl.add (t := 1) (hl.add (t := 5) (hl.add (t := 7) (hl.add (t := 8) (hl.add (t := 16) (hl.nil) rfl) rfl) rfl) rfl) rfl) rfl; clear hl; have hl := hl2; clear hl2
    refine then_normal ?_
    refine c_cond hl rfl ?_ ?_
    · intro hc1
      try simp only [decide_eq_true_eq, decide_eq_false_iff_not, Bool.not_eq_true', Bool.not_eq_false', Bool.not_eq_true, Bool.not_eq_false, Bool.and_eq_true, Bool.or_eq_true, Bool.and_eq_false_iff, Bool.or_eq_false_iff, Bool.not_not, ne_eq, Int.not_lt, Int.not_le, Decidable.not_not, beq_iff_eq, bne_iff_ne] at hc1
      refine c_seq ?_
      refine c_region ?_
      refine wl (wl_val hl rfl trivial (r_move hl rfl) ?_)
      clear hl a; intro a hl
      refine wl (wl_val hl rfl trivial (r_assign hl rfl) ?_)
      clear hl a; intro a hl
      refine w_nil ?_
      have hl2 := hl.add (t := 4) (hl.nil) rfl; clear hl; have hl := hl2; clear hl2
      refine then_normal ?_
      refine wp_ret ?_
      refine blk_ret ?_
      refine then_ret ?_
      refine then_ret ?_
      refine blk_ret ?_
      refine then_ret ?_
      refine f_ret1 (F' := []) hl hh rfl rfl (by repeat (first | exact keeps_nil | apply keeps_cons (by repeat (first | exact find_head | apply find_tail)) (by first  | rfl) | exact keeps_self | apply keeps_mv)) ?_
      exact ⟨⟨_, rfl, fun _ => by rw [hc1]; exact List.mem_of_getElem? hy, fun _ => by omega⟩, rfl⟩
    · intro hc1
      try simp only [decide_eq_true_eq, decide_eq_false_iff_not, Bool.not_eq_true', Bool.not_eq_false', Bool.not_eq_true, Bool.not_eq_false, Bool.and_eq_true, Bool.or_eq_true, Bool.and_eq_false_iff, Bool.or_eq_false_iff, Bool.not_not, ne_eq, Int.not_lt, Int.not_le, Decidable.not_not, beq_iff_eq, bne_iff_ne] at hc1
      refine wp_skip ?_
      refine blk_normal ?_
      refine then_normal ?_
      refine c_region ?_
      first | refine wl (wl_val hl rfl trivial (r_add hl rfl rfl (by simp only [Fits]; omega)) ?_) | refine wl (wl_val hl rfl trivial (r_addW hl rfl rfl) ?_)
      clear hl a; intro a hl
      refine wl (wl_val hl rfl trivial (r_move hl rfl) ?_)
      clear hl a; intro a hl
      refine w_nil ?_
      have hl2 := hl.add (t := 0) (hl.add (t := 1) (hl.add (t := 7) (hl.add (t := 8) (hl.nil) rfl) rfl) rfl) rfl; clear hl; have hl := hl2; clear hl2
      refine then_normal ?_
      refine ⟨i + 1, (by omega), ⟨by omega, fun j hj h9 => by
            by_cases e : j = i
            · rw [e, hy] at h9; injection h9 with h9; exact hc1 h9.symm
            · exact hno j (by omega) h9⟩, hl.addE (t := 8) (hl.addE (t := 0) (hl.addE (t := 1) (hl.addE (t := 7) (hl.nil) rfl (by first | rfl | rfl)) rfl (by first | rfl | rfl)) rfl (by first | rfl | rfl)) rfl (by first | rfl | rfl), hh.keep (by repeat (first | exact keeps_nil | apply keeps_cons (by repeat (first | exact find_head | apply find_tail)) (by first  | rfl) | exact keeps_self | apply keeps_mv))⟩
  · intro hc0
    try simp only [decide_eq_true_eq, decide_eq_false_iff_not, Bool.not_eq_true', Bool.not_eq_false', Bool.not_eq_true, Bool.not_eq_false, Bool.and_eq_true, Bool.or_eq_true, Bool.and_eq_false_iff, Bool.or_eq_false_iff, Bool.not_not, ne_eq, Int.not_lt, Int.not_le, Decidable.not_not, beq_iff_eq, bne_iff_ne] at hc0
    refine wp_exit ?_
    refine then_exit ?_
    refine then_exit ?_
    refine blk_exit ?_
    refine then_normal ?_
    refine c_seq ?_
    refine c_region ?_
    refine wl (wl_val hl rfl trivial (r_assign hl rfl) ?_)
    clear hl a; intro a hl
    refine w_nil ?_
    have hl2 := hl.add (t := 4) (hl.nil) rfl; clear hl; have hl := hl2; clear hl2
    refine then_normal ?_
    refine wp_ret ?_
    refine f_ret1 (F' := []) hl hh rfl rfl (by repeat (first | exact keeps_nil | apply keeps_cons (by repeat (first | exact find_head | apply find_tail)) (by first  | rfl) | exact keeps_self | apply keeps_mv)) ?_
    exact ⟨⟨_, rfl, fun h => absurd h (by decide), fun h => by
      obtain ⟨j, hj, e⟩ := List.getElem_of_mem h
      exact absurd (by rw [List.getElem?_eq_getElem hj, e]) (hno j (by omega))⟩, rfl⟩

set_option maxHeartbeats 1000000 in
theorem contains_spec (ns : List Int) (p : Option Addr) (c : Nat) (E : List (Nat × Obj)) (hR : Row (.slice p ns.length c) ns.length (fl iI ns) 1 3 E) (hln : ns.length ≤ 4000000000000) (x : Int) : SpK Tryz.prog 48 #[.slice p ns.length c, .int .i64 x] (Mem E) [] (fun v F' => v = .bool (decide (x ∈ ns)) ∧ F' = []) := by
  refine f_enter (args := [.slice p ns.length c, .int .i64 x]) Tryz.func48 rfl Tryz.ntmps48 rfl ?_
  intro w0 w a hpre hl hh
  simp only [slotsFrom, Nat.reduceAdd] at hl
  refine c_seq ?_
  refine c_region ?_
  refine wl (wl_val hl rfl trivial (r_assign hl rfl) ?_)
  clear hl a; intro a hl
  refine w_nil ?_
  have hl2 := hl.add (t := 0) (hl.add (t := 1) (hl.nil) rfl) rfl; clear hl; have hl := hl2; clear hl2
  refine then_normal ?_
  refine c_seq ?_
  refine c_region ?_
  refine wl (wl_val hl rfl trivial (r_move hl rfl) ?_)
  clear hl a; intro a hl
  refine wl (wl_val hl rfl trivial (r_move hl rfl) ?_)
  clear hl a; intro a hl
  refine wl (w_call hl hh rfl trivial rfl cal82 rfl (index_spec ns p c E hR hln x) (by repeat (first | exact keeps_nil | apply keeps_cons (by repeat (first | exact find_head | apply find_tail)) (by first  | rfl) | exact keeps_self | apply keeps_mv)) (mem_keep hh hpre) ?_)
  clear hl hh a w; intro vc Fc a w hR hl hh
  obtain ⟨⟨k9, rfl, hk9⟩, rfl⟩ := hR
  try simp only [List.cons_append, List.nil_append] at hh
  refine wl (wl_val hl rfl trivial (r_geq hl rfl rfl) ?_)
  clear hl a; intro a hl
  refine wl (wl_val hl rfl trivial (r_assign hl rfl) ?_)
  clear hl a; intro a hl
  refine w_nil ?_
  have hl2 := hl.add (t := 4) (hl.nil) rfl; clear hl; have hl := hl2; clear hl2
  refine then_normal ?_
  refine wp_ret ?_
  refine f_ret1 (F' := []) hl hh rfl rfl (by repeat (first | exact keeps_nil | apply keeps_cons (by repeat (first | exact find_head | apply find_tail)) (by first  | rfl) | exact keeps_self | apply keeps_mv)) ?_
  exact ⟨congrArg Value.bool (decide_eq_decide.2 hk9), rfl⟩

set_option maxHeartbeats 4000000 in
theorem note_spec (kv : Nat) (vs : List Int) (vp : Option Addr) (vc : Nat) (Ev : List (Nat × Obj)) (hV : Row (.slice vp vs.length vc) vs.length (fl iI vs) 1 3 Ev) (hvl : vs.length ≤ 2000000000000) (ts : List Tm) (p1 : Option Addr) (c1 : Nat) (E1 : List (Nat × Obj)) (h1 : Ags (.slice p1 ts.length c1) ts E1) (hne : ∀ x, x ∈ E1 → x.1 ∉ List.map Prod.fst ((kv, C [.slice vp vs.length vc] 58) :: Ev)) : SpK Tryz.prog 47 #[.slice p1 ts.length c1, .pointer (some ⟨kv, 0, none⟩)] (Mem E1) ((kv, C [.slice vp vs.length vc] 58) :: Ev) (fun u F' => u = .tuple #[] ∧ ∃ vp' vc' Ev', Row (.slice vp' (nvs vs ts).length vc') (nvs vs ts).length (fl iI (nvs vs ts)) 1 3 Ev' ∧ F' = (kv, C [.slice vp' (nvs vs ts).length vc'] 58) :: Ev') := by
  refine f_enter (args := [.slice p1 ts.length c1, .pointer (some ⟨kv, 0, none⟩)]) Tryz.func47 rfl Tryz.ntmps47 rfl ?_
  intro w0 w a hpre hl hh
  have hl1 := h1.len
  simp only [slotsFrom, Nat.reduceAdd] at hl
  refine c_seq ?_
  refine c_region ?_
  refine wl (wl_val hl rfl trivial (r_move hl rfl) ?_)
  clear hl a; intro a hl
  refine wl (wl_val hl rfl trivial (r_lenS hl rfl slc42) ?_)
  clear hl a; intro a hl
  refine wl (wl_val hl rfl trivial (r_move hl rfl) ?_)
  clear hl a; intro a hl
  refine w_nil ?_
  have hl2 := hl.add (t := 1) (hl.add (t := 5) (hl.add (t := 6) (hl.add (t := 7) (hl.nil) rfl) rfl) rfl) rfl; clear hl; have hl := hl2; clear hl2
  refine then_normal ?_
  refine wp_block ?_
  obtain ⟨KS0, hKS0, hk⟩ := (hl.add (t := 1) (hl.add (t := 5) (hl.add (t := 6) (hl.nil) rfl) rfl) rfl).name
  obtain ⟨HS0, hHS0, hh2⟩ := hh.nameT (A := [(kv, C [.slice vp vs.length vc] 58)]) (U := Ev) (keeps_cons (b := kv) (o' := C [.slice vp vs.length vc] 58) (by repeat (first | exact find_head | apply find_tail)) (by first | rfl) ((by repeat (first | exact keeps_nil | exact keeps_self | exact keeps_swap | apply keeps_mv))))
  refine c_loop (α := VS) (fun s => ts.length - s.i) (fun s a w => (s.i ≤ ts.length ∧ Row s.v (nvs vs (ts.take s.i)).length (fl iI (nvs vs (ts.take s.i))) 1 3 s.E) ∧ Sl 27 ([(7, .int .i64 (s.i : Int))] ++ KS0) a ∧ Has _ w0 ([(kv, C [s.v] 58)] ++ (HS0 ++ s.E)) w) ⟨0, .slice vp vs.length vc, Ev⟩ ⟨⟨Nat.zero_le _, hV⟩, hl.addE (t := 7) (hk) rfl (by first | rfl), hh2⟩ ?_
  clear hk hh2 hl hh a w
  intro s a w hI
  obtain ⟨⟨hi, hrow⟩, hl, hh⟩ := hI
  subst hKS0; subst hHS0
  simp only [List.cons_append, List.nil_append, List.append_nil] at hl hh
  have hnl := nvs_len vs (ts.take s.i)
  rw [List.length_take] at hnl
  refine c_seq ?_
  refine c_region ?_
  refine wl (wl_val hl rfl trivial (r_lss hl rfl rfl) ?_)
  clear hl a; intro a hl
  refine w_nil ?_
  have hl2 := hl.add (t := 1) (hl.add (t := 5) (hl.add (t := 6) (hl.add (t := 7) (hl.add (t := 8) (hl.nil) rfl) rfl) rfl) rfl) rfl; clear hl; have hl := hl2; clear hl2
  refine then_normal ?_
  refine c_seq ?_
  refine c_cond hl rfl ?_ ?_
  · intro hc0
    try simp only [decide_eq_true_eq, decide_eq_false_iff_not, Bool.not_eq_true', Bool.not_eq_false', Bool.not_eq_true, Bool.not_eq_false, Bool.and_eq_true, Bool.or_eq_true, Bool.and_eq_false_iff, Bool.or_eq_false_iff, Bool.not_not, ne_eq, Int.not_lt, Int.not_le, Decidable.not_not, beq_iff_eq, bne_iff_ne] at hc0
    obtain ⟨x, hx⟩ : ∃ x, ts[s.i]? = some x := ⟨_, List.getElem?_eq_getElem (by omega)⟩
    obtain ⟨b1, j1, hq1, rfl, hm1⟩ := row_mem h1.row (by omega) hpre
    subst hq1
    have hd1 := fl_at tmc_len hx j1
    simp only [tmc] at hd1
    have hb1 := hne _ (List.mem_singleton.2 rfl)
    obtain ⟨vp9, vc9, hv9⟩ := row_val hrow
    rw [hv9] at hh hrow
    refine wp_skip ?_
    refine then_normal ?_
    refine c_seq ?_
    refine wp_block ?_
    refine c_seq ?_
    refine c_region ?_
    refine wl (wl_val hl rfl trivial (r_indexS hl rfl rfl slc42 (by omega) (by omega) (by first | (simp only [Int.reduceToNat]; rfl) | exact toNat_add1 _ | exact toNat_add2 _ _ | exact toNat_emod _ _ | exact Int.toNat_natCast _ | rfl)) ?_)
    clear hl a; intro a hl
    first | refine wl (w_loadA hl hh rfl trivial agg54 rfl (by repeat (first | exact find_head | apply find_tail)) (by first | (simp only [List.getElem?_cons_zero, List.getElem?_cons_succ, Value.cells, List.take_zero, List.take_succ_cons, List.take_nil, List.drop_zero, List.drop_succ_cons, List.drop_nil, List.length_cons, List.length_nil, List.cons_append, List.nil_append, List.append_nil, Nat.zero_add, Nat.add_zero, Nat.reduceAdd, Nat.reduceBEq, Nat.reduceEqDiff, Nat.ble, BEq.rfl, Bool.and_true, Bool.and_self, cond_true, beq_self_eq_true]; rfl)) (by first | rfl | (simp; done)) ?_) | refine wl (w_loadRA hl hh rfl trivial agg54 rfl hm1 (by simpa using hb1) hd1 rfl ?_)
    clear hl a; intro a hl
    refine wl (w_alloc hl hh rfl trivial zero54 rfl ?_)
    clear hl hh a w; intro k4 a w hl hh
    refine wl (w_storeA hl hh trivial agg54 rfl rfl (by repeat (first | exact find_head | apply find_tail)) (by first | rfl | (simp; done)) (by first | (simp; done) | (simp; omega)) (by first | rfl | (simp; done)) (by first | (simp only [setL, List.getElem?_cons_zero, List.getElem?_cons_succ, Value.cells, List.take_zero, List.take_succ_cons, List.take_nil, List.drop_zero, List.drop_succ_cons, List.drop_nil, List.length_cons, List.length_nil, List.cons_append, List.nil_append, List.append_nil, Nat.zero_add, Nat.add_zero, Nat.reduceAdd, Nat.reduceBEq, Nat.reduceEqDiff, Nat.ble, BEq.rfl, Bool.and_true, Bool.and_self, cond_true, beq_self_eq_true]; rfl)) ?_)
    clear hh w; intro w hh
    refine w_nil ?_
    have hl2 := hl.add (t := 1) (hl.add (t := 4) (hl.add (t := 5) (hl.add (t := 6) (hl.add (t := 7) (hl.nil) rfl) rfl) rfl) rfl) rfl; clear hl; have hl := hl2; clear hl2
    refine then_normal ?_
    refine c_seq ?_
    refine c_region ?_
    refine wl (wl_val hl rfl trivial (r_field hl rfl fld54_0) ?_)
    clear hl a; intro a hl
    refine wl (w_load hl hh rfl trivial one52 rfl (by repeat (first | exact find_head | apply find_tail)) (by first | rfl) ?_)
    clear hl a; intro a hl
    refine wl (wl_val hl rfl trivial (r_eql hl rfl rfl) ?_)
    clear hl a; intro a hl
    refine wl (wl_val hl rfl trivial (r_move hl rfl) ?_)
    clear hl a; intro a hl
    refine sl_split (t := 14) hl rfl ?_ ?_
    · intro hg1; clear hl; intro hl
      try simp only [decide_eq_true_eq, decide_eq_false_iff_not, Bool.not_eq_true', Bool.not_eq_false', Bool.not_eq_true, Bool.not_eq_false, Bool.and_eq_true, Bool.or_eq_true, Bool.and_eq_false_iff, Bool.or_eq_false_iff, Bool.not_not, ne_eq, Int.not_lt, Int.not_le, Decidable.not_not, beq_iff_eq, bne_iff_ne] at hg1
      refine wl (w_load hl hh rfl ⟨_, _, rfl, rfl, rfl⟩ one58 rfl (by repeat (first | exact find_head | apply find_tail)) (by first | rfl) ?_)
      clear hl a; intro a hl
      refine wl (wl_val hl rfl ⟨_, _, rfl, rfl, rfl⟩ (r_field hl rfl fld54_1) ?_)
      clear hl a; intro a hl
      refine wl (w_load hl hh rfl ⟨_, _, rfl, rfl, rfl⟩ one3 rfl (by repeat (first | exact find_head | apply find_tail)) (by first | rfl) ?_)
      clear hl a; intro a hl
      refine wl (w_call hl hh rfl ⟨_, _, rfl, rfl, rfl⟩ rfl cal48 rfl (contains_spec (nvs vs (ts.take s.i)) vp9 vc9 s.E hrow (by omega) x.v) (by repeat (first | exact keeps_nil | apply keeps_cons (by repeat (first | exact find_head | apply find_tail)) (by first  | rfl) | exact keeps_self | exact keeps_left | exact keeps_right | exact keeps_swap | apply keeps_mv)) (fun b o m => hh.mem b o (by simp [m])) ?_)
      clear hl hh a w; intro vc Fc a w hR hl hh
      obtain ⟨rfl, rfl⟩ := hR
      try simp only [List.cons_append, List.nil_append] at hh
      refine wl (wl_val hl rfl ⟨_, _, rfl, rfl, rfl⟩ (r_not hl rfl) ?_)
      clear hl a; intro a hl
      refine wl (wl_val hl rfl trivial (r_pickT hl rfl rfl) ?_)
      clear hl a; intro a hl
      refine w_nil ?_
      have hl2 := hl.add (t := 1) (hl.add (t := 4) (hl.add (t := 5) (hl.add (t := 6) (hl.add (t := 7) (hl.add (t := 20) (hl.nil) rfl) rfl) rfl) rfl) rfl) rfl; clear hl; have hl := hl2; clear hl2
      refine then_normal ?_
      refine c_cond hl rfl ?_ ?_
      · intro hc1
        try simp only [decide_eq_true_eq, decide_eq_false_iff_not, Bool.not_eq_true', Bool.not_eq_false', Bool.not_eq_true, Bool.not_eq_false, Bool.and_eq_true, Bool.or_eq_true, Bool.and_eq_false_iff, Bool.or_eq_false_iff, Bool.not_not, ne_eq, Int.not_lt, Int.not_le, Decidable.not_not, beq_iff_eq, bne_iff_ne] at hc1
        refine c_region ?_
        refine wl (w_load hl hh rfl trivial one58 rfl (by repeat (first | exact find_head | apply find_tail)) (by first | rfl) ?_)
        clear hl a; intro a hl
        refine wl (wl_val hl rfl trivial (r_field hl rfl fld54_1) ?_)
        clear hl a; intro a hl
        refine wl (w_load hl hh rfl trivial one3 rfl (by repeat (first | exact find_head | apply find_tail)) (by first | rfl) ?_)
        clear hl a; intro a hl
        refine wl (w_buildSlice hl hh rfl trivial app58 zero3 rfl rfl rfl rfl rfl (by simp only [fillL, arrPl, List.range_succ, List.range_zero, List.map_cons, List.map_nil, List.map_append, List.nil_append, List.replicate_succ, List.replicate_zero, List.flatten_cons, List.flatten_nil, Nat.zero_mul, Nat.mul_one, Nat.one_mul, Nat.reduceMul, setL, List.getElem?_cons_zero, List.getElem?_cons_succ, Value.cells, List.take_zero, List.take_succ_cons, List.take_nil, List.drop_zero, List.drop_succ_cons, List.drop_nil, List.length_cons, List.length_nil, List.cons_append, List.nil_append, List.append_nil, Nat.zero_add, Nat.add_zero, Nat.reduceAdd, Nat.reduceBEq, Nat.reduceEqDiff, Nat.ble, BEq.rfl, Bool.and_true, Bool.and_self, cond_true, beq_self_eq_true]; rfl) ?_)
        clear hl hh a w; intro k24 a w hl hh
        refine wl (w_append (news := [.int .i64 x.v]) hl hh rfl trivial app58 rfl rfl rfl hrow (by repeat (first | exact keeps_nil | apply keeps_cons (by repeat (first | exact find_head | apply find_tail)) (by first  | rfl) | exact keeps_self | exact keeps_left | exact keeps_right | exact keeps_swap | apply keeps_mv)) (hh.mem _ _ (Find.mem (by repeat (first | exact find_head | apply find_tail)))) rfl rfl rfl (by omega) (by omega) (by omega) (by decide) ?_)
        clear hl hh a w; intro rv2 E2 a w hR2 hl hh
        have hh3 := hh.comm; clear hh; have hh := hh3; clear hh3
        simp only [List.cons_append, List.nil_append] at hh
        refine wl (w_store hl hh trivial one58 rfl rfl (by repeat (first | exact find_head | apply find_tail)) (by first | (simp; done) | (simp; omega)) (by first | rfl | assumption | (apply Row.one; assumption)) (by first | (simp only [setL, List.getElem?_cons_zero, List.getElem?_cons_succ, Value.cells, List.take_zero, List.take_succ_cons, List.take_nil, List.drop_zero, List.drop_succ_cons, List.drop_nil, List.length_cons, List.length_nil, List.cons_append, List.nil_append, List.append_nil, Nat.zero_add, Nat.add_zero, Nat.reduceAdd, Nat.reduceBEq, Nat.reduceEqDiff, Nat.ble, BEq.rfl, Bool.and_true, Bool.and_self, cond_true, beq_self_eq_true]; rfl)) ?_)
        clear hh w; intro w hh
        refine w_nil ?_
        have hl2 := hl.add (t := 1) (hl.add (t := 5) (hl.add (t := 6) (hl.add (t := 7) (hl.nil) rfl) rfl) rfl) rfl; clear hl; have hl := hl2; clear hl2
        refine blk_normal ?_
        refine then_normal ?_
        refine c_region ?_
        first | refine wl (wl_val hl rfl trivial (r_add hl rfl rfl (by simp only [Fits]; omega)) ?_) | refine wl (wl_val hl rfl trivial (r_addW hl rfl rfl) ?_)
        clear hl a; intro a hl
        refine wl (wl_val hl rfl trivial (r_move hl rfl) ?_)
        clear hl a; intro a hl
        refine w_nil ?_
        have hl2 := hl.add (t := 1) (hl.add (t := 5) (hl.add (t := 6) (hl.add (t := 7) (hl.nil) rfl) rfl) rfl) rfl; clear hl; have hl := hl2; clear hl2
        refine then_normal ?_
        first | refine ⟨⟨s.i + 1, .slice vp9 (nvs vs (ts.take s.i)).length vc9, s.E⟩, (by simp only; omega), ⟨by simp only; omega, by simp only; rw [nvs_snoc hx, show nvS (nvs vs (ts.take s.i)) x = (nvs vs (ts.take s.i)) from if_neg (by first | exact fun h => absurd h.1 (by assumption) | exact fun h => h.2 (by assumption))]; exact hrow⟩, hl.addE (t := 7) (hl.addE (t := 1) (hl.addE (t := 5) (hl.addE (t := 6) (hl.nil) rfl (by first | rfl | exact congrArg (Value.int .i64) (show (s.i : Int) + 1 = ((s.i + 1 : Nat) : Int) by omega))) rfl (by first | rfl | exact congrArg (Value.int .i64) (show (s.i : Int) + 1 = ((s.i + 1 : Nat) : Int) by omega))) rfl (by first | rfl | exact congrArg (Value.int .i64) (show (s.i : Int) + 1 = ((s.i + 1 : Nat) : Int) by omega))) rfl (by first | rfl | exact congrArg (Value.int .i64) (show (s.i : Int) + 1 = ((s.i + 1 : Nat) : Int) by omega)), hh.keep (by repeat (first | exact keeps_nil | apply keeps_cons (by repeat (first | exact find_head | apply find_tail)) (by first  | rfl) | exact keeps_self | exact keeps_left | exact keeps_right | exact keeps_swap | apply keeps_mv))⟩ | refine ⟨⟨s.i + 1, rv2, E2⟩, (by simp only; omega), ⟨by simp only; omega, by simp only; rw [nvs_snoc hx, show nvS (nvs vs (ts.take s.i)) x = (nvs vs (ts.take s.i)) ++ [x.v] from if_pos ⟨by assumption, by assumption⟩, List.length_append, fl_app, fl_sing]; exact hR2⟩, hl.addE (t := 7) (hl.addE (t := 1) (hl.addE (t := 5) (hl.addE (t := 6) (hl.nil) rfl (by first | rfl | exact congrArg (Value.int .i64) (show (s.i : Int) + 1 = ((s.i + 1 : Nat) : Int) by omega))) rfl (by first | rfl | exact congrArg (Value.int .i64) (show (s.i : Int) + 1 = ((s.i + 1 : Nat) : Int) by omega))) rfl (by first | rfl | exact congrArg (Value.int .i64) (show (s.i : Int) + 1 = ((s.i + 1 : Nat) : Int) by omega))) rfl (by first | rfl | exact congrArg (Value.int .i64) (show (s.i : Int) + 1 = ((s.i + 1 : Nat) : Int) by omega)), hh.keep (by repeat (first | exact keeps_nil | apply keeps_cons (by repeat (first | exact find_head | apply find_tail)) (by first  | rfl) | exact keeps_self | exact keeps_left | exact keeps_right | exact keeps_swap | apply keeps_mv))⟩
      · intro hc1
        try simp only [decide_eq_true_eq, decide_eq_false_iff_not, Bool.not_eq_true', Bool.not_eq_false', Bool.not_eq_true, Bool.not_eq_false, Bool.and_eq_true, Bool.or_eq_true, Bool.and_eq_false_iff, Bool.or_eq_false_iff, Bool.not_not, ne_eq, Int.not_lt, Int.not_le, Decidable.not_not, beq_iff_eq, bne_iff_ne] at hc1
        refine wp_skip ?_
        refine blk_normal ?_
        refine then_normal ?_
        refine c_region ?_
        first | refine wl (wl_val hl rfl trivial (r_add hl rfl rfl (by simp only [Fits]; omega)) ?_) | refine wl (wl_val hl rfl trivial (r_addW hl rfl rfl) ?_)
        clear hl a; intro a hl
        refine wl (wl_val hl rfl trivial (r_move hl rfl) ?_)
        clear hl a; intro a hl
        refine w_nil ?_
        have hl2 := hl.add (t := 1) (hl.add (t := 5) (hl.add (t := 6) (hl.add (t := 7) (hl.nil) rfl) rfl) rfl) rfl; clear hl; have hl := hl2; clear hl2
        refine then_normal ?_
        first | refine ⟨⟨s.i + 1, .slice vp9 (nvs vs (ts.take s.i)).length vc9, s.E⟩, (by simp only; omega), ⟨by simp only; omega, by simp only; rw [nvs_snoc hx, show nvS (nvs vs (ts.take s.i)) x = (nvs vs (ts.take s.i)) from if_neg (by first | exact fun h => absurd h.1 (by assumption) | exact fun h => h.2 (by assumption))]; exact hrow⟩, hl.addE (t := 7) (hl.addE (t := 1) (hl.addE (t := 5) (hl.addE (t := 6) (hl.nil) rfl (by first | rfl | exact congrArg (Value.int .i64) (show (s.i : Int) + 1 = ((s.i + 1 : Nat) : Int) by omega))) rfl (by first | rfl | exact congrArg (Value.int .i64) (show (s.i : Int) + 1 = ((s.i + 1 : Nat) : Int) by omega))) rfl (by first | rfl | exact congrArg (Value.int .i64) (show (s.i : Int) + 1 = ((s.i + 1 : Nat) : Int) by omega))) rfl (by first | rfl | exact congrArg (Value.int .i64) (show (s.i : Int) + 1 = ((s.i + 1 : Nat) : Int) by omega)), hh.keep (by repeat (first | exact keeps_nil | apply keeps_cons (by repeat (first | exact find_head | apply find_tail)) (by first  | rfl) | exact keeps_self | exact keeps_left | exact keeps_right | exact keeps_swap | apply keeps_mv))⟩ | refine ⟨⟨s.i + 1, rv2, E2⟩, (by simp only; omega), ⟨by simp only; omega, by simp only; rw [nvs_snoc hx, show nvS (nvs vs (ts.take s.i)) x = (nvs vs (ts.take s.i)) ++ [x.v] from if_pos ⟨by assumption, by assumption⟩, List.length_append, fl_app, fl_sing]; exact hR2⟩, hl.addE (t := 7) (hl.addE (t := 1) (hl.addE (t := 5) (hl.addE (t := 6) (hl.nil) rfl (by first | rfl | exact congrArg (Value.int .i64) (show (s.i : Int) + 1 = ((s.i + 1 : Nat) : Int) by omega))) rfl (by first | rfl | exact congrArg (Value.int .i64) (show (s.i : Int) + 1 = ((s.i + 1 : Nat) : Int) by omega))) rfl (by first | rfl | exact congrArg (Value.int .i64) (show (s.i : Int) + 1 = ((s.i + 1 : Nat) : Int) by omega))) rfl (by first | rfl | exact congrArg (Value.int .i64) (show (s.i : Int) + 1 = ((s.i + 1 : Nat) : Int) by omega)), hh.keep (by repeat (first | exact keeps_nil | apply keeps_cons (by repeat (first | exact find_head | apply find_tail)) (by first  | rfl) | exact keeps_self | exact keeps_left | exact keeps_right | exact keeps_swap | apply keeps_mv))⟩
    · intro hg1; clear hl; intro hl
      try simp only [decide_eq_true_eq, decide_eq_false_iff_not, Bool.not_eq_true', Bool.not_eq_false', Bool.not_eq_true, Bool.not_eq_false, Bool.and_eq_true, Bool.or_eq_true, Bool.and_eq_false_iff, Bool.or_eq_false_iff, Bool.not_not, ne_eq, Int.not_lt, Int.not_le, Decidable.not_not, beq_iff_eq, bne_iff_ne] at hg1
      refine wl (wl_skip hl rfl ⟨_, _, rfl, rfl, rfl⟩ ?_)
      clear hl a; intro a hl
      refine wl (wl_skip hl rfl ⟨_, _, rfl, rfl, rfl⟩ ?_)
      clear hl a; intro a hl
      refine wl (wl_skip hl rfl ⟨_, _, rfl, rfl, rfl⟩ ?_)
      clear hl a; intro a hl
      refine wl (wl_skip hl rfl ⟨_, _, rfl, rfl, rfl⟩ ?_)
      clear hl a; intro a hl
      refine wl (wl_skip hl rfl ⟨_, _, rfl, rfl, rfl⟩ ?_)
      clear hl a; intro a hl
      refine wl (wl_val hl rfl trivial (r_pickF hl rfl rfl) ?_)
      clear hl a; intro a hl
      refine w_nil ?_
      have hl2 := hl.add (t := 1) (hl.add (t := 4) (hl.add (t := 5) (hl.add (t := 6) (hl.add (t := 7) (hl.add (t := 20) (hl.nil) rfl) rfl) rfl) rfl) rfl) rfl; clear hl; have hl := hl2; clear hl2
      refine then_normal ?_
      refine c_condF hl rfl ?_
      refine wp_skip ?_
      refine blk_normal ?_
      refine then_normal ?_
      refine c_region ?_
      first | refine wl (wl_val hl rfl trivial (r_add hl rfl rfl (by simp only [Fits]; omega)) ?_) | refine wl (wl_val hl rfl trivial (r_addW hl rfl rfl) ?_)
      clear hl a; intro a hl
      refine wl (wl_val hl rfl trivial (r_move hl rfl) ?_)
      clear hl a; intro a hl
      refine w_nil ?_
      have hl2 := hl.add (t := 1) (hl.add (t := 5) (hl.add (t := 6) (hl.add (t := 7) (hl.nil) rfl) rfl) rfl) rfl; clear hl; have hl := hl2; clear hl2
      refine then_normal ?_
      first | refine ⟨⟨s.i + 1, .slice vp9 (nvs vs (ts.take s.i)).length vc9, s.E⟩, (by simp only; omega), ⟨by simp only; omega, by simp only; rw [nvs_snoc hx, show nvS (nvs vs (ts.take s.i)) x = (nvs vs (ts.take s.i)) from if_neg (by first | exact fun h => absurd h.1 (by assumption) | exact fun h => h.2 (by assumption))]; exact hrow⟩, hl.addE (t := 7) (hl.addE (t := 1) (hl.addE (t := 5) (hl.addE (t := 6) (hl.nil) rfl (by first | rfl | exact congrArg (Value.int .i64) (show (s.i : Int) + 1 = ((s.i + 1 : Nat) : Int) by omega))) rfl (by first | rfl | exact congrArg (Value.int .i64) (show (s.i : Int) + 1 = ((s.i + 1 : Nat) : Int) by omega))) rfl (by first | rfl | exact congrArg (Value.int .i64) (show (s.i : Int) + 1 = ((s.i + 1 : Nat) : Int) by omega))) rfl (by first | rfl | exact congrArg (Value.int .i64) (show (s.i : Int) + 1 = ((s.i + 1 : Nat) : Int) by omega)), hh.keep (by repeat (first | exact keeps_nil | apply keeps_cons (by repeat (first | exact find_head | apply find_tail)) (by first  | rfl) | exact keeps_self | exact keeps_left | exact keeps_right | exact keeps_swap | apply keeps_mv))⟩ | refine ⟨⟨s.i + 1, rv2, E2⟩, (by simp only; omega), ⟨by simp only; omega, by simp only; rw [nvs_snoc hx, show nvS (nvs vs (ts.take s.i)) x = (nvs vs (ts.take s.i)) ++ [x.v] from if_pos ⟨by assumption, by assumption⟩, List.length_append, fl_app, fl_sing]; exact hR2⟩, hl.addE (t := 7) (hl.addE (t := 1) (hl.addE (t := 5) (hl.addE (t := 6) (hl.nil) rfl (by first | rfl | exact congrArg (Value.int .i64) (show (s.i : Int) + 1 = ((s.i + 1 : Nat) : Int) by omega))) rfl (by first | rfl | exact congrArg (Value.int .i64) (show (s.i : Int) + 1 = ((s.i + 1 : Nat) : Int) by omega))) rfl (by first | rfl | exact congrArg (Value.int .i64) (show (s.i : Int) + 1 = ((s.i + 1 : Nat) : Int) by omega))) rfl (by first | rfl | exact congrArg (Value.int .i64) (show (s.i : Int) + 1 = ((s.i + 1 : Nat) : Int) by omega)), hh.keep (by repeat (first | exact keeps_nil | apply keeps_cons (by repeat (first | exact find_head | apply find_tail)) (by first  | rfl) | exact keeps_self | exact keeps_left | exact keeps_right | exact keeps_swap | apply keeps_mv))⟩
  · intro hc0
    try simp only [decide_eq_true_eq, decide_eq_false_iff_not, Bool.not_eq_true', Bool.not_eq_false', Bool.not_eq_true, Bool.not_eq_false, Bool.and_eq_true, Bool.or_eq_true, Bool.and_eq_false_iff, Bool.or_eq_false_iff, Bool.not_not, ne_eq, Int.not_lt, Int.not_le, Decidable.not_not, beq_iff_eq, bne_iff_ne] at hc0
    obtain ⟨vp9, vc9, hv9⟩ := row_val hrow
    rw [hv9] at hh hrow
    have hie : s.i = ts.length := by omega
    rw [hie, List.take_length] at hh hrow
    refine wp_exit ?_
    refine then_exit ?_
    refine then_exit ?_
    refine blk_exit ?_
    refine f_end0 (F' := (kv, C [.slice vp9 (nvs vs ts).length vc9] 58) :: s.E) hl hh rfl (by repeat (first | exact keeps_nil | apply keeps_cons (by repeat (first | exact find_head | apply find_tail)) (by first  | rfl) | exact keeps_self | exact keeps_left | exact keeps_right | exact keeps_swap | apply keeps_mv)) ?_
    exact ⟨rfl, vp9, vc9, s.E, hrow, rfl⟩
end Go.Proofs.Qxb6500915aGreatDoor

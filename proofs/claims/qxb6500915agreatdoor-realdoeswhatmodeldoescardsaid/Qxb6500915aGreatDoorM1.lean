import Derived.Test.Qxb6500915aGreatDoorK9
namespace Go.Proofs.Qxb6500915aGreatDoor
open Go.Eng
set_option linter.unusedVariables false
set_option linter.unusedSimpArgs false
theorem app149 : appOk Tryz.prog 149 58 1 24 = true := by kernel_rfl
theorem cal69 : callable Tryz.prog 69 = true := by kernel_rfl
theorem slc149 : slcOk Tryz.prog 149 1 = true := by kernel_rfl
/-! ## orders in memory -/
structure OV where
  l : List Int
  b : Nat
  c : Nat
  j : List Value
def OV.v (o : OV) : Value := .slice (some ⟨o.b, 0, none⟩) o.l.length o.c
def OV.c1 (o : OV) : List Value := [.slice (some ⟨o.b, 0, none⟩) o.l.length o.c]
theorem ov_len (x : OV) : x.c1.length = 1 := rfl
theorem ov_one (x : OV) : x.c1.all (·.oneCell') = true := rfl
theorem row0 (b size : Nat) (T : TypeId) : Row (.slice (some ⟨b, 0, none⟩) 0 0) 0 [] size T [(b, C [] T)] := .inr ⟨b, 0, [], rfl, by simp, by simp, Nat.le_refl _, rfl⟩
def OV.E (o : OV) : List (Nat × Obj) := [(o.b, C (fl iI o.l ++ o.j) 3)]
structure OV.ok (o : OV) : Prop where
  len : (fl iI o.l ++ o.j).length = o.c * 1
  le : o.l.length ≤ o.c
structure OZ where
  i : Nat
  out : List OV
  p : Option Addr
  c : Nat
  E : List (Nat × Obj)
def OZ.T (z : OZ) : List (Nat × Obj) := z.E ++ z.out.flatMap OV.E
structure OZI (n : Nat) (z : OZ) : Prop where
  e : z.out.map OV.l = ((ordN n).take z.i).flatMap (insL (n : Int))
  ok : ∀ o, o ∈ z.out → o.ok
structure OUI (n : Nat) (base : List (List Int)) (s : List Int) (u : OZ) : Prop where
  e : u.out.map OV.l = base ++ (List.range u.i).map (insA (n : Int) s)
  ok : ∀ o, o ∈ u.out → o.ok
theorem OUI.next {n : Nat} {base : List (List Int)} {s : List Int} {u : OZ} (h : OUI n base s u) {o : OV} (ho : o.ok) (e : o.l = insA (n : Int) s u.i) {p : Option Addr} {c : Nat} {E : List (Nat × Obj)} : OUI n base s ⟨u.i + 1, u.out ++ [o], p, c, E⟩ := by
  refine ⟨?_, fun x hx => ?_⟩
  · simp only
    rw [List.map_append, h.e, List.range_succ, List.map_append, List.append_assoc]
    simp [e]
  · rcases List.mem_append.1 hx with h9 | h9
    · exact h.ok x h9
    · rw [List.mem_singleton.1 h9]; exact ho
theorem OUI.fin {n : Nat} {z u : OZ} {s : List Int} (hz : OZI n z) (h : OUI n (z.out.map OV.l) s u) (hs : (ordN n)[z.i]? = some s) (hu : u.i = s.length + 1) {p : Option Addr} {c : Nat} {E : List (Nat × Obj)} : OZI n ⟨z.i + 1, u.out, p, c, E⟩ := by
  refine ⟨?_, h.ok⟩
  simp only
  rw [h.e, hz.e, List.take_add_one, hs, List.flatMap_append, hu]
  simp [insL]
theorem fmO_snoc (l : List OV) (o : OV) : List.flatMap OV.E (l ++ [o]) = List.flatMap OV.E l ++ [(o.b, C (fl iI o.l ++ o.j) 3)] := by rw [List.flatMap_append]; simp [OV.E]
theorem cnt_bd {n : Nat} (hn : n ≤ 4) {z : OZ} (h : OZI n z) : z.out.length ≤ 120 := by
  have h1 := congrArg List.length h.e
  rw [List.length_map] at h1
  have h2 : (((ordN n).take z.i).flatMap (insL (n : Int))).length ≤ ((ordN n).flatMap (insL (n : Int))).length := by
    conv => rhs; rw [← List.take_append_drop z.i (ordN n), List.flatMap_append, List.length_append]
    omega
  have h3 : ((ordN n).flatMap (insL (n : Int))).length ≤ 120 := ord_small (n := n + 1) (by omega)
  omega
theorem insA_len (n : Int) (s : List Int) {k : Nat} (h : k ≤ s.length) : (insA n s k).length = 0 + k + 1 + (s.length - k) := by
  unfold insA
  rw [List.length_append, List.length_append, List.length_take, List.length_drop, List.length_singleton]; omega
theorem insA_fl (n : Int) (s : List Int) (k : Nat) : fl iI (insA n s k) = ([] ++ fl iI (s.take k)) ++ [.int .i64 n] ++ fl iI (s.drop k) := by
  unfold insA
  rw [fl_app, fl_app, List.nil_append, List.append_assoc]
  rfl


set_option maxHeartbeats 1000000 in
theorem ord0_spec : Sp Tryz.prog 69 #[.int .i64 0] [] (fun v F' => ∃ (os : List OV) (p : Option Addr) (c : Nat) (E : List (Nat × Obj)), (os.map OV.l = ordN 0 ∧ ∀ o, o ∈ os → o.ok) ∧ v = .slice p os.length c ∧ Row (.slice p os.length c) os.length (fl OV.c1 os) 1 58 E ∧ F' = E ++ os.flatMap OV.E) := by
  refine f_enter (args := [.int .i64 0]) Tryz.func69 rfl Tryz.ntmps69 rfl ?_
  intro w0 w a hpre hl hh
  simp only [slotsFrom, Nat.reduceAdd] at hl
  refine c_seq ?_
  refine c_region ?_
  refine wl (wl_val hl rfl trivial (r_assign hl rfl) ?_)
  clear hl a; intro a hl
  refine w_nil ?_
  have hl2 := hl.add (t := 0) (hl.nil) rfl; clear hl; have hl := hl2; clear hl2
  refine then_normal ?_
  refine c_seq ?_
  refine c_seq ?_
  refine c_region ?_
  refine wl (wl_val hl rfl trivial (r_move hl rfl) ?_)
  clear hl a; intro a hl
  refine wl (wl_val hl rfl trivial (r_eql hl rfl rfl) ?_)
  clear hl a; intro a hl
  refine w_nil ?_
  have hl2 := hl.add (t := 0) (hl.add (t := 9) (hl.nil) rfl) rfl; clear hl; have hl := hl2; clear hl2
  refine then_normal ?_
  refine c_cond hl rfl ?_ ?_
  · intro hc0
    try simp only [decide_eq_true_eq, decide_eq_false_iff_not, Bool.not_eq_true', Bool.not_eq_false', Bool.not_eq_true, Bool.not_eq_false, Bool.and_eq_true, Bool.or_eq_true, Bool.and_eq_false_iff, Bool.or_eq_false_iff, Bool.not_not, ne_eq, Int.not_lt, Int.not_le, Decidable.not_not, beq_iff_eq, bne_iff_ne] at hc0
    refine c_seq ?_
    refine c_region ?_
    refine wl (w_buildSlice0 hl hh rfl trivial app58 ?_)
    clear hl hh a w; intro k10 a w hl hh
    refine wl (w_buildSlice hl hh rfl trivial app149 zero58 rfl rfl rfl rfl rfl (by simp only [fillL, arrPl, List.range_succ, List.range_zero, List.map_cons, List.map_nil, List.map_append, List.nil_append, List.replicate_succ, List.replicate_zero, List.flatten_cons, List.flatten_nil, Nat.zero_mul, Nat.mul_one, Nat.one_mul, Nat.reduceMul, setL, List.getElem?_cons_zero, List.getElem?_cons_succ, Value.cells, List.take_zero, List.take_succ_cons, List.take_nil, List.drop_zero, List.drop_succ_cons, List.drop_nil, List.length_cons, List.length_nil, List.cons_append, List.nil_append, List.append_nil, Nat.zero_add, Nat.add_zero, Nat.reduceAdd, Nat.reduceBEq, Nat.reduceEqDiff, Nat.ble, BEq.rfl, Bool.and_true, Bool.and_self, cond_true, beq_self_eq_true]; rfl) ?_)
    clear hl hh a w; intro k11 a w hl hh
    refine wl (wl_val hl rfl trivial (r_assign hl rfl) ?_)
    clear hl a; intro a hl
    refine w_nil ?_
    have hl2 := hl.add (t := 2) (hl.nil) rfl; clear hl; have hl := hl2; clear hl2
    refine then_normal ?_
    refine wp_ret ?_
    refine then_ret ?_
    refine f_ret1 (F' := [(k11, C [.slice (some ⟨k10, 0, none⟩) 0 0] 58), (k10, C [] 3)]) hl hh rfl rfl (by repeat (first | exact keeps_nil | apply keeps_cons (by repeat (first | exact find_head | apply find_tail)) (by first  | rfl) | exact keeps_self | apply keeps_mv)) ?_
    exact ⟨[⟨[], k10, 0, []⟩], some ⟨k11, 0, none⟩, 1, [(k11, C [.slice (some ⟨k10, 0, none⟩) 0 0] 58)], ⟨rfl, fun o ho => (by rw [List.mem_singleton.1 ho]; exact ⟨rfl, Nat.le_refl _⟩)⟩, rfl, .inr ⟨k11, 1, [], rfl, rfl, rfl, Nat.le_refl _, rfl⟩, rfl⟩
  · intro hc0
    try simp only [decide_eq_true_eq, decide_eq_false_iff_not, Bool.not_eq_true', Bool.not_eq_false', Bool.not_eq_true, Bool.not_eq_false, Bool.and_eq_true, Bool.or_eq_true, Bool.and_eq_false_iff, Bool.or_eq_false_iff, Bool.not_not, ne_eq, Int.not_lt, Int.not_le, Decidable.not_not, beq_iff_eq, bne_iff_ne] at hc0
    exfalso; first | contradiction | omega | (simp at hc0; done)

set_option maxHeartbeats 8000000 in
theorem ordS_spec (n : Nat) (hn : n ≤ 4) (ih : Sp Tryz.prog 69 #[.int .i64 (n : Int)] [] (fun v F' => ∃ (os : List OV) (p : Option Addr) (c : Nat) (E : List (Nat × Obj)), (os.map OV.l = ordN n ∧ ∀ o, o ∈ os → o.ok) ∧ v = .slice p os.length c ∧ Row (.slice p os.length c) os.length (fl OV.c1 os) 1 58 E ∧ F' = E ++ os.flatMap OV.E)) : Sp Tryz.prog 69 #[.int .i64 ((n : Int) + 1)] [] (fun v F' => ∃ (os : List OV) (p : Option Addr) (c : Nat) (E : List (Nat × Obj)), (os.map OV.l = ordN (n + 1) ∧ ∀ o, o ∈ os → o.ok) ∧ v = .slice p os.length c ∧ Row (.slice p os.length c) os.length (fl OV.c1 os) 1 58 E ∧ F' = E ++ os.flatMap OV.E) := by
  refine f_enter (args := [.int .i64 ((n : Int) + 1)]) Tryz.func69 rfl Tryz.ntmps69 rfl ?_
  intro w0 w a hpre hl hh
  simp only [slotsFrom, Nat.reduceAdd] at hl
  refine c_seq ?_
  refine c_region ?_
  refine wl (wl_val hl rfl trivial (r_assign hl rfl) ?_)
  clear hl a; intro a hl
  refine w_nil ?_
  have hl2 := hl.add (t := 0) (hl.nil) rfl; clear hl; have hl := hl2; clear hl2
  refine then_normal ?_
  refine c_seq ?_
  refine c_seq ?_
  refine c_region ?_
  refine wl (wl_val hl rfl trivial (r_move hl rfl) ?_)
  clear hl a; intro a hl
  refine wl (wl_val hl rfl trivial (r_eql hl rfl rfl) ?_)
  clear hl a; intro a hl
  refine w_nil ?_
  have hl2 := hl.add (t := 0) (hl.add (t := 9) (hl.nil) rfl) rfl; clear hl; have hl := hl2; clear hl2
  refine then_normal ?_
  refine c_cond hl rfl ?_ ?_
  · intro hc0
    try simp only [decide_eq_true_eq, decide_eq_false_iff_not, Bool.not_eq_true', Bool.not_eq_false', Bool.not_eq_true, Bool.not_eq_false, Bool.and_eq_true, Bool.or_eq_true, Bool.and_eq_false_iff, Bool.or_eq_false_iff, Bool.not_not, ne_eq, Int.not_lt, Int.not_le, Decidable.not_not, beq_iff_eq, bne_iff_ne] at hc0
    exfalso; first | contradiction | omega
  · intro hc0
    try simp only [decide_eq_true_eq, decide_eq_false_iff_not, Bool.not_eq_true', Bool.not_eq_false', Bool.not_eq_true, Bool.not_eq_false, Bool.and_eq_true, Bool.or_eq_true, Bool.and_eq_false_iff, Bool.or_eq_false_iff, Bool.not_not, ne_eq, Int.not_lt, Int.not_le, Decidable.not_not, beq_iff_eq, bne_iff_ne] at hc0
    refine wp_skip ?_
    refine then_normal ?_
    refine c_seq ?_
    refine c_region ?_
    refine wl (wl_val hl rfl trivial (r_assign hl rfl) ?_)
    clear hl a; intro a hl
    refine w_nil ?_
    have hl2 := hl.add (t := 0) (hl.add (t := 3) (hl.nil) rfl) rfl; clear hl; have hl := hl2; clear hl2
    refine then_normal ?_
    refine c_seq ?_
    refine c_seq ?_
    refine c_region ?_
    refine wl (wl_val hl rfl trivial (r_move hl rfl) ?_)
    clear hl a; intro a hl
    first | refine wl (wl_val hl rfl trivial (r_sub hl rfl rfl (by simp only [Fits]; omega)) ?_) | refine wl (wl_val hl rfl trivial (r_subW hl rfl rfl) ?_)
    clear hl a; intro a hl
    rw [show (n : Int) + 1 - 1 = (n : Int) by omega] at hl
    refine wl (w_call hl hh rfl trivial rfl cal69 rfl (ih) (by repeat (first | exact keeps_nil | apply keeps_cons (by repeat (first | exact find_head | apply find_tail | apply find_skip)) (by first  | rfl) | exact keeps_self | exact keeps_left | apply keeps_app | apply keeps_mv | apply keeps_skip)) trivial ?_)
    clear hl hh a w; intro vc Fc a w hR hl hh
    obtain ⟨os, p0, c0, E0, ⟨hom, hos⟩, rfl, hR0, rfl⟩ := hR
    try simp only [List.cons_append, List.nil_append, List.append_assoc, List.append_nil] at hh
    have hol : os.length ≤ 120 := by have h9 := congrArg List.length hom; rw [List.length_map] at h9; have := ord_small (n := n) (by omega); omega
    refine wl (wl_val hl rfl trivial (r_lenS hl rfl slc149) ?_)
    clear hl a; intro a hl
    refine wl (wl_val hl rfl trivial (r_move hl rfl) ?_)
    clear hl a; intro a hl
    refine w_nil ?_
    have hl2 := hl.add (t := 0) (hl.add (t := 3) (hl.add (t := 14) (hl.add (t := 15) (hl.add (t := 16) (hl.nil) rfl) rfl) rfl) rfl) rfl; clear hl; have hl := hl2; clear hl2
    refine then_normal ?_
    refine wp_block ?_
    obtain ⟨KS0, hKS0, hk⟩ := (hl.add (t := 0) (hl.add (t := 14) (hl.add (t := 15) (hl.nil) rfl) rfl) rfl).name
    obtain ⟨HS0, hHS0, hh2⟩ := hh.nameT (A := []) (U := []) ((by repeat (first | exact keeps_nil | exact keeps_self | exact keeps_left | apply keeps_app | apply keeps_mv | apply keeps_skip)))
    refine c_loop (α := OZ) (fun z => os.length - z.i) (fun z a w => (z.i ≤ os.length ∧ OZI n z ∧ Row (.slice z.p z.out.length z.c) z.out.length (fl OV.c1 z.out) 1 58 z.E) ∧ Sl 47 ([(16, .int .i64 (z.i : Int)), (3, .slice z.p z.out.length z.c)] ++ KS0) a ∧ Has _ w0 ([] ++ (HS0 ++ OZ.T z)) w) ⟨0, [], none, 0, []⟩ ⟨⟨Nat.zero_le _, ⟨rfl, fun o h => by cases h⟩, Row.nil _ _⟩, hl.addE (t := 16) (hl.addE (t := 3) (hk) rfl (by first | rfl)) rfl (by first | rfl), (by simp only [OZ.T]; exact hh2)⟩ ?_
    clear hk hh2 hl hh a w
    intro z a w hI
    obtain ⟨⟨hzi, hz, hzR⟩, hl, hh⟩ := hI
    subst hKS0; subst hHS0
    simp only [List.cons_append, List.nil_append, List.append_nil, List.append_assoc] at hl hh
    simp only [OZ.T] at hh
    refine c_seq ?_
    refine c_region ?_
    refine wl (wl_val hl rfl trivial (r_lss hl rfl rfl) ?_)
    clear hl a; intro a hl
    refine w_nil ?_
    have hl2 := hl.add (t := 0) (hl.add (t := 3) (hl.add (t := 14) (hl.add (t := 15) (hl.add (t := 16) (hl.add (t := 17) (hl.nil) rfl) rfl) rfl) rfl) rfl) rfl; clear hl; have hl := hl2; clear hl2
    refine then_normal ?_
    refine c_seq ?_
    refine c_cond hl rfl ?_ ?_
    · intro hc1
      try simp only [decide_eq_true_eq, decide_eq_false_iff_not, Bool.not_eq_true', Bool.not_eq_false', Bool.not_eq_true, Bool.not_eq_false, Bool.and_eq_true, Bool.or_eq_true, Bool.and_eq_false_iff, Bool.or_eq_false_iff, Bool.not_not, ne_eq, Int.not_lt, Int.not_le, Decidable.not_not, beq_iff_eq, bne_iff_ne] at hc1
      obtain ⟨s, hs⟩ : ∃ s, os[z.i]? = some s := ⟨_, List.getElem?_eq_getElem (by omega)⟩
      have hsm := List.mem_of_getElem? hs
      have hso := hos s hsm
      have hsn : (ordN n)[z.i]? = some s.l := by rw [← hom]; exact map_at OV.l hs
      have hsl : s.l.length = n := ord_len (List.mem_of_getElem? hsn)
      obtain ⟨b1, j1, hq1, hjl1, hjc1, hE1⟩ := row_pos hR0 (by omega)
      have hmem1 : (b1, C (fl OV.c1 os ++ j1) 58) ∈ E0 := by rw [hE1]; exact List.mem_singleton.2 rfl
      have hmemS : (s.b, C (fl iI s.l ++ s.j) 3) ∈ List.flatMap OV.E os := List.mem_flatMap.2 ⟨s, hsm, List.mem_singleton.2 rfl⟩
      rw [hq1] at hl
      have hd1 := fl_cell1 (f := OV.c1) (g := OV.v) (fun _ => rfl) hs j1
      simp only [OV.v] at hd1
      have hzo := cnt_bd hn hz
      have hfi := fl_len iI_len s.l
      have h5 : ((fl iI s.l ++ s.j).drop 0).take (fl iI s.l).length = fl iI s.l := by rw [List.drop_zero, List.take_left]
      have hsle := hso.le
      refine wp_skip ?_
      refine then_normal ?_
      refine c_seq ?_
      refine wp_block ?_
      refine c_seq ?_
      refine c_region ?_
      refine wl (wl_val hl rfl trivial (r_indexS hl rfl rfl slc149 (by omega) (by omega) (by first | (simp only [Int.reduceToNat]; rfl) | exact toNat_add1 _ | exact toNat_add2 _ _ | exact toNat_emod _ _ | exact Int.toNat_natCast _ | rfl)) ?_)
      clear hl a; intro a hl
      first | refine wl (w_load hl hh rfl trivial one58 rfl (by repeat (first | exact find_head | apply find_tail | apply find_skip)) (by first | rfl) ?_) | refine wl (wl_val hl rfl trivial (r_load hl rfl one58 (hh.mem _ _ (by repeat (first | exact hmem1 | exact List.mem_append_left _ hmem1 | apply List.mem_cons_of_mem | apply List.mem_append_right))) (List.getElem?_toArray.trans hd1)) ?_)
      clear hl a; intro a hl
      refine wl (wl_val hl rfl trivial (r_assign hl rfl) ?_)
      clear hl a; intro a hl
      refine w_nil ?_
      have hl2 := hl.add (t := 0) (hl.add (t := 3) (hl.add (t := 5) (hl.add (t := 14) (hl.add (t := 15) (hl.add (t := 16) (hl.nil) rfl) rfl) rfl) rfl) rfl) rfl; clear hl; have hl := hl2; clear hl2
      refine then_normal ?_
      refine c_seq ?_
      refine c_region ?_
      refine wl (wl_val hl rfl trivial (r_assign hl rfl) ?_)
      clear hl a; intro a hl
      refine w_nil ?_
      have hl2 := hl.add (t := 0) (hl.add (t := 3) (hl.add (t := 5) (hl.add (t := 6) (hl.add (t := 14) (hl.add (t := 15) (hl.add (t := 16) (hl.nil) rfl) rfl) rfl) rfl) rfl) rfl) rfl; clear hl; have hl := hl2; clear hl2
      refine then_normal ?_
      refine wp_block ?_
      obtain ⟨KS1, hKS1, hk⟩ := (hl.add (t := 0) (hl.add (t := 5) (hl.add (t := 14) (hl.add (t := 15) (hl.add (t := 16) (hl.nil) rfl) rfl) rfl) rfl) rfl).name
      obtain ⟨HS1, hHS1, hh2⟩ := hh.nameT (A := []) (U := OZ.T z) ((by repeat (first | exact keeps_nil | exact keeps_self | exact keeps_left | apply keeps_app | apply keeps_mv | apply keeps_skip)))
      refine c_loop (α := OZ) (fun u => s.l.length + 1 - u.i) (fun u a w => ((u.i ≤ s.l.length + 1 ∧ u.out.length = z.out.length + u.i) ∧ OUI n (z.out.map OV.l) s.l u ∧ Row (.slice u.p u.out.length u.c) u.out.length (fl OV.c1 u.out) 1 58 u.E) ∧ Sl 47 ([(6, .int .i64 (u.i : Int)), (3, .slice u.p u.out.length u.c)] ++ KS1) a ∧ Has _ w0 ([] ++ (HS1 ++ OZ.T u)) w) ⟨0, z.out, z.p, z.c, z.E⟩ ⟨⟨⟨Nat.zero_le _, rfl⟩, ⟨by simp, hz.ok⟩, hzR⟩, hl.addE (t := 6) (hl.addE (t := 3) (hk) rfl (by first | rfl)) rfl (by first | rfl), (by simp only [OZ.T]; exact hh2)⟩ ?_
      clear hk hh2 hl hh a w
      intro u a w hI
      obtain ⟨⟨⟨hui, huo⟩, hu, huR⟩, hl, hh⟩ := hI
      subst hKS1; subst hHS1
      simp only [List.cons_append, List.nil_append, List.append_nil, List.append_assoc] at hl hh
      simp only [OZ.T] at hh
      refine c_seq ?_
      refine c_seq ?_
      refine c_region ?_
      refine wl (wl_val hl rfl trivial (r_move hl rfl) ?_)
      clear hl a; intro a hl
      refine wl (wl_val hl rfl trivial (r_move hl rfl) ?_)
      clear hl a; intro a hl
      refine wl (wl_val hl rfl trivial (r_lenS hl rfl slc58) ?_)
      clear hl a; intro a hl
      refine wl (wl_val hl rfl trivial (r_leq hl rfl rfl) ?_)
      clear hl a; intro a hl
      refine w_nil ?_
      have hl2 := hl.add (t := 0) (hl.add (t := 3) (hl.add (t := 5) (hl.add (t := 6) (hl.add (t := 14) (hl.add (t := 15) (hl.add (t := 16) (hl.add (t := 23) (hl.nil) rfl) rfl) rfl) rfl) rfl) rfl) rfl) rfl; clear hl; have hl := hl2; clear hl2
      refine then_normal ?_
      refine c_cond hl rfl ?_ ?_
      · intro hc2
        try simp only [decide_eq_true_eq, decide_eq_false_iff_not, Bool.not_eq_true', Bool.not_eq_false', Bool.not_eq_true, Bool.not_eq_false, Bool.and_eq_true, Bool.or_eq_true, Bool.and_eq_false_iff, Bool.or_eq_false_iff, Bool.not_not, ne_eq, Int.not_lt, Int.not_le, Decidable.not_not, beq_iff_eq, bne_iff_ne] at hc2
        have hv1 := vw_take (Z := [(s.b, C (fl iI s.l ++ s.j) 3)]) (size := 1) (m := s.l.length) (c := s.c) (i := u.i) (List.mem_singleton.2 rfl) h5 hfi (by omega) hsle
        have hv2 := vw_drop (Z := [(s.b, C (fl iI s.l ++ s.j) 3)]) (size := 1) (m := s.l.length) (c := s.c) (i := u.i) (List.mem_singleton.2 rfl) h5 hfi (by omega) hsle
        rw [fl_takeS iI_len _ _ (by omega)] at hv1
        rw [fl_dropS iI_len _ _ (by omega)] at hv2
        refine wp_skip ?_
        refine then_normal ?_
        refine c_seq ?_
        refine wp_block ?_
        refine c_seq ?_
        refine c_region ?_
        refine wl (w_buildSlice0 hl hh rfl trivial app58 ?_)
        clear hl hh a w; intro k26 a w hl hh
        refine wl (wl_val hl rfl trivial (r_move hl rfl) ?_)
        clear hl a; intro a hl
        refine wl (wl_val hl rfl trivial (r_move hl rfl) ?_)
        clear hl a; intro a hl
        refine wl (wl_val hl rfl trivial (r_sliceS01 (by intro q e; first | (cases e; rfl) | (cases e; done)) hl rfl rfl slc58 (by omega) (by first | (simp only [Int.reduceToNat]; rfl) | exact toNat_add1 _ | exact toNat_add2 _ _ | exact toNat_emod _ _ | exact Int.toNat_natCast _ | rfl)) ?_)
        clear hl a; intro a hl
        refine wl (w_appendV hl hh rfl trivial app58 rfl rfl rfl (row0 k26 1 3) (by repeat (first | exact keeps_nil | apply keeps_cons (by repeat (first | exact find_head | apply find_tail | apply find_skip)) (by first  | rfl) | exact keeps_self | exact keeps_left | apply keeps_app | apply keeps_mv | apply keeps_skip)) hv1 (fun b o m => by rw [List.mem_singleton] at m; cases m; exact hh.mem _ _ (by repeat (first | exact hmemS | exact List.mem_append_left _ hmemS | apply List.mem_cons_of_mem | apply List.mem_append_right))) (fl_all iI_one _) (by omega) (by omega) (by decide) ?_)
        clear hl hh a w; intro rv2 E2 a w hR2 hl hh
        have hh3 := hh.comm; clear hh; have hh := hh3; clear hh3
        try simp only [List.cons_append, List.nil_append, List.append_assoc, List.append_nil] at hh
        refine wl (wl_val hl rfl trivial (r_assign hl rfl) ?_)
        clear hl a; intro a hl
        refine w_nil ?_
        have hl2 := hl.add (t := 0) (hl.add (t := 3) (hl.add (t := 5) (hl.add (t := 6) (hl.add (t := 7) (hl.add (t := 14) (hl.add (t := 15) (hl.add (t := 16) (hl.nil) rfl) rfl) rfl) rfl) rfl) rfl) rfl) rfl; clear hl; have hl := hl2; clear hl2
        refine then_normal ?_
        refine c_seq ?_
        refine c_region ?_
        refine wl (wl_val hl rfl trivial (r_move hl rfl) ?_)
        clear hl a; intro a hl
        refine wl (wl_val hl rfl trivial (r_move hl rfl) ?_)
        clear hl a; intro a hl
        first | refine wl (wl_val hl rfl trivial (r_sub hl rfl rfl (by simp only [Fits]; omega)) ?_) | refine wl (wl_val hl rfl trivial (r_subW hl rfl rfl) ?_)
        clear hl a; intro a hl
        rw [show (n : Int) + 1 - 1 = (n : Int) by omega] at hl
        refine wl (w_buildSlice hl hh rfl trivial app58 zero3 rfl rfl rfl rfl rfl (by simp only [fillL, arrPl, List.range_succ, List.range_zero, List.map_cons, List.map_nil, List.map_append, List.nil_append, List.replicate_succ, List.replicate_zero, List.flatten_cons, List.flatten_nil, Nat.zero_mul, Nat.mul_one, Nat.one_mul, Nat.reduceMul, setL, List.getElem?_cons_zero, List.getElem?_cons_succ, Value.cells, List.take_zero, List.take_succ_cons, List.take_nil, List.drop_zero, List.drop_succ_cons, List.drop_nil, List.length_cons, List.length_nil, List.cons_append, List.nil_append, List.append_nil, Nat.zero_add, Nat.add_zero, Nat.reduceAdd, Nat.reduceBEq, Nat.reduceEqDiff, Nat.ble, BEq.rfl, Bool.and_true, Bool.and_self, cond_true, beq_self_eq_true]; rfl) ?_)
        clear hl hh a w; intro k34 a w hl hh
        refine wl (w_append (news := [.int .i64 (n : Int)]) hl hh rfl trivial app58 rfl rfl rfl hR2 (by repeat (first | exact keeps_nil | apply keeps_cons (by repeat (first | exact find_head | apply find_tail | apply find_skip)) (by first  | rfl) | exact keeps_self | exact keeps_left | apply keeps_app | apply keeps_mv | apply keeps_skip)) (hh.mem _ _ (Find.mem (by repeat (first | exact find_head | apply find_tail | apply find_skip)))) rfl rfl rfl (by omega) (by omega) (by omega) (by decide) ?_)
        clear hl hh a w; intro rv3 E3 a w hR3 hl hh
        have hh3 := hh.comm; clear hh; have hh := hh3; clear hh3
        try simp only [List.cons_append, List.nil_append, List.append_assoc, List.append_nil] at hh
        refine wl (wl_val hl rfl trivial (r_assign hl rfl) ?_)
        clear hl a; intro a hl
        refine w_nil ?_
        have hl2 := hl.add (t := 0) (hl.add (t := 3) (hl.add (t := 5) (hl.add (t := 6) (hl.add (t := 7) (hl.add (t := 14) (hl.add (t := 15) (hl.add (t := 16) (hl.nil) rfl) rfl) rfl) rfl) rfl) rfl) rfl) rfl; clear hl; have hl := hl2; clear hl2
        refine then_normal ?_
        refine c_seq ?_
        refine c_region ?_
        refine wl (wl_val hl rfl trivial (r_move hl rfl) ?_)
        clear hl a; intro a hl
        refine wl (wl_val hl rfl trivial (r_move hl rfl) ?_)
        clear hl a; intro a hl
        refine wl (wl_val hl rfl trivial (r_move hl rfl) ?_)
        clear hl a; intro a hl
        refine wl (wl_val hl rfl trivial (r_sliceS10x hl rfl rfl slc58 (by omega) (by first | (simp only [Int.reduceToNat]; rfl) | exact toNat_add1 _ | exact toNat_add2 _ _ | exact toNat_emod _ _ | exact Int.toNat_natCast _ | rfl)) ?_)
        clear hl a; intro a hl
        refine wl (w_appendV hl hh rfl trivial app58 rfl rfl rfl hR3 (by repeat (first | exact keeps_nil | apply keeps_cons (by repeat (first | exact find_head | apply find_tail | apply find_skip)) (by first  | rfl) | exact keeps_self | exact keeps_left | apply keeps_app | apply keeps_mv | apply keeps_skip)) hv2 (fun b o m => by rw [List.mem_singleton] at m; cases m; exact hh.mem _ _ (by repeat (first | exact hmemS | exact List.mem_append_left _ hmemS | apply List.mem_cons_of_mem | apply List.mem_append_right))) (fl_all iI_one _) (by omega) (by omega) (by decide) ?_)
        clear hl hh a w; intro rv4 E4 a w hR4 hl hh
        have hh3 := hh.comm; clear hh; have hh := hh3; clear hh3
        try simp only [List.cons_append, List.nil_append, List.append_assoc, List.append_nil] at hh
        refine wl (wl_val hl rfl trivial (r_assign hl rfl) ?_)
        clear hl a; intro a hl
        refine w_nil ?_
        have hl2 := hl.add (t := 0) (hl.add (t := 3) (hl.add (t := 5) (hl.add (t := 6) (hl.add (t := 7) (hl.add (t := 14) (hl.add (t := 15) (hl.add (t := 16) (hl.nil) rfl) rfl) rfl) rfl) rfl) rfl) rfl) rfl; clear hl; have hl := hl2; clear hl2
        obtain ⟨p5, c5, hv5⟩ := row_val hR4
        subst hv5
        rw [← insA_len (n : Int) s.l (show u.i ≤ s.l.length by omega), ← insA_fl] at hR4
        rw [← insA_len (n : Int) s.l (show u.i ≤ s.l.length by omega)] at hl
        have hins := insA_len (n : Int) s.l (show u.i ≤ s.l.length by omega)
        obtain ⟨b5, j5, hq5, hj5, hle5, hE5⟩ := row_pos hR4 (by omega)
        subst hq5
        rw [hE5] at hh
        try simp only [List.cons_append, List.nil_append, List.append_assoc, List.append_nil] at hh
        refine then_normal ?_
        refine c_region ?_
        refine wl (wl_val hl rfl trivial (r_move hl rfl) ?_)
        clear hl a; intro a hl
        refine wl (wl_val hl rfl trivial (r_move hl rfl) ?_)
        clear hl a; intro a hl
        refine wl (w_buildSlice hl hh rfl trivial app149 zero58 rfl rfl rfl rfl rfl (by simp only [fillL, arrPl, List.range_succ, List.range_zero, List.map_cons, List.map_nil, List.map_append, List.nil_append, List.replicate_succ, List.replicate_zero, List.flatten_cons, List.flatten_nil, Nat.zero_mul, Nat.mul_one, Nat.one_mul, Nat.reduceMul, setL, List.getElem?_cons_zero, List.getElem?_cons_succ, Value.cells, List.take_zero, List.take_succ_cons, List.take_nil, List.drop_zero, List.drop_succ_cons, List.drop_nil, List.length_cons, List.length_nil, List.cons_append, List.nil_append, List.append_nil, Nat.zero_add, Nat.add_zero, Nat.reduceAdd, Nat.reduceBEq, Nat.reduceEqDiff, Nat.ble, BEq.rfl, Bool.and_true, Bool.and_self, cond_true, beq_self_eq_true]; rfl) ?_)
        clear hl hh a w; intro k43 a w hl hh
        refine wl (w_append (news := [.slice (some ⟨b5, 0, none⟩) (insA (n : Int) s.l u.i).length c5]) hl hh rfl trivial app149 rfl rfl rfl huR (by repeat (first | exact keeps_nil | apply keeps_cons (by repeat (first | exact find_head | apply find_tail | apply find_skip)) (by first  | rfl) | exact keeps_self | exact keeps_left | apply keeps_app | apply keeps_mv | apply keeps_skip)) (hh.mem _ _ (Find.mem (by repeat (first | exact find_head | apply find_tail | apply find_skip)))) rfl rfl rfl (by omega) (by omega) (by omega) (by decide) ?_)
        clear hl hh a w; intro rv6 E6 a w hR6 hl hh
        have hh3 := hh.comm; clear hh; have hh := hh3; clear hh3
        try simp only [List.cons_append, List.nil_append, List.append_assoc, List.append_nil] at hh
        refine wl (wl_val hl rfl trivial (r_assign hl rfl) ?_)
        clear hl a; intro a hl
        refine w_nil ?_
        have hl2 := hl.add (t := 0) (hl.add (t := 3) (hl.add (t := 5) (hl.add (t := 6) (hl.add (t := 14) (hl.add (t := 15) (hl.add (t := 16) (hl.nil) rfl) rfl) rfl) rfl) rfl) rfl) rfl; clear hl; have hl := hl2; clear hl2
        obtain ⟨p6, c6, hv6⟩ := row_val hR6
        subst hv6
        refine blk_normal ?_
        refine then_normal ?_
        refine c_region ?_
        refine wl (wl_val hl rfl trivial (r_move hl rfl) ?_)
        clear hl a; intro a hl
        first | refine wl (wl_val hl rfl trivial (r_add hl rfl rfl (by simp only [Fits]; omega)) ?_) | refine wl (wl_val hl rfl trivial (r_addW hl rfl rfl) ?_)
        clear hl a; intro a hl
        refine wl (wl_val hl rfl trivial (r_assign hl rfl) ?_)
        clear hl a; intro a hl
        refine w_nil ?_
        have hl2 := hl.add (t := 0) (hl.add (t := 3) (hl.add (t := 5) (hl.add (t := 6) (hl.add (t := 14) (hl.add (t := 15) (hl.add (t := 16) (hl.nil) rfl) rfl) rfl) rfl) rfl) rfl) rfl; clear hl; have hl := hl2; clear hl2
        refine then_normal ?_
        refine ⟨⟨u.i + 1, u.out ++ [⟨insA (n : Int) s.l u.i, b5, c5, j5⟩], p6, c6, E6⟩, (by simp only; omega), ⟨⟨by simp only; omega, by simp only [List.length_append, List.length_singleton]; omega⟩, hu.next ⟨hj5, hle5⟩ rfl, by simp only [List.length_append, List.length_singleton]; rw [fl_app, fl_sing]; exact hR6⟩, hl.addE (t := 6) (hl.addE (t := 3) (hl.addE (t := 0) (hl.addE (t := 5) (hl.addE (t := 14) (hl.addE (t := 15) (hl.addE (t := 16) (hl.nil) rfl (by first | rfl | exact congrArg (Value.int .i64) (show (u.i : Int) + 1 = ((u.i + 1 : Nat) : Int) by omega) | (simp only [List.length_append, List.length_singleton]; done))) rfl (by first | rfl | exact congrArg (Value.int .i64) (show (u.i : Int) + 1 = ((u.i + 1 : Nat) : Int) by omega) | (simp only [List.length_append, List.length_singleton]; done))) rfl (by first | rfl | exact congrArg (Value.int .i64) (show (u.i : Int) + 1 = ((u.i + 1 : Nat) : Int) by omega) | (simp only [List.length_append, List.length_singleton]; done))) rfl (by first | rfl | exact congrArg (Value.int .i64) (show (u.i : Int) + 1 = ((u.i + 1 : Nat) : Int) by omega) | (simp only [List.length_append, List.length_singleton]; done))) rfl (by first | rfl | exact congrArg (Value.int .i64) (show (u.i : Int) + 1 = ((u.i + 1 : Nat) : Int) by omega) | (simp only [List.length_append, List.length_singleton]; done))) rfl (by first | rfl | exact congrArg (Value.int .i64) (show (u.i : Int) + 1 = ((u.i + 1 : Nat) : Int) by omega) | (simp only [List.length_append, List.length_singleton]; done))) rfl (by first | rfl | exact congrArg (Value.int .i64) (show (u.i : Int) + 1 = ((u.i + 1 : Nat) : Int) by omega) | (simp only [List.length_append, List.length_singleton]; done)), (by simp only [OZ.T, fmO_snoc, List.append_assoc]; exact hh.keep (by repeat (first | exact keeps_nil | apply keeps_cons (by repeat (first | exact find_head | apply find_tail | apply find_skip)) (by first  | rfl) | exact keeps_self | exact keeps_left | apply keeps_app | apply keeps_mv | apply keeps_skip)))⟩
      · intro hc2
        try simp only [decide_eq_true_eq, decide_eq_false_iff_not, Bool.not_eq_true', Bool.not_eq_false', Bool.not_eq_true, Bool.not_eq_false, Bool.and_eq_true, Bool.or_eq_true, Bool.and_eq_false_iff, Bool.or_eq_false_iff, Bool.not_not, ne_eq, Int.not_lt, Int.not_le, Decidable.not_not, beq_iff_eq, bne_iff_ne] at hc2
        have hue : u.i = s.l.length + 1 := by omega
        refine wp_exit ?_
        refine then_exit ?_
        refine then_exit ?_
        refine blk_exit ?_
        refine blk_normal ?_
        refine then_normal ?_
        refine c_region ?_
        first | refine wl (wl_val hl rfl trivial (r_add hl rfl rfl (by simp only [Fits]; omega)) ?_) | refine wl (wl_val hl rfl trivial (r_addW hl rfl rfl) ?_)
        clear hl a; intro a hl
        refine wl (wl_val hl rfl trivial (r_move hl rfl) ?_)
        clear hl a; intro a hl
        refine w_nil ?_
        have hl2 := hl.add (t := 0) (hl.add (t := 3) (hl.add (t := 14) (hl.add (t := 15) (hl.add (t := 16) (hl.nil) rfl) rfl) rfl) rfl) rfl; clear hl; have hl := hl2; clear hl2
        refine then_normal ?_
        refine ⟨⟨z.i + 1, u.out, u.p, u.c, u.E⟩, (by simp only; omega), ⟨by simp only; omega, hu.fin hz hsn hue, huR⟩, hl.addE (t := 16) (hl.addE (t := 3) (hl.addE (t := 0) (hl.addE (t := 14) (hl.addE (t := 15) (hl.nil) rfl (by first | rfl | exact congrArg (Value.int .i64) (show (z.i : Int) + 1 = ((z.i + 1 : Nat) : Int) by omega) | (rw [hq1]))) rfl (by first | rfl | exact congrArg (Value.int .i64) (show (z.i : Int) + 1 = ((z.i + 1 : Nat) : Int) by omega) | (rw [hq1]))) rfl (by first | rfl | exact congrArg (Value.int .i64) (show (z.i : Int) + 1 = ((z.i + 1 : Nat) : Int) by omega) | (rw [hq1]))) rfl (by first | rfl | exact congrArg (Value.int .i64) (show (z.i : Int) + 1 = ((z.i + 1 : Nat) : Int) by omega) | (rw [hq1]))) rfl (by first | rfl | exact congrArg (Value.int .i64) (show (z.i : Int) + 1 = ((z.i + 1 : Nat) : Int) by omega) | (rw [hq1])), hh.keep (by repeat (first | exact keeps_nil | apply keeps_cons (by repeat (first | exact find_head | apply find_tail | apply find_skip)) (by first  | rfl) | exact keeps_self | exact keeps_left | apply keeps_app | apply keeps_mv | apply keeps_skip))⟩
    · intro hc1
      try simp only [decide_eq_true_eq, decide_eq_false_iff_not, Bool.not_eq_true', Bool.not_eq_false', Bool.not_eq_true, Bool.not_eq_false, Bool.and_eq_true, Bool.or_eq_true, Bool.and_eq_false_iff, Bool.or_eq_false_iff, Bool.not_not, ne_eq, Int.not_lt, Int.not_le, Decidable.not_not, beq_iff_eq, bne_iff_ne] at hc1
      have hze : z.i = os.length := by omega
      refine wp_exit ?_
      refine then_exit ?_
      refine then_exit ?_
      refine blk_exit ?_
      refine then_normal ?_
      refine c_seq ?_
      refine c_region ?_
      refine wl (wl_val hl rfl trivial (r_move hl rfl) ?_)
      clear hl a; intro a hl
      refine wl (wl_val hl rfl trivial (r_assign hl rfl) ?_)
      clear hl a; intro a hl
      refine w_nil ?_
      have hl2 := hl.add (t := 2) (hl.nil) rfl; clear hl; have hl := hl2; clear hl2
      refine then_normal ?_
      refine wp_ret ?_
      refine f_ret1 (F' := z.E ++ z.out.flatMap OV.E) hl hh rfl rfl (by repeat (first | exact keeps_nil | apply keeps_cons (by repeat (first | exact find_head | apply find_tail | apply find_skip)) (by first  | rfl) | exact keeps_self | exact keeps_left | apply keeps_app | apply keeps_mv | apply keeps_skip)) ?_
      exact ⟨z.out, z.p, z.c, z.E, ⟨by rw [hz.e, hze, ← List.length_map (f := OV.l), hom, List.take_length]; rfl, hz.ok⟩, rfl, hzR, rfl⟩
end Go.Proofs.Qxb6500915aGreatDoor

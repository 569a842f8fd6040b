import Derived.Test.Qxb6500908aGreatZ9
namespace Go.Proofs.Qxb6500908aGreat
open Go.Eng
set_option linter.unusedVariables false
set_option linter.unusedSimpArgs false
theorem slc72 : slcOk Tryz.prog 72 1 = true := by kernel_rfl
theorem slc73 : slcOk Tryz.prog 73 64 = true := by kernel_rfl
def dif (x y : Option NtP) : Int × Int := match x, y with
  | some x, some y => (1, dfP x y 16)
  | _, _ => (0, 0)
theorem dif_n (y : Option NtP) : dif none y = (0, 0) := rfl
theorem dif_sn (x : NtP) : dif (some x) none = (0, 0) := rfl
theorem dif_ss (x y : NtP) : dif (some x) (some y) = (1, dfP x y 16) := rfl
theorem dif_b (x y : Option NtP) : (0 ≤ (dif x y).1 ∧ (dif x y).1 ≤ 1) ∧ (0 ≤ (dif x y).2 ∧ (dif x y).2 ≤ 65535) := by
  unfold dif
  split
  · exact ⟨by simp, dfP_b _ _ _⟩
  · simp
def vtk (vs : List Vr) (a : Int) (i : Nat) : Option NtP := verP ((vs.take i).map vrP) a
theorem vtk_0 (vs : List Vr) (a : Int) : vtk vs a 0 = none := rfl
theorem vtk_all (vs : List Vr) (a : Int) : vtk vs a vs.length = verP (vs.map vrP) a := by unfold vtk; rw [List.take_length]
theorem vtk_hit0 {vs : List Vr} {a : Int} {i : Nat} {x : Vr} (hn : ((vs.map vrP).map Prod.fst).Nodup) (h : vs[i]? = some x) (hx : x.id = a) : vtk vs a i = none := by
  unfold vtk
  refine ver_none fun k y hk hy he => ?_
  rw [List.length_take] at hk
  rw [List.getElem?_take, if_pos (by omega)] at hy
  have h1 : ((vs.map vrP).map Prod.fst)[i]? = some a := by rw [List.getElem?_map, List.getElem?_map, h, ← hx]; rfl
  have h2 : ((vs.map vrP).map Prod.fst)[k]? = some a := by rw [List.getElem?_map, List.getElem?_map, hy, ← he]; rfl
  have h3 : k < ((vs.map vrP).map Prod.fst).length := (List.getElem?_eq_some_iff.1 h2).1
  have := (List.getElem?_inj h3 hn).1 (h2.trans h1.symm)
  omega
theorem vtk_hit1 {vs : List Vr} {a : Int} {i : Nat} {x : Vr} (hn : ((vs.map vrP).map Prod.fst).Nodup) (h : vs[i]? = some x) (hx : x.id = a) : vtk vs a (i + 1) = some x.n.pl := by
  have h0 := vtk_hit0 hn h hx
  unfold vtk verP at h0 ⊢
  rw [tk_snoc h, List.map_append, List.find?_append, show (List.take i vs |>.map vrP).find? (fun v => decide (v.1 = a)) = none from Option.map_eq_none_iff.1 h0]
  simp only [Option.none_or, List.map_cons, List.map_nil]
  rw [show List.find? (fun v : Int × NtP => decide (v.1 = a)) [vrP x] = some (vrP x) by simp [List.find?, vrP, hx]]; rfl
theorem vtk_miss {vs : List Vr} {a : Int} {i : Nat} {x : Vr} (h : vs[i]? = some x) (hx : ¬ x.id = a) : vtk vs a (i + 1) = vtk vs a i := by
  unfold vtk verP
  rw [tk_snoc h, List.map_append, List.find?_append, List.map_cons, List.map_nil, show List.find? (fun v : Int × NtP => decide (v.1 = a)) [vrP x] = none by simp [List.find?, vrP, hx], Option.or_none]
/-- within a row -/
def dif1 (vs : List Vr) (a b : Int) (i : Nat) (x : Vr) (k : Nat) : Int × Int := if x.id = a then dif (some x.n.pl) (vtk vs b k) else dif (vtk vs a i) (vtk vs b vs.length)
def dif0 (vs : List Vr) (a b : Int) (i : Nat) : Int × Int := dif (vtk vs a i) (vtk vs b vs.length)
theorem dif1_b (vs : List Vr) (a b : Int) (i : Nat) (x : Vr) (k : Nat) : (0 ≤ (dif1 vs a b i x k).1 ∧ (dif1 vs a b i x k).1 ≤ 1) ∧ (0 ≤ (dif1 vs a b i x k).2 ∧ (dif1 vs a b i x k).2 ≤ 65535) := by
  unfold dif1; split <;> exact dif_b _ _
theorem dif1_0 {vs : List Vr} {a b : Int} {i : Nat} {x : Vr} (hn : ((vs.map vrP).map Prod.fst).Nodup) (h : vs[i]? = some x) : dif1 vs a b i x 0 = dif0 vs a b i := by
  unfold dif1 dif0
  split
  · rename_i e; rw [vtk_0, vtk_hit0 hn h e]; rfl
  · rfl
theorem dif1_n {vs : List Vr} {a b : Int} {i : Nat} {x : Vr} (hn : ((vs.map vrP).map Prod.fst).Nodup) (h : vs[i]? = some x) : dif1 vs a b i x vs.length = dif0 vs a b (i + 1) := by
  unfold dif1 dif0
  split
  · rename_i e; rw [vtk_hit1 hn h e]
  · rename_i e; rw [vtk_miss h e]
theorem dif1_y0 {vs : List Vr} {a b : Int} {i k : Nat} {x y : Vr} (hn : ((vs.map vrP).map Prod.fst).Nodup) (hx : x.id = a) (hk : vs[k]? = some y) (hy : y.id = b) : dif1 vs a b i x k = (0, 0) := by
  unfold dif1; rw [if_pos hx, vtk_hit0 hn hk hy]; rfl
theorem dif1_y1 {vs : List Vr} {a b : Int} {i k : Nat} {x y : Vr} (hn : ((vs.map vrP).map Prod.fst).Nodup) (hx : x.id = a) (hk : vs[k]? = some y) (hy : y.id = b) : dif1 vs a b i x (k + 1) = (1, dfP x.n.pl y.n.pl 16) := by
  unfold dif1; rw [if_pos hx, vtk_hit1 hn hk hy]; rfl
theorem dif1_x {vs : List Vr} {a b : Int} {i k : Nat} {x y : Vr} (hk : vs[k]? = some y) (h : ¬ (x.id = a ∧ y.id = b)) : dif1 vs a b i x (k + 1) = dif1 vs a b i x k := by
  unfold dif1
  split
  · rename_i e; rw [vtk_miss hk (fun e2 => h ⟨e, e2⟩)]
  · rfl
theorem sh1_v {d : Nat} (h : d < 16) : sh1 (d : Int) = ((2 ^ d : Nat) : Int) := by
  rcases (show d = 0 ∨ d = 1 ∨ d = 2 ∨ d = 3 ∨ d = 4 ∨ d = 5 ∨ d = 6 ∨ d = 7 ∨ d = 8 ∨ d = 9 ∨ d = 10 ∨ d = 11 ∨ d = 12 ∨ d = 13 ∨ d = 14 ∨ d = 15 by omega) with rfl | rfl | rfl | rfl | rfl | rfl | rfl | rfl | rfl | rfl | rfl | rfl | rfl | rfl | rfl | rfl <;> rfl
theorem orB_v {x y : Int} (hx : 0 ≤ x ∧ x ≤ 65535) (hy : 0 ≤ y ∧ y ≤ 65535) : orB x y = ((x.toNat ||| y.toNat : Nat) : Int) := by
  have h1 := orB_bd x y
  have h2 : (bv (orB x y)).toNat = x.toNat ||| y.toNat := by
    rw [bv_or, BitVec.toNat_or]
    unfold bv
    rw [BitVec.toNat_ofInt, BitVec.toNat_ofInt]
    congr 1 <;> omega
  unfold bv at h2
  rw [BitVec.toNat_ofInt] at h2
  omega
theorem df_lt (x y : NtP) : ∀ d, d ≤ 16 → dfP x y d < ((2 ^ d : Nat) : Int) ∧ (d < 16 → orB (dfP x y d) (sh1 (d : Int)) = dfP x y d + sh1 (d : Int))
  | 0, _ => by
    refine ⟨by unfold dfP; simp, fun _ => ?_⟩
    unfold dfP; rfl
  | d + 1, h => by
    have ih := df_lt x y d (by omega)
    have e := ih.2 (by omega)
    have hb := dfP_b x y (d + 1)
    have h1 : dfP x y (d + 1) < ((2 ^ (d + 1) : Nat) : Int) := by
      have hsv := sh1_v (d := d) (by omega)
      have hl := ih.1
      rw [show 2 ^ (d + 1) = 2 ^ d + 2 ^ d by rw [Nat.pow_succ]; omega, Int.natCast_add]
      unfold dfP
      generalize ((2 ^ d : Nat) : Int) = p at hsv hl ⊢
      split
      · have := dfP_b x y d; omega
      · rw [e, hsv]; omega
    refine ⟨h1, fun h16 => ?_⟩
    have hp : 2 ^ (d + 1) ≤ 65535 := by
      have : 2 ^ (d + 1) ≤ 2 ^ 15 := Nat.pow_le_pow_right (by omega) (by omega)
      omega
    have hs := sh1_v h16
    rw [orB_v hb (by rw [hs]; omega), hs]
    have := Nat.two_pow_add_eq_or_of_lt (i := d + 1) (b := (dfP x y (d + 1)).toNat) (by omega) 1
    rw [Nat.mul_one, Nat.or_comm] at this
    rw [Int.toNat_natCast, ← this]
    omega
theorem df_add {x y : NtP} {d : Nat} (h : d < 16) : orB (dfP x y d) (sh1 (d : Int)) = dfP x y d + sh1 (d : Int) ∧ 0 ≤ dfP x y d + sh1 (d : Int) ∧ dfP x y d + sh1 (d : Int) ≤ 65535 := by
  have h1 := (df_lt x y d (by omega)).2 h
  refine ⟨h1, ?_⟩
  rw [← h1]
  exact orB_bd _ _
theorem id_at {vs : List Vr} {i : Nat} {x : Vr} (h : vs[i]? = some x) (j : List Value) : (fl idc vs ++ j)[0 + i * 1]? = some (.int .u32 x.id) := by
  have h1 := fl_cell idc_len h (j := 0) (v := .int .u32 x.id) rfl j
  rw [Nat.add_zero] at h1; exact h1
theorem dif_fin0 {g : GtP} {vs : List Vr} (hon : g.off = false) (hv : vs.map vrP = g.st.vs) {a b : Int} (h : (dif0 vs a b vs.length).1 = 0) : diffP g a b = (0, 5) := by
  unfold dif0 at h
  rw [vtk_all, vtk_all, hv] at h
  cases h1 : verP g.st.vs a with
  | none => exact df_n hon (.inl h1)
  | some x =>
    cases h2 : verP g.st.vs b with
    | none => exact df_n hon (.inr h2)
    | some y => rw [h1, h2, dif_ss] at h; simp at h
theorem dif_fin1 {g : GtP} {vs : List Vr} (hon : g.off = false) (hv : vs.map vrP = g.st.vs) {a b : Int} (h : ¬ (dif0 vs a b vs.length).1 = 0) : diffP g a b = ((dif0 vs a b vs.length).2, 0) := by
  unfold dif0 at h ⊢
  rw [vtk_all, vtk_all, hv] at h ⊢
  cases h1 : verP g.st.vs a with
  | none => rw [h1, dif_n] at h; exact absurd rfl h
  | some x =>
    cases h2 : verP g.st.vs b with
    | none => rw [h1, h2, dif_sn] at h; exact absurd rfl h
    | some y => rw [df_y hon h1 h2, dif_ss]


attribute [local irreducible] NtV.k StV.c LdV.c StV.E GtV.c GtV.t DuV.c DuV.E MdV.c MdV.t orB sh1

set_option maxHeartbeats 4000000 in
theorem mdiff_spec (Z : List (Nat × Obj)) (mb : Nat) (m : MdV) (g : GtP) (l : LdP) (hm : MdR Z m g l) (hI : GtI g) (hsd : g.st = l.d) (hdn : l.dn = false) (hnd : (g.st.vs.map Prod.fst).Nodup) (ia ib : Int) : Sp Tryz.prog 110 #[.pointer (some ⟨mb, 0, none⟩), .int .u32 ia, .int .u32 ib] (MF mb m Z) (fun v F' => v = .tuple #[.int .u16 (diffP g ia ib).1, .int .u8 (diffP g ia ib).2] ∧ F' = MF mb m Z) := by
  refine f_enter (args := [.pointer (some ⟨mb, 0, none⟩), .int .u32 ia, .int .u32 ib]) Tryz.func110 rfl Tryz.ntmps110 rfl ?_
  intro w0 w a hpre hl hh
  have hst : m.d.pl = g.st := hm.d.trans hsd.symm
  have hup : m.up = true := by rw [hm.up, hI.on]; rfl
  have hph : m.d.ph = g.st.ph := congrArg StP.ph hst
  have hfi : m.d.fid = g.st.fid := congrArg StP.fid hst
  have hep : m.d.ep = g.st.ep := congrArg StP.ep hst
  have hqg := hm.qp
  have hql : m.q.length ≤ 8 := by have h9 := hI.ql; rw [← hqg, List.length_map] at h9; exact h9
  obtain ⟨rb, rl, rn, hrb, hrE, hrv, hrk, hrf⟩ := hm.r
  generalize hDD : List.map Prod.fst (MF mb m Z) = D at hh ⊢
  have hvl := hm.dok.vl; have hv1 := hm.dok.v1
  obtain ⟨b1, j1, hq1, hjl1, hjc1, hE1⟩ := row_pos hm.dok.a hv1
  obtain ⟨b2, j2, hq2, hjl2, hjc2, hE2⟩ := row_pos hm.dok.n (by rw [hm.dok.e]; exact hv1)
  simp only [MF, DuV.E_eq m.d, hE1, hE2, List.append_assoc, List.cons_append, List.nil_append] at hh
  have hvs : m.d.vs.map vrP = g.st.vs := congrArg StP.vs hst
  have hnv : ((m.d.vs.map vrP).map Prod.fst).Nodup := by rw [hvs]; exact hnd
  have hwl : m.d.ws.length = m.d.vs.length := by rw [hm.dok.e]
  simp only [slotsFrom, Nat.reduceAdd] at hl
  refine c_seq ?_
  refine c_region ?_
  refine wl (wl_val hl rfl trivial (r_assign hl rfl) ?_)
  clear hl a; intro a hl
  refine wl (wl_val hl rfl trivial (r_assign hl rfl) ?_)
  clear hl a; intro a hl
  refine w_nil ?_
  have hl2 := hl.add (t := 0) (hl.add (t := 1) (hl.add (t := 2) (hl.nil) rfl) rfl) rfl; clear hl; have hl := hl2; clear hl2
  refine then_normal ?_
  refine c_seq ?_
  refine c_seq ?_
  refine c_region ?_
  refine wl (wl_val hl rfl trivial (r_move hl rfl) ?_)
  clear hl a; intro a hl
  refine wl (wl_val hl rfl trivial (r_nilCheck hl rfl) ?_)
  clear hl a; intro a hl
  refine wl (wl_val hl rfl trivial (r_field hl rfl fld82_1) ?_)
  clear hl a; intro a hl
  refine wl (w_load hl hh rfl trivial one4 rfl (by repeat (first | exact find_head | apply find_tail | apply find_skip)) (by first | exact mdc_ep _ | exact mdc_a _ | exact mdc_n _ | exact mdc_i _ | exact mdc_ph _ | exact mdc_fid _ | exact mdc_vd _ | exact mdc_up _ | exact mdc_q _ | exact mdc_rf _ | exact mdc_tk _ | exact mdc_au _ | exact mdc_fl _ | exact mdc_fu _ | exact mdc_kp _ | exact duc_ep _ | exact duc_a _ | exact duc_n _ | exact duc_i _ | exact duc_ph _ | exact duc_fid _ | exact duc_vd _ | exact hxd | exact hyd | rfl) ?_)
  clear hl a; intro a hl
  refine wl (wl_val hl rfl trivial (r_not hl rfl) ?_)
  clear hl a; intro a hl
  refine w_nil ?_
  have hl2 := hl.add (t := 0) (hl.add (t := 1) (hl.add (t := 2) (hl.add (t := 19) (hl.nil) rfl) rfl) rfl) rfl; clear hl; have hl := hl2; clear hl2
  refine then_normal ?_
  refine c_cond hl rfl ?_ ?_
  · intro hc0
    try simp only [decide_eq_true_eq, decide_eq_false_iff_not, Bool.not_eq_true', Bool.not_eq_false', Bool.not_eq_true, Bool.not_eq_false, Bool.and_eq_true, Bool.or_eq_true, Bool.and_eq_false_iff, Bool.or_eq_false_iff, Bool.not_not, ne_eq, Int.not_lt, Int.not_le, Decidable.not_not, beq_iff_eq, bne_iff_ne] at hc0
    exfalso; first | contradiction | omega | (simp_all; done)
  · intro hc0
    try simp only [decide_eq_true_eq, decide_eq_false_iff_not, Bool.not_eq_true', Bool.not_eq_false', Bool.not_eq_true, Bool.not_eq_false, Bool.and_eq_true, Bool.or_eq_true, Bool.and_eq_false_iff, Bool.or_eq_false_iff, Bool.not_not, ne_eq, Int.not_lt, Int.not_le, Decidable.not_not, beq_iff_eq, bne_iff_ne] at hc0
    refine wp_skip ?_
    refine then_normal ?_
    refine c_seq ?_
    refine c_region ?_
    refine wl (wl_val hl rfl trivial (r_assign hl rfl) ?_)
    clear hl a; intro a hl
    refine w_nil ?_
    have hl2 := hl.add (t := 0) (hl.add (t := 1) (hl.add (t := 2) (hl.add (t := 8) (hl.nil) rfl) rfl) rfl) rfl; clear hl; have hl := hl2; clear hl2
    refine then_normal ?_
    refine c_seq ?_
    refine c_region ?_
    refine wl (wl_val hl rfl trivial (r_assign hl rfl) ?_)
    clear hl a; intro a hl
    refine w_nil ?_
    have hl2 := hl.add (t := 0) (hl.add (t := 1) (hl.add (t := 2) (hl.add (t := 8) (hl.add (t := 9) (hl.nil) rfl) rfl) rfl) rfl) rfl; clear hl; have hl := hl2; clear hl2
    refine then_normal ?_
    refine c_seq ?_
    refine c_seq ?_
    refine c_region ?_
    refine wl (wl_val hl rfl trivial (r_move hl rfl) ?_)
    clear hl a; intro a hl
    refine wl (wl_val hl rfl trivial (r_nilCheck hl rfl) ?_)
    clear hl a; intro a hl
    refine wl (wl_val hl rfl trivial (r_field hl rfl fld82_0) ?_)
    clear hl a; intro a hl
    refine wl (wl_val hl rfl trivial (r_field hl rfl fld78_1) ?_)
    clear hl a; intro a hl
    refine wl (w_load hl hh rfl trivial one72 rfl (by repeat (first | exact find_head | apply find_tail | apply find_skip)) (by first | exact mdc_ep _ | exact mdc_a _ | exact mdc_n _ | exact mdc_i _ | exact mdc_ph _ | exact mdc_fid _ | exact mdc_vd _ | exact mdc_up _ | exact mdc_q _ | exact mdc_rf _ | exact mdc_tk _ | exact mdc_au _ | exact mdc_fl _ | exact mdc_fu _ | exact mdc_kp _ | exact duc_ep _ | exact duc_a _ | exact duc_n _ | exact duc_i _ | exact duc_ph _ | exact duc_fid _ | exact duc_vd _ | exact hxd | exact hyd | rfl) ?_)
    clear hl a; intro a hl
    rw [hq1] at hl
    refine wl (wl_val hl rfl trivial (r_lenS hl rfl slc72) ?_)
    clear hl a; intro a hl
    refine wl (wl_val hl rfl trivial (r_move hl rfl) ?_)
    clear hl a; intro a hl
    refine w_nil ?_
    have hl2 := hl.add (t := 0) (hl.add (t := 1) (hl.add (t := 2) (hl.add (t := 8) (hl.add (t := 9) (hl.add (t := 24) (hl.add (t := 25) (hl.add (t := 26) (hl.nil) rfl) rfl) rfl) rfl) rfl) rfl) rfl) rfl; clear hl; have hl := hl2; clear hl2
    refine then_normal ?_
    refine wp_block ?_
    obtain ⟨KS0, hKS0, hk⟩ := (hl.add (t := 0) (hl.add (t := 1) (hl.add (t := 2) (hl.add (t := 24) (hl.add (t := 25) (hl.nil) rfl) rfl) rfl) rfl) rfl).name
    obtain ⟨HS0, hHS0, hh2⟩ := hh.name (keeps_nil)
    refine c_loop (α := Nat) (fun i => m.d.vs.length - i) (fun i a w => (i ≤ m.d.vs.length) ∧ Sl 86 ([(26, .int .i64 (i : Int)), (9, .int .i64 (dif0 m.d.vs ia ib i).1), (8, .int .u16 (dif0 m.d.vs ia ib i).2)] ++ KS0) a ∧ Has _ w0 ([] ++ HS0) w) 0 ⟨Nat.zero_le _, hl.addE (t := 26) (hl.addE (t := 9) (hl.addE (t := 8) (hk) rfl (by first | rfl)) rfl (by first | rfl)) rfl (by first | rfl), hh2⟩ ?_
    clear hk hh2 hl hh a w
    intro i a w hI
    obtain ⟨hi, hl, hh⟩ := hI
    subst hKS0; subst hHS0
    simp only [List.cons_append, List.nil_append, List.append_nil, List.append_assoc] at hl hh
    refine c_seq ?_
    refine c_region ?_
    refine wl (wl_val hl rfl trivial (r_lss hl rfl rfl) ?_)
    clear hl a; intro a hl
    refine w_nil ?_
    have hl2 := hl.add (t := 0) (hl.add (t := 1) (hl.add (t := 2) (hl.add (t := 8) (hl.add (t := 9) (hl.add (t := 24) (hl.add (t := 25) (hl.add (t := 26) (hl.add (t := 27) (hl.nil) rfl) rfl) rfl) rfl) rfl) rfl) rfl) rfl) rfl; clear hl; have hl := hl2; clear hl2
    refine then_normal ?_
    refine c_seq ?_
    refine c_cond hl rfl ?_ ?_
    · intro hc1
      try simp only [decide_eq_true_eq, decide_eq_false_iff_not, Bool.not_eq_true', Bool.not_eq_false', Bool.not_eq_true, Bool.not_eq_false, Bool.and_eq_true, Bool.or_eq_true, Bool.and_eq_false_iff, Bool.or_eq_false_iff, Bool.not_not, ne_eq, Int.not_lt, Int.not_le, Decidable.not_not, beq_iff_eq, bne_iff_ne] at hc1
      obtain ⟨x, hx⟩ : ∃ x, m.d.vs[i]? = some x := ⟨_, List.getElem?_eq_getElem (by omega)⟩
      have hxo := hm.dok.vo x (List.mem_of_getElem? hx)
      have hxd := id_at hx j1
      have hxw : m.d.ws[i]? = some x := by rw [hm.dok.e]; exact hx
      have hxn := fl_at ntc_len hxw j2
      refine wp_skip ?_
      refine then_normal ?_
      refine c_seq ?_
      refine wp_block ?_
      refine c_seq ?_
      refine c_region ?_
      refine wl (wl_val hl rfl trivial (r_move hl rfl) ?_)
      clear hl a; intro a hl
      refine wl (wl_val hl rfl trivial (r_indexS hl rfl rfl slc72 (by omega) (by omega) (by first | (simp only [Int.reduceToNat]; rfl) | exact toNat_add1 _ | exact toNat_add2 _ _ | exact toNat_emod _ _ | exact Int.toNat_natCast _ | rfl)) ?_)
      clear hl a; intro a hl
      refine wl (w_load hl hh rfl trivial one36 rfl (by repeat (first | exact find_head | apply find_tail | apply find_skip)) (by first | exact mdc_ep _ | exact mdc_a _ | exact mdc_n _ | exact mdc_i _ | exact mdc_ph _ | exact mdc_fid _ | exact mdc_vd _ | exact mdc_up _ | exact mdc_q _ | exact mdc_rf _ | exact mdc_tk _ | exact mdc_au _ | exact mdc_fl _ | exact mdc_fu _ | exact mdc_kp _ | exact duc_ep _ | exact duc_a _ | exact duc_n _ | exact duc_i _ | exact duc_ph _ | exact duc_fid _ | exact duc_vd _ | exact hxd | exact hyd | rfl) ?_)
      clear hl a; intro a hl
      refine wl (wl_val hl rfl trivial (r_assign hl rfl) ?_)
      clear hl a; intro a hl
      refine wl (wl_val hl rfl trivial (r_assign hl rfl) ?_)
      clear hl a; intro a hl
      refine w_nil ?_
      have hl2 := hl.add (t := 0) (hl.add (t := 1) (hl.add (t := 2) (hl.add (t := 8) (hl.add (t := 9) (hl.add (t := 10) (hl.add (t := 11) (hl.add (t := 24) (hl.add (t := 25) (hl.add (t := 26) (hl.nil) rfl) rfl) rfl) rfl) rfl) rfl) rfl) rfl) rfl) rfl; clear hl; have hl := hl2; clear hl2
      refine then_normal ?_
      refine c_seq ?_
      refine c_region ?_
      refine wl (wl_val hl rfl trivial (r_move hl rfl) ?_)
      clear hl a; intro a hl
      refine wl (wl_val hl rfl trivial (r_nilCheck hl rfl) ?_)
      clear hl a; intro a hl
      refine wl (wl_val hl rfl trivial (r_field hl rfl fld82_0) ?_)
      clear hl a; intro a hl
      refine wl (wl_val hl rfl trivial (r_field hl rfl fld78_1) ?_)
      clear hl a; intro a hl
      refine wl (w_load hl hh rfl trivial one72 rfl (by repeat (first | exact find_head | apply find_tail | apply find_skip)) (by first | exact mdc_ep _ | exact mdc_a _ | exact mdc_n _ | exact mdc_i _ | exact mdc_ph _ | exact mdc_fid _ | exact mdc_vd _ | exact mdc_up _ | exact mdc_q _ | exact mdc_rf _ | exact mdc_tk _ | exact mdc_au _ | exact mdc_fl _ | exact mdc_fu _ | exact mdc_kp _ | exact duc_ep _ | exact duc_a _ | exact duc_n _ | exact duc_i _ | exact duc_ph _ | exact duc_fid _ | exact duc_vd _ | exact hxd | exact hyd | rfl) ?_)
      clear hl a; intro a hl
      rw [hq1] at hl
      refine wl (wl_val hl rfl trivial (r_lenS hl rfl slc72) ?_)
      clear hl a; intro a hl
      refine wl (wl_val hl rfl trivial (r_move hl rfl) ?_)
      clear hl a; intro a hl
      refine w_nil ?_
      have hl2 := hl.add (t := 0) (hl.add (t := 1) (hl.add (t := 2) (hl.add (t := 8) (hl.add (t := 9) (hl.add (t := 10) (hl.add (t := 11) (hl.add (t := 24) (hl.add (t := 25) (hl.add (t := 26) (hl.add (t := 35) (hl.add (t := 36) (hl.add (t := 37) (hl.nil) rfl) rfl) rfl) rfl) rfl) rfl) rfl) rfl) rfl) rfl) rfl) rfl) rfl; clear hl; have hl := hl2; clear hl2
      refine then_normal ?_
      refine wp_block ?_
      rw [← dif1_0 (b := ib) (a := ia) hnv hx] at hl
      obtain ⟨KS1, hKS1, hk⟩ := (hl.add (t := 0) (hl.add (t := 1) (hl.add (t := 2) (hl.add (t := 10) (hl.add (t := 11) (hl.add (t := 24) (hl.add (t := 25) (hl.add (t := 26) (hl.add (t := 35) (hl.add (t := 36) (hl.nil) rfl) rfl) rfl) rfl) rfl) rfl) rfl) rfl) rfl) rfl).name
      obtain ⟨HS1, hHS1, hh2⟩ := hh.name (keeps_nil)
      refine c_loop (α := Nat) (fun k => m.d.vs.length - k) (fun k a w => (k ≤ m.d.vs.length) ∧ Sl 86 ([(37, .int .i64 (k : Int)), (9, .int .i64 (dif1 m.d.vs ia ib i x k).1), (8, .int .u16 (dif1 m.d.vs ia ib i x k).2)] ++ KS1) a ∧ Has _ w0 ([] ++ HS1) w) 0 ⟨Nat.zero_le _, hl.addE (t := 37) (hl.addE (t := 9) (hl.addE (t := 8) (hk) rfl (by first | rfl)) rfl (by first | rfl)) rfl (by first | rfl), hh2⟩ ?_
      clear hk hh2 hl hh a w
      intro k a w hI
      obtain ⟨hk, hl, hh⟩ := hI
      subst hKS1; subst hHS1
      simp only [List.cons_append, List.nil_append, List.append_nil, List.append_assoc] at hl hh
      have hdb := dif1_b m.d.vs ia ib i x k
      refine c_seq ?_
      refine c_region ?_
      refine wl (wl_val hl rfl trivial (r_lss hl rfl rfl) ?_)
      clear hl a; intro a hl
      refine w_nil ?_
      have hl2 := hl.add (t := 0) (hl.add (t := 1) (hl.add (t := 2) (hl.add (t := 8) (hl.add (t := 9) (hl.add (t := 10) (hl.add (t := 11) (hl.add (t := 24) (hl.add (t := 25) (hl.add (t := 26) (hl.add (t := 35) (hl.add (t := 36) (hl.add (t := 37) (hl.add (t := 38) (hl.nil) rfl) rfl) rfl) rfl) rfl) rfl) rfl) rfl) rfl) rfl) rfl) rfl) rfl) rfl; clear hl; have hl := hl2; clear hl2
      refine then_normal ?_
      refine c_seq ?_
      refine c_cond hl rfl ?_ ?_
      · intro hc2
        try simp only [decide_eq_true_eq, decide_eq_false_iff_not, Bool.not_eq_true', Bool.not_eq_false', Bool.not_eq_true, Bool.not_eq_false, Bool.and_eq_true, Bool.or_eq_true, Bool.and_eq_false_iff, Bool.or_eq_false_iff, Bool.not_not, ne_eq, Int.not_lt, Int.not_le, Decidable.not_not, beq_iff_eq, bne_iff_ne] at hc2
        obtain ⟨y, hy⟩ : ∃ x, m.d.vs[k]? = some x := ⟨_, List.getElem?_eq_getElem (by omega)⟩
        have hyo := hm.dok.vo y (List.mem_of_getElem? hy)
        have hyd := id_at hy j1
        have hyw : m.d.ws[k]? = some y := by rw [hm.dok.e]; exact hy
        have hyn := fl_at ntc_len hyw j2
        refine wp_skip ?_
        refine then_normal ?_
        refine c_seq ?_
        refine wp_block ?_
        refine c_seq ?_
        refine c_region ?_
        refine wl (wl_val hl rfl trivial (r_move hl rfl) ?_)
        clear hl a; intro a hl
        refine wl (wl_val hl rfl trivial (r_indexS hl rfl rfl slc72 (by omega) (by omega) (by first | (simp only [Int.reduceToNat]; rfl) | exact toNat_add1 _ | exact toNat_add2 _ _ | exact toNat_emod _ _ | exact Int.toNat_natCast _ | rfl)) ?_)
        clear hl a; intro a hl
        refine wl (w_load hl hh rfl trivial one36 rfl (by repeat (first | exact find_head | apply find_tail | apply find_skip)) (by first | exact mdc_ep _ | exact mdc_a _ | exact mdc_n _ | exact mdc_i _ | exact mdc_ph _ | exact mdc_fid _ | exact mdc_vd _ | exact mdc_up _ | exact mdc_q _ | exact mdc_rf _ | exact mdc_tk _ | exact mdc_au _ | exact mdc_fl _ | exact mdc_fu _ | exact mdc_kp _ | exact duc_ep _ | exact duc_a _ | exact duc_n _ | exact duc_i _ | exact duc_ph _ | exact duc_fid _ | exact duc_vd _ | exact hxd | exact hyd | rfl) ?_)
        clear hl a; intro a hl
        refine wl (wl_val hl rfl trivial (r_assign hl rfl) ?_)
        clear hl a; intro a hl
        refine wl (wl_val hl rfl trivial (r_assign hl rfl) ?_)
        clear hl a; intro a hl
        refine w_nil ?_
        have hl2 := hl.add (t := 0) (hl.add (t := 1) (hl.add (t := 2) (hl.add (t := 8) (hl.add (t := 9) (hl.add (t := 10) (hl.add (t := 11) (hl.add (t := 12) (hl.add (t := 13) (hl.add (t := 24) (hl.add (t := 25) (hl.add (t := 26) (hl.add (t := 35) (hl.add (t := 36) (hl.add (t := 37) (hl.nil) rfl) rfl) rfl) rfl) rfl) rfl) rfl) rfl) rfl) rfl) rfl) rfl) rfl) rfl) rfl; clear hl; have hl := hl2; clear hl2
        refine then_normal ?_
        refine c_seq ?_
        refine c_region ?_
        refine wl (wl_val hl rfl trivial (r_move hl rfl) ?_)
        clear hl a; intro a hl
        refine wl (wl_val hl rfl trivial (r_move hl rfl) ?_)
        clear hl a; intro a hl
        refine wl (wl_val hl rfl trivial (r_eql hl rfl rfl) ?_)
        clear hl a; intro a hl
        refine wl (wl_val hl rfl trivial (r_move hl rfl) ?_)
        clear hl a; intro a hl
        refine sl_split (t := 45) hl rfl ?_ ?_
        · intro hg1; clear hl; intro hl
          try simp only [decide_eq_true_eq, decide_eq_false_iff_not, Bool.not_eq_true', Bool.not_eq_false', Bool.not_eq_true, Bool.not_eq_false, Bool.and_eq_true, Bool.or_eq_true, Bool.and_eq_false_iff, Bool.or_eq_false_iff, Bool.not_not, ne_eq, Int.not_lt, Int.not_le, Decidable.not_not, beq_iff_eq, bne_iff_ne] at hg1
          refine wl (wl_val hl rfl ⟨_, _, rfl, rfl, rfl⟩ (r_move hl rfl) ?_)
          clear hl a; intro a hl
          refine wl (wl_val hl rfl ⟨_, _, rfl, rfl, rfl⟩ (r_move hl rfl) ?_)
          clear hl a; intro a hl
          refine wl (wl_val hl rfl ⟨_, _, rfl, rfl, rfl⟩ (r_eql hl rfl rfl) ?_)
          clear hl a; intro a hl
          refine wl (wl_val hl rfl trivial (r_pickT hl rfl rfl) ?_)
          clear hl a; intro a hl
          refine w_nil ?_
          have hl2 := hl.add (t := 0) (hl.add (t := 1) (hl.add (t := 2) (hl.add (t := 8) (hl.add (t := 9) (hl.add (t := 10) (hl.add (t := 11) (hl.add (t := 12) (hl.add (t := 24) (hl.add (t := 25) (hl.add (t := 26) (hl.add (t := 35) (hl.add (t := 36) (hl.add (t := 37) (hl.add (t := 49) (hl.nil) rfl) rfl) rfl) rfl) rfl) rfl) rfl) rfl) rfl) rfl) rfl) rfl) rfl) rfl) rfl; clear hl; have hl := hl2; clear hl2
          refine then_normal ?_
          refine c_cond hl rfl ?_ ?_
          · intro hc3
            try simp only [decide_eq_true_eq, decide_eq_false_iff_not, Bool.not_eq_true', Bool.not_eq_false', Bool.not_eq_true, Bool.not_eq_false, Bool.and_eq_true, Bool.or_eq_true, Bool.and_eq_false_iff, Bool.or_eq_false_iff, Bool.not_not, ne_eq, Int.not_lt, Int.not_le, Decidable.not_not, beq_iff_eq, bne_iff_ne] at hc3
            have hxa : x.id = ia := by omega
            have hyb : y.id = ib := by omega
            have hd0 := dif1_y0 (i := i) hnv hxa hy hyb
            have hd1 := dif1_y1 (i := i) hnv hxa hy hyb
            refine c_seq ?_
            refine c_region ?_
            refine wl (wl_val hl rfl trivial (r_move hl rfl) ?_)
            clear hl a; intro a hl
            first | refine wl (wl_val hl rfl trivial (r_add hl rfl rfl (by simp only [Fits]; omega)) ?_) | refine wl (wl_val hl rfl trivial (r_addW hl rfl rfl) ?_)
            clear hl a; intro a hl
            refine wl (wl_val hl rfl trivial (r_assign hl rfl) ?_)
            clear hl a; intro a hl
            refine w_nil ?_
            have hl2 := hl.add (t := 0) (hl.add (t := 1) (hl.add (t := 2) (hl.add (t := 8) (hl.add (t := 9) (hl.add (t := 10) (hl.add (t := 11) (hl.add (t := 12) (hl.add (t := 24) (hl.add (t := 25) (hl.add (t := 26) (hl.add (t := 35) (hl.add (t := 36) (hl.add (t := 37) (hl.nil) rfl) rfl) rfl) rfl) rfl) rfl) rfl) rfl) rfl) rfl) rfl) rfl) rfl) rfl; clear hl; have hl := hl2; clear hl2
            refine then_normal ?_
            refine c_seq ?_
            refine c_region ?_
            refine wl (wl_val hl rfl trivial (r_assign hl rfl) ?_)
            clear hl a; intro a hl
            refine w_nil ?_
            have hl2 := hl.add (t := 0) (hl.add (t := 1) (hl.add (t := 2) (hl.add (t := 8) (hl.add (t := 9) (hl.add (t := 10) (hl.add (t := 11) (hl.add (t := 12) (hl.add (t := 14) (hl.add (t := 24) (hl.add (t := 25) (hl.add (t := 26) (hl.add (t := 35) (hl.add (t := 36) (hl.add (t := 37) (hl.nil) rfl) rfl) rfl) rfl) rfl) rfl) rfl) rfl) rfl) rfl) rfl) rfl) rfl) rfl) rfl; clear hl; have hl := hl2; clear hl2
            refine then_normal ?_
            refine wp_block ?_
            rw [hd0] at hl
            obtain ⟨KS2, hKS2, hk⟩ := (hl.add (t := 0) (hl.add (t := 1) (hl.add (t := 2) (hl.add (t := 9) (hl.add (t := 10) (hl.add (t := 11) (hl.add (t := 12) (hl.add (t := 24) (hl.add (t := 25) (hl.add (t := 26) (hl.add (t := 35) (hl.add (t := 36) (hl.add (t := 37) (hl.nil) rfl) rfl) rfl) rfl) rfl) rfl) rfl) rfl) rfl) rfl) rfl) rfl) rfl).name
            obtain ⟨HS2, hHS2, hh2⟩ := hh.name (keeps_nil)
            refine c_loop (α := Nat) (fun d => 16 - d) (fun d a w => (d ≤ 16) ∧ Sl 86 ([(14, .int .i64 (d : Int)), (8, .int .u16 (dfP x.n.pl y.n.pl d))] ++ KS2) a ∧ Has _ w0 ([] ++ HS2) w) 0 ⟨Nat.zero_le _, hl.addE (t := 14) (hl.addE (t := 8) (hk) rfl (by first | rfl)) rfl (by first | rfl), hh2⟩ ?_
            clear hk hh2 hl hh a w
            intro d a w hI
            obtain ⟨hdl, hl, hh⟩ := hI
            subst hKS2; subst hHS2
            simp only [List.cons_append, List.nil_append, List.append_nil, List.append_assoc] at hl hh
            have hdb2 := dfP_b x.n.pl y.n.pl d
            refine c_seq ?_
            refine c_seq ?_
            refine c_region ?_
            refine wl (wl_val hl rfl trivial (r_move hl rfl) ?_)
            clear hl a; intro a hl
            refine wl (wl_val hl rfl trivial (r_lss hl rfl rfl) ?_)
            clear hl a; intro a hl
            refine w_nil ?_
            have hl2 := hl.add (t := 0) (hl.add (t := 1) (hl.add (t := 2) (hl.add (t := 8) (hl.add (t := 9) (hl.add (t := 10) (hl.add (t := 11) (hl.add (t := 12) (hl.add (t := 14) (hl.add (t := 24) (hl.add (t := 25) (hl.add (t := 26) (hl.add (t := 35) (hl.add (t := 36) (hl.add (t := 37) (hl.add (t := 53) (hl.nil) rfl) rfl) rfl) rfl) rfl) rfl) rfl) rfl) rfl) rfl) rfl) rfl) rfl) rfl) rfl) rfl; clear hl; have hl := hl2; clear hl2
            refine then_normal ?_
            refine c_cond hl rfl ?_ ?_
            · intro hc4
              try simp only [decide_eq_true_eq, decide_eq_false_iff_not, Bool.not_eq_true', Bool.not_eq_false', Bool.not_eq_true, Bool.not_eq_false, Bool.and_eq_true, Bool.or_eq_true, Bool.and_eq_false_iff, Bool.or_eq_false_iff, Bool.not_not, ne_eq, Int.not_lt, Int.not_le, Decidable.not_not, beq_iff_eq, bne_iff_ne] at hc4
              have hda := df_add (x := x.n.pl) (y := y.n.pl) (d := d) (by omega)
              refine wp_skip ?_
              refine then_normal ?_
              refine c_seq ?_
              refine wp_block ?_
              refine c_seq ?_
              refine c_draw [(mb, C m.c 82), (b2, C (fl ntc m.d.ws ++ j2) 66)] [19, 20] mixed hh ?_
              clear hh w; intro w hh
              have hM : Mem [(mb, C m.c 82), (b2, C (fl ntc m.d.ws ++ j2) 66)] w := (memK hh (by repeat (first | exact keeps_nil | apply keeps_cons (by repeat (first | exact find_head | apply find_tail | apply find_skip)) (by first  | rfl) | exact keeps_self | exact keeps_left | apply keeps_app | apply keeps_mv | apply keeps_skip)))
              refine d_take (i := 0) hl rfl (by kernel_rfl) (by kernel_rfl) (by kernel_rfl) (by kernel_rfl) (by kernel_rfl) rfl trivial (fun _ _ _ h => h) hM (fun w hC => r_move hl rfl) rfl ?_
              clear hl a; intro a hl
              refine d_take (i := 1) hl rfl (by kernel_rfl) (by kernel_rfl) (by kernel_rfl) (by kernel_rfl) (by kernel_rfl) rfl trivial (fun _ _ _ h => h) hM (fun w hC => r_nilCheck hl rfl) rfl ?_
              clear hl a; intro a hl
              refine d_take (i := 2) hl rfl (by kernel_rfl) (by kernel_rfl) (by kernel_rfl) (by kernel_rfl) (by kernel_rfl) rfl trivial (fun _ _ _ h => h) hM (fun w hC => r_field hl rfl fld82_0) rfl ?_
              clear hl a; intro a hl
              refine d_take (i := 3) hl rfl (by kernel_rfl) (by kernel_rfl) (by kernel_rfl) (by kernel_rfl) (by kernel_rfl) rfl trivial (fun _ _ _ h => h) hM (fun w hC => r_field hl rfl fld78_2) rfl ?_
              clear hl a; intro a hl
              refine d_take (i := 4) hl rfl (by kernel_rfl) (by kernel_rfl) (by kernel_rfl) (by kernel_rfl) (by kernel_rfl) rfl trivial (fun _ _ _ h => h) hM (fun w hC => r_loadC hl rfl one73 hC (by repeat (first | exact find_head | apply find_tail | apply find_skip)) (by first | exact mdc_ep _ | exact mdc_a _ | exact mdc_n _ | exact mdc_i _ | exact mdc_ph _ | exact mdc_fid _ | exact mdc_vd _ | exact mdc_up _ | exact mdc_q _ | exact mdc_rf _ | exact mdc_tk _ | exact mdc_au _ | exact mdc_fl _ | exact mdc_fu _ | exact mdc_kp _ | exact duc_ep _ | exact duc_a _ | exact duc_n _ | exact duc_i _ | exact duc_ph _ | exact duc_fid _ | exact duc_vd _ | exact hxd | exact hyd | rfl)) rfl ?_
              clear hl a; intro a hl
              rw [hq2] at hl
              refine d_take (i := 5) hl rfl (by kernel_rfl) (by kernel_rfl) (by kernel_rfl) (by kernel_rfl) (by kernel_rfl) rfl trivial (fun _ _ _ h => h) hM (fun w hC => r_move hl rfl) rfl ?_
              clear hl a; intro a hl
              refine d_take (i := 6) hl rfl (by kernel_rfl) (by kernel_rfl) (by kernel_rfl) (by kernel_rfl) (by kernel_rfl) rfl trivial (fun _ _ _ h => h) hM (fun w hC => r_indexS hl rfl rfl slc73 (by omega) (by omega) (by first | (simp only [Int.reduceToNat]; rfl) | exact toNat_add1 _ | exact toNat_add2 _ _ | exact toNat_emod _ _ | exact Int.toNat_natCast _ | rfl)) rfl ?_
              clear hl a; intro a hl
              refine d_take (i := 7) hl rfl (by kernel_rfl) (by kernel_rfl) (by kernel_rfl) (by kernel_rfl) (by kernel_rfl) rfl trivial (fun _ _ _ h => h) hM (fun w hC => r_loadCA hl rfl agg66 hC (by repeat (first | exact find_head | apply find_tail | apply find_skip)) (by first | exact hxn | exact hyn) (by exact ntk_len _)) rfl ?_
              clear hl a; intro a hl
              rw [show ntc x = _ from ntk_eq hxo.1] at hl
              refine d_take (i := 8) hl rfl (by kernel_rfl) (by kernel_rfl) (by kernel_rfl) (by kernel_rfl) (by kernel_rfl) rfl trivial (fun _ _ _ h => h) hM (fun w hC => r_move hl rfl) rfl ?_
              clear hl a; intro a hl
              refine d_take (i := 10) hl rfl (by kernel_rfl) (by kernel_rfl) (by kernel_rfl) (by kernel_rfl) (by kernel_rfl) rfl trivial (fun _ _ _ h => h) hM (fun w hC => r_move hl rfl) rfl ?_
              clear hl a; intro a hl
              refine d_take (i := 11) hl rfl (by kernel_rfl) (by kernel_rfl) (by kernel_rfl) (by kernel_rfl) (by kernel_rfl) rfl trivial (fun _ _ _ h => h) hM (fun w hC => r_nilCheck hl rfl) rfl ?_
              clear hl a; intro a hl
              refine d_take (i := 12) hl rfl (by kernel_rfl) (by kernel_rfl) (by kernel_rfl) (by kernel_rfl) (by kernel_rfl) rfl trivial (fun _ _ _ h => h) hM (fun w hC => r_field hl rfl fld82_0) rfl ?_
              clear hl a; intro a hl
              refine d_take (i := 13) hl rfl (by kernel_rfl) (by kernel_rfl) (by kernel_rfl) (by kernel_rfl) (by kernel_rfl) rfl trivial (fun _ _ _ h => h) hM (fun w hC => r_field hl rfl fld78_2) rfl ?_
              clear hl a; intro a hl
              refine d_take (i := 14) hl rfl (by kernel_rfl) (by kernel_rfl) (by kernel_rfl) (by kernel_rfl) (by kernel_rfl) rfl trivial (fun _ _ _ h => h) hM (fun w hC => r_loadC hl rfl one73 hC (by repeat (first | exact find_head | apply find_tail | apply find_skip)) (by first | exact mdc_ep _ | exact mdc_a _ | exact mdc_n _ | exact mdc_i _ | exact mdc_ph _ | exact mdc_fid _ | exact mdc_vd _ | exact mdc_up _ | exact mdc_q _ | exact mdc_rf _ | exact mdc_tk _ | exact mdc_au _ | exact mdc_fl _ | exact mdc_fu _ | exact mdc_kp _ | exact duc_ep _ | exact duc_a _ | exact duc_n _ | exact duc_i _ | exact duc_ph _ | exact duc_fid _ | exact duc_vd _ | exact hxd | exact hyd | rfl)) rfl ?_
              clear hl a; intro a hl
              rw [hq2] at hl
              refine d_take (i := 15) hl rfl (by kernel_rfl) (by kernel_rfl) (by kernel_rfl) (by kernel_rfl) (by kernel_rfl) rfl trivial (fun _ _ _ h => h) hM (fun w hC => r_move hl rfl) rfl ?_
              clear hl a; intro a hl
              refine d_take (i := 16) hl rfl (by kernel_rfl) (by kernel_rfl) (by kernel_rfl) (by kernel_rfl) (by kernel_rfl) rfl trivial (fun _ _ _ h => h) hM (fun w hC => r_indexS hl rfl rfl slc73 (by omega) (by omega) (by first | (simp only [Int.reduceToNat]; rfl) | exact toNat_add1 _ | exact toNat_add2 _ _ | exact toNat_emod _ _ | exact Int.toNat_natCast _ | rfl)) rfl ?_
              clear hl a; intro a hl
              refine d_take (i := 17) hl rfl (by kernel_rfl) (by kernel_rfl) (by kernel_rfl) (by kernel_rfl) (by kernel_rfl) rfl trivial (fun _ _ _ h => h) hM (fun w hC => r_loadCA hl rfl agg66 hC (by repeat (first | exact find_head | apply find_tail | apply find_skip)) (by first | exact hxn | exact hyn) (by exact ntk_len _)) rfl ?_
              clear hl a; intro a hl
              rw [show ntc y = _ from ntk_eq hyo.1] at hl
              refine d_take (i := 18) hl rfl (by kernel_rfl) (by kernel_rfl) (by kernel_rfl) (by kernel_rfl) (by kernel_rfl) rfl trivial (fun _ _ _ h => h) hM (fun w hC => r_move hl rfl) rfl ?_
              clear hl a; intro a hl
              refine d_one (i := 9) (by kernel_rfl) rfl ?_
              try clear hM
              refine id (w_call hl hh rfl trivial rfl cal9 rfl (slice_spec Z x.n hxo.1 d (by omega)) (by repeat (first | exact keeps_nil | apply keeps_cons (by repeat (first | exact find_head | apply find_tail | apply find_skip)) (by first  | rfl) | exact keeps_self | exact keeps_left | apply keeps_app | apply keeps_mv | apply keeps_skip)) (memK hh (by repeat (first | exact keeps_nil | apply keeps_cons (by repeat (first | exact find_head | apply find_tail | apply find_skip)) (by first  | rfl) | exact keeps_self | exact keeps_left | apply keeps_app | apply keeps_mv | apply keeps_skip))) ?_)
              clear hl hh a w; intro vc Fc a w hR hl hh
              obtain ⟨rfl, rfl⟩ := hR
              try simp only [List.cons_append, List.nil_append, List.append_assoc, List.append_nil] at hh
              have hM : Mem [(mb, C m.c 82), (b2, C (fl ntc m.d.ws ++ j2) 66)] w := (memK hh (by repeat (first | exact keeps_nil | apply keeps_cons (by repeat (first | exact find_head | apply find_tail | apply find_skip)) (by first  | rfl) | exact keeps_self | exact keeps_left | apply keeps_app | apply keeps_mv | apply keeps_skip)))
              refine d_step (fun _ => hM) ?_
              refine d_one (i := 19) (by kernel_rfl) rfl ?_
              try clear hM
              refine id (w_call hl hh rfl trivial rfl cal9 rfl (slice_spec Z y.n hyo.1 d (by omega)) (by repeat (first | exact keeps_nil | apply keeps_cons (by repeat (first | exact find_head | apply find_tail | apply find_skip)) (by first  | rfl) | exact keeps_self | exact keeps_left | apply keeps_app | apply keeps_mv | apply keeps_skip)) (memK hh (by repeat (first | exact keeps_nil | apply keeps_cons (by repeat (first | exact find_head | apply find_tail | apply find_skip)) (by first  | rfl) | exact keeps_self | exact keeps_left | apply keeps_app | apply keeps_mv | apply keeps_skip))) ?_)
              clear hl hh a w; intro vc Fc a w hR hl hh
              obtain ⟨rfl, rfl⟩ := hR
              try simp only [List.cons_append, List.nil_append, List.append_assoc, List.append_nil] at hh
              refine d_step (fun h => absurd h (by decide)) ?_
              refine d_takeL (i := 20) hl rfl (by kernel_rfl) (by kernel_rfl) (by kernel_rfl) (by kernel_rfl) (by kernel_rfl) rfl trivial (fun _ _ _ h => h) (fun w => r_neq_string hl rfl rfl) rfl ?_
              clear hl a; intro a hl
              refine d_done (by kernel_rfl) ?_
              try clear hM
              have hl2 := hl.add (t := 0) (hl.add (t := 1) (hl.add (t := 2) (hl.add (t := 8) (hl.add (t := 9) (hl.add (t := 10) (hl.add (t := 11) (hl.add (t := 12) (hl.add (t := 14) (hl.add (t := 24) (hl.add (t := 25) (hl.add (t := 26) (hl.add (t := 35) (hl.add (t := 36) (hl.add (t := 37) (hl.add (t := 76) (hl.nil) rfl) rfl) rfl) rfl) rfl) rfl) rfl) rfl) rfl) rfl) rfl) rfl) rfl) rfl) rfl) rfl; clear hl; have hl := hl2; clear hl2
              refine then_normal ?_
              refine c_cond hl rfl ?_ ?_
              · intro hc5
                try simp only [decide_eq_true_eq, decide_eq_false_iff_not, Bool.not_eq_true', Bool.not_eq_false', Bool.not_eq_true, Bool.not_eq_false, Bool.and_eq_true, Bool.or_eq_true, Bool.and_eq_false_iff, Bool.or_eq_false_iff, Bool.not_not, ne_eq, Int.not_lt, Int.not_le, Decidable.not_not, beq_iff_eq, bne_iff_ne] at hc5
                have hdz : dfP x.n.pl y.n.pl (d + 1) = dfP x.n.pl y.n.pl d + sh1 (d : Int) := by rw [dfP_s, if_neg (by intro e; rw [e] at hc5; simp at hc5), hda.1]
                refine c_region ?_
                refine wl (wl_val hl rfl trivial (r_move hl rfl) ?_)
                clear hl a; intro a hl
                refine wl (wl_val hl rfl trivial (r_move hl rfl) ?_)
                clear hl a; intro a hl
                refine wl (wl_val hl rfl trivial (r_shl hl rfl rfl (by omega)) ?_)
                clear hl a; intro a hl
                rw [← sh1_eq] at hl
                first | refine wl (wl_val hl rfl trivial (r_add hl rfl rfl (by simp only [Fits]; omega)) ?_) | refine wl (wl_val hl rfl trivial (r_addW hl rfl rfl) ?_)
                clear hl a; intro a hl
                refine wl (wl_val hl rfl trivial (r_assign hl rfl) ?_)
                clear hl a; intro a hl
                refine w_nil ?_
                have hl2 := hl.add (t := 0) (hl.add (t := 1) (hl.add (t := 2) (hl.add (t := 8) (hl.add (t := 9) (hl.add (t := 10) (hl.add (t := 11) (hl.add (t := 12) (hl.add (t := 14) (hl.add (t := 24) (hl.add (t := 25) (hl.add (t := 26) (hl.add (t := 35) (hl.add (t := 36) (hl.add (t := 37) (hl.nil) rfl) rfl) rfl) rfl) rfl) rfl) rfl) rfl) rfl) rfl) rfl) rfl) rfl) rfl) rfl; clear hl; have hl := hl2; clear hl2
                refine blk_normal ?_
                refine then_normal ?_
                refine c_region ?_
                refine wl (wl_val hl rfl trivial (r_move hl rfl) ?_)
                clear hl a; intro a hl
                first | refine wl (wl_val hl rfl trivial (r_add hl rfl rfl (by simp only [Fits]; omega)) ?_) | refine wl (wl_val hl rfl trivial (r_addW hl rfl rfl) ?_)
                clear hl a; intro a hl
                refine wl (wl_val hl rfl trivial (r_assign hl rfl) ?_)
                clear hl a; intro a hl
                refine w_nil ?_
                have hl2 := hl.add (t := 0) (hl.add (t := 1) (hl.add (t := 2) (hl.add (t := 8) (hl.add (t := 9) (hl.add (t := 10) (hl.add (t := 11) (hl.add (t := 12) (hl.add (t := 14) (hl.add (t := 24) (hl.add (t := 25) (hl.add (t := 26) (hl.add (t := 35) (hl.add (t := 36) (hl.add (t := 37) (hl.nil) rfl) rfl) rfl) rfl) rfl) rfl) rfl) rfl) rfl) rfl) rfl) rfl) rfl) rfl) rfl; clear hl; have hl := hl2; clear hl2
                refine then_normal ?_
                refine ⟨d + 1, (by omega), (by omega), hl.addE (t := 14) (hl.addE (t := 8) (hl.addE (t := 0) (hl.addE (t := 1) (hl.addE (t := 2) (hl.addE (t := 9) (hl.addE (t := 10) (hl.addE (t := 11) (hl.addE (t := 12) (hl.addE (t := 24) (hl.addE (t := 25) (hl.addE (t := 26) (hl.addE (t := 35) (hl.addE (t := 36) (hl.addE (t := 37) (hl.nil) rfl (by first | rfl | exact congrArg (Value.int .i64) (show (d : Int) + 1 = ((d + 1 : Nat) : Int) by omega) | (rw [hdz]))) rfl (by first | rfl | exact congrArg (Value.int .i64) (show (d : Int) + 1 = ((d + 1 : Nat) : Int) by omega) | (rw [hdz]))) rfl (by first | rfl | exact congrArg (Value.int .i64) (show (d : Int) + 1 = ((d + 1 : Nat) : Int) by omega) | (rw [hdz]))) rfl (by first | rfl | exact congrArg (Value.int .i64) (show (d : Int) + 1 = ((d + 1 : Nat) : Int) by omega) | (rw [hdz]))) rfl (by first | rfl | exact congrArg (Value.int .i64) (show (d : Int) + 1 = ((d + 1 : Nat) : Int) by omega) | (rw [hdz]))) rfl (by first | rfl | exact congrArg (Value.int .i64) (show (d : Int) + 1 = ((d + 1 : Nat) : Int) by omega) | (rw [hdz]))) rfl (by first | rfl | exact congrArg (Value.int .i64) (show (d : Int) + 1 = ((d + 1 : Nat) : Int) by omega) | (rw [hdz]))) rfl (by first | rfl | exact congrArg (Value.int .i64) (show (d : Int) + 1 = ((d + 1 : Nat) : Int) by omega) | (rw [hdz]))) rfl (by first | rfl | exact congrArg (Value.int .i64) (show (d : Int) + 1 = ((d + 1 : Nat) : Int) by omega) | (rw [hdz]))) rfl (by first | rfl | exact congrArg (Value.int .i64) (show (d : Int) + 1 = ((d + 1 : Nat) : Int) by omega) | (rw [hdz]))) rfl (by first | rfl | exact congrArg (Value.int .i64) (show (d : Int) + 1 = ((d + 1 : Nat) : Int) by omega) | (rw [hdz]))) rfl (by first | rfl | exact congrArg (Value.int .i64) (show (d : Int) + 1 = ((d + 1 : Nat) : Int) by omega) | (rw [hdz]))) rfl (by first | rfl | exact congrArg (Value.int .i64) (show (d : Int) + 1 = ((d + 1 : Nat) : Int) by omega) | (rw [hdz]))) rfl (by first | rfl | exact congrArg (Value.int .i64) (show (d : Int) + 1 = ((d + 1 : Nat) : Int) by omega) | (rw [hdz]))) rfl (by first | rfl | exact congrArg (Value.int .i64) (show (d : Int) + 1 = ((d + 1 : Nat) : Int) by omega) | (rw [hdz])), hh.keep (by repeat (first | exact keeps_nil | apply keeps_cons (by repeat (first | exact find_head | apply find_tail | apply find_skip)) (by first  | rfl) | exact keeps_self | exact keeps_left | apply keeps_app | apply keeps_mv | apply keeps_skip))⟩
              · intro hc5
                try simp only [decide_eq_true_eq, decide_eq_false_iff_not, Bool.not_eq_true', Bool.not_eq_false', Bool.not_eq_true, Bool.not_eq_false, Bool.and_eq_true, Bool.or_eq_true, Bool.and_eq_false_iff, Bool.or_eq_false_iff, Bool.not_not, ne_eq, Int.not_lt, Int.not_le, Decidable.not_not, beq_iff_eq, bne_iff_ne] at hc5
                have hdz : dfP x.n.pl y.n.pl (d + 1) = dfP x.n.pl y.n.pl d := by rw [dfP_s, if_pos (str_eq (by simpa using hc5))]
                refine wp_skip ?_
                refine blk_normal ?_
                refine then_normal ?_
                refine c_region ?_
                refine wl (wl_val hl rfl trivial (r_move hl rfl) ?_)
                clear hl a; intro a hl
                first | refine wl (wl_val hl rfl trivial (r_add hl rfl rfl (by simp only [Fits]; omega)) ?_) | refine wl (wl_val hl rfl trivial (r_addW hl rfl rfl) ?_)
                clear hl a; intro a hl
                refine wl (wl_val hl rfl trivial (r_assign hl rfl) ?_)
                clear hl a; intro a hl
                refine w_nil ?_
                have hl2 := hl.add (t := 0) (hl.add (t := 1) (hl.add (t := 2) (hl.add (t := 8) (hl.add (t := 9) (hl.add (t := 10) (hl.add (t := 11) (hl.add (t := 12) (hl.add (t := 14) (hl.add (t := 24) (hl.add (t := 25) (hl.add (t := 26) (hl.add (t := 35) (hl.add (t := 36) (hl.add (t := 37) (hl.nil) rfl) rfl) rfl) rfl) rfl) rfl) rfl) rfl) rfl) rfl) rfl) rfl) rfl) rfl) rfl; clear hl; have hl := hl2; clear hl2
                refine then_normal ?_
                refine ⟨d + 1, (by omega), (by omega), hl.addE (t := 14) (hl.addE (t := 8) (hl.addE (t := 0) (hl.addE (t := 1) (hl.addE (t := 2) (hl.addE (t := 9) (hl.addE (t := 10) (hl.addE (t := 11) (hl.addE (t := 12) (hl.addE (t := 24) (hl.addE (t := 25) (hl.addE (t := 26) (hl.addE (t := 35) (hl.addE (t := 36) (hl.addE (t := 37) (hl.nil) rfl (by first | rfl | exact congrArg (Value.int .i64) (show (d : Int) + 1 = ((d + 1 : Nat) : Int) by omega) | (rw [hdz]))) rfl (by first | rfl | exact congrArg (Value.int .i64) (show (d : Int) + 1 = ((d + 1 : Nat) : Int) by omega) | (rw [hdz]))) rfl (by first | rfl | exact congrArg (Value.int .i64) (show (d : Int) + 1 = ((d + 1 : Nat) : Int) by omega) | (rw [hdz]))) rfl (by first | rfl | exact congrArg (Value.int .i64) (show (d : Int) + 1 = ((d + 1 : Nat) : Int) by omega) | (rw [hdz]))) rfl (by first | rfl | exact congrArg (Value.int .i64) (show (d : Int) + 1 = ((d + 1 : Nat) : Int) by omega) | (rw [hdz]))) rfl (by first | rfl | exact congrArg (Value.int .i64) (show (d : Int) + 1 = ((d + 1 : Nat) : Int) by omega) | (rw [hdz]))) rfl (by first | rfl | exact congrArg (Value.int .i64) (show (d : Int) + 1 = ((d + 1 : Nat) : Int) by omega) | (rw [hdz]))) rfl (by first | rfl | exact congrArg (Value.int .i64) (show (d : Int) + 1 = ((d + 1 : Nat) : Int) by omega) | (rw [hdz]))) rfl (by first | rfl | exact congrArg (Value.int .i64) (show (d : Int) + 1 = ((d + 1 : Nat) : Int) by omega) | (rw [hdz]))) rfl (by first | rfl | exact congrArg (Value.int .i64) (show (d : Int) + 1 = ((d + 1 : Nat) : Int) by omega) | (rw [hdz]))) rfl (by first | rfl | exact congrArg (Value.int .i64) (show (d : Int) + 1 = ((d + 1 : Nat) : Int) by omega) | (rw [hdz]))) rfl (by first | rfl | exact congrArg (Value.int .i64) (show (d : Int) + 1 = ((d + 1 : Nat) : Int) by omega) | (rw [hdz]))) rfl (by first | rfl | exact congrArg (Value.int .i64) (show (d : Int) + 1 = ((d + 1 : Nat) : Int) by omega) | (rw [hdz]))) rfl (by first | rfl | exact congrArg (Value.int .i64) (show (d : Int) + 1 = ((d + 1 : Nat) : Int) by omega) | (rw [hdz]))) rfl (by first | rfl | exact congrArg (Value.int .i64) (show (d : Int) + 1 = ((d + 1 : Nat) : Int) by omega) | (rw [hdz])), hh.keep (by repeat (first | exact keeps_nil | apply keeps_cons (by repeat (first | exact find_head | apply find_tail | apply find_skip)) (by first  | rfl) | exact keeps_self | exact keeps_left | apply keeps_app | apply keeps_mv | apply keeps_skip))⟩
            · intro hc4
              try simp only [decide_eq_true_eq, decide_eq_false_iff_not, Bool.not_eq_true', Bool.not_eq_false', Bool.not_eq_true, Bool.not_eq_false, Bool.and_eq_true, Bool.or_eq_true, Bool.and_eq_false_iff, Bool.or_eq_false_iff, Bool.not_not, ne_eq, Int.not_lt, Int.not_le, Decidable.not_not, beq_iff_eq, bne_iff_ne] at hc4
              have hde : d = 16 := by omega
              subst hde
              refine wp_exit ?_
              refine then_exit ?_
              refine then_exit ?_
              refine blk_exit ?_
              refine blk_normal ?_
              refine then_normal ?_
              refine c_region ?_
              first | refine wl (wl_val hl rfl trivial (r_add hl rfl rfl (by simp only [Fits]; omega)) ?_) | refine wl (wl_val hl rfl trivial (r_addW hl rfl rfl) ?_)
              clear hl a; intro a hl
              refine wl (wl_val hl rfl trivial (r_move hl rfl) ?_)
              clear hl a; intro a hl
              refine w_nil ?_
              have hl2 := hl.add (t := 0) (hl.add (t := 1) (hl.add (t := 2) (hl.add (t := 8) (hl.add (t := 9) (hl.add (t := 10) (hl.add (t := 11) (hl.add (t := 24) (hl.add (t := 25) (hl.add (t := 26) (hl.add (t := 35) (hl.add (t := 36) (hl.add (t := 37) (hl.nil) rfl) rfl) rfl) rfl) rfl) rfl) rfl) rfl) rfl) rfl) rfl) rfl) rfl; clear hl; have hl := hl2; clear hl2
              refine then_normal ?_
              refine ⟨k + 1, (by omega), (by omega), hl.addE (t := 37) (hl.addE (t := 9) (hl.addE (t := 8) (hl.addE (t := 0) (hl.addE (t := 1) (hl.addE (t := 2) (hl.addE (t := 10) (hl.addE (t := 11) (hl.addE (t := 24) (hl.addE (t := 25) (hl.addE (t := 26) (hl.addE (t := 35) (hl.addE (t := 36) (hl.nil) rfl (by first | rfl | exact congrArg (Value.int .i64) (show (k : Int) + 1 = ((k + 1 : Nat) : Int) by omega) | (rw [hdx]; done) | (rw [hd1]; rfl) | (rw [hd1]; done))) rfl (by first | rfl | exact congrArg (Value.int .i64) (show (k : Int) + 1 = ((k + 1 : Nat) : Int) by omega) | (rw [hdx]; done) | (rw [hd1]; rfl) | (rw [hd1]; done))) rfl (by first | rfl | exact congrArg (Value.int .i64) (show (k : Int) + 1 = ((k + 1 : Nat) : Int) by omega) | (rw [hdx]; done) | (rw [hd1]; rfl) | (rw [hd1]; done))) rfl (by first | rfl | exact congrArg (Value.int .i64) (show (k : Int) + 1 = ((k + 1 : Nat) : Int) by omega) | (rw [hdx]; done) | (rw [hd1]; rfl) | (rw [hd1]; done))) rfl (by first | rfl | exact congrArg (Value.int .i64) (show (k : Int) + 1 = ((k + 1 : Nat) : Int) by omega) | (rw [hdx]; done) | (rw [hd1]; rfl) | (rw [hd1]; done))) rfl (by first | rfl | exact congrArg (Value.int .i64) (show (k : Int) + 1 = ((k + 1 : Nat) : Int) by omega) | (rw [hdx]; done) | (rw [hd1]; rfl) | (rw [hd1]; done))) rfl (by first | rfl | exact congrArg (Value.int .i64) (show (k : Int) + 1 = ((k + 1 : Nat) : Int) by omega) | (rw [hdx]; done) | (rw [hd1]; rfl) | (rw [hd1]; done))) rfl (by first | rfl | exact congrArg (Value.int .i64) (show (k : Int) + 1 = ((k + 1 : Nat) : Int) by omega) | (rw [hdx]; done) | (rw [hd1]; rfl) | (rw [hd1]; done))) rfl (by first | rfl | exact congrArg (Value.int .i64) (show (k : Int) + 1 = ((k + 1 : Nat) : Int) by omega) | (rw [hdx]; done) | (rw [hd1]; rfl) | (rw [hd1]; done))) rfl (by first | rfl | exact congrArg (Value.int .i64) (show (k : Int) + 1 = ((k + 1 : Nat) : Int) by omega) | (rw [hdx]; done) | (rw [hd1]; rfl) | (rw [hd1]; done))) rfl (by first | rfl | exact congrArg (Value.int .i64) (show (k : Int) + 1 = ((k + 1 : Nat) : Int) by omega) | (rw [hdx]; done) | (rw [hd1]; rfl) | (rw [hd1]; done))) rfl (by first | rfl | exact congrArg (Value.int .i64) (show (k : Int) + 1 = ((k + 1 : Nat) : Int) by omega) | (rw [hdx]; done) | (rw [hd1]; rfl) | (rw [hd1]; done))) rfl (by first | rfl | exact congrArg (Value.int .i64) (show (k : Int) + 1 = ((k + 1 : Nat) : Int) by omega) | (rw [hdx]; done) | (rw [hd1]; rfl) | (rw [hd1]; done)), hh.keep (by repeat (first | exact keeps_nil | apply keeps_cons (by repeat (first | exact find_head | apply find_tail | apply find_skip)) (by first  | rfl) | exact keeps_self | exact keeps_left | apply keeps_app | apply keeps_mv | apply keeps_skip))⟩
          · intro hc3
            try simp only [decide_eq_true_eq, decide_eq_false_iff_not, Bool.not_eq_true', Bool.not_eq_false', Bool.not_eq_true, Bool.not_eq_false, Bool.and_eq_true, Bool.or_eq_true, Bool.and_eq_false_iff, Bool.or_eq_false_iff, Bool.not_not, ne_eq, Int.not_lt, Int.not_le, Decidable.not_not, beq_iff_eq, bne_iff_ne] at hc3
            have hdx := dif1_x (a := ia) (b := ib) (i := i) (x := x) hy (fun ⟨q1, q2⟩ => by omega)
            refine wp_skip ?_
            refine blk_normal ?_
            refine then_normal ?_
            refine c_region ?_
            first | refine wl (wl_val hl rfl trivial (r_add hl rfl rfl (by simp only [Fits]; omega)) ?_) | refine wl (wl_val hl rfl trivial (r_addW hl rfl rfl) ?_)
            clear hl a; intro a hl
            refine wl (wl_val hl rfl trivial (r_move hl rfl) ?_)
            clear hl a; intro a hl
            refine w_nil ?_
            have hl2 := hl.add (t := 0) (hl.add (t := 1) (hl.add (t := 2) (hl.add (t := 8) (hl.add (t := 9) (hl.add (t := 10) (hl.add (t := 11) (hl.add (t := 24) (hl.add (t := 25) (hl.add (t := 26) (hl.add (t := 35) (hl.add (t := 36) (hl.add (t := 37) (hl.nil) rfl) rfl) rfl) rfl) rfl) rfl) rfl) rfl) rfl) rfl) rfl) rfl) rfl; clear hl; have hl := hl2; clear hl2
            refine then_normal ?_
            refine ⟨k + 1, (by omega), (by omega), hl.addE (t := 37) (hl.addE (t := 9) (hl.addE (t := 8) (hl.addE (t := 0) (hl.addE (t := 1) (hl.addE (t := 2) (hl.addE (t := 10) (hl.addE (t := 11) (hl.addE (t := 24) (hl.addE (t := 25) (hl.addE (t := 26) (hl.addE (t := 35) (hl.addE (t := 36) (hl.nil) rfl (by first | rfl | exact congrArg (Value.int .i64) (show (k : Int) + 1 = ((k + 1 : Nat) : Int) by omega) | (rw [hdx]; done) | (rw [hd1]; rfl) | (rw [hd1]; done))) rfl (by first | rfl | exact congrArg (Value.int .i64) (show (k : Int) + 1 = ((k + 1 : Nat) : Int) by omega) | (rw [hdx]; done) | (rw [hd1]; rfl) | (rw [hd1]; done))) rfl (by first | rfl | exact congrArg (Value.int .i64) (show (k : Int) + 1 = ((k + 1 : Nat) : Int) by omega) | (rw [hdx]; done) | (rw [hd1]; rfl) | (rw [hd1]; done))) rfl (by first | rfl | exact congrArg (Value.int .i64) (show (k : Int) + 1 = ((k + 1 : Nat) : Int) by omega) | (rw [hdx]; done) | (rw [hd1]; rfl) | (rw [hd1]; done))) rfl (by first | rfl | exact congrArg (Value.int .i64) (show (k : Int) + 1 = ((k + 1 : Nat) : Int) by omega) | (rw [hdx]; done) | (rw [hd1]; rfl) | (rw [hd1]; done))) rfl (by first | rfl | exact congrArg (Value.int .i64) (show (k : Int) + 1 = ((k + 1 : Nat) : Int) by omega) | (rw [hdx]; done) | (rw [hd1]; rfl) | (rw [hd1]; done))) rfl (by first | rfl | exact congrArg (Value.int .i64) (show (k : Int) + 1 = ((k + 1 : Nat) : Int) by omega) | (rw [hdx]; done) | (rw [hd1]; rfl) | (rw [hd1]; done))) rfl (by first | rfl | exact congrArg (Value.int .i64) (show (k : Int) + 1 = ((k + 1 : Nat) : Int) by omega) | (rw [hdx]; done) | (rw [hd1]; rfl) | (rw [hd1]; done))) rfl (by first | rfl | exact congrArg (Value.int .i64) (show (k : Int) + 1 = ((k + 1 : Nat) : Int) by omega) | (rw [hdx]; done) | (rw [hd1]; rfl) | (rw [hd1]; done))) rfl (by first | rfl | exact congrArg (Value.int .i64) (show (k : Int) + 1 = ((k + 1 : Nat) : Int) by omega) | (rw [hdx]; done) | (rw [hd1]; rfl) | (rw [hd1]; done))) rfl (by first | rfl | exact congrArg (Value.int .i64) (show (k : Int) + 1 = ((k + 1 : Nat) : Int) by omega) | (rw [hdx]; done) | (rw [hd1]; rfl) | (rw [hd1]; done))) rfl (by first | rfl | exact congrArg (Value.int .i64) (show (k : Int) + 1 = ((k + 1 : Nat) : Int) by omega) | (rw [hdx]; done) | (rw [hd1]; rfl) | (rw [hd1]; done))) rfl (by first | rfl | exact congrArg (Value.int .i64) (show (k : Int) + 1 = ((k + 1 : Nat) : Int) by omega) | (rw [hdx]; done) | (rw [hd1]; rfl) | (rw [hd1]; done)), hh.keep (by repeat (first | exact keeps_nil | apply keeps_cons (by repeat (first | exact find_head | apply find_tail | apply find_skip)) (by first  | rfl) | exact keeps_self | exact keeps_left | apply keeps_app | apply keeps_mv | apply keeps_skip))⟩
        · intro hg1; clear hl; intro hl
          try simp only [decide_eq_true_eq, decide_eq_false_iff_not, Bool.not_eq_true', Bool.not_eq_false', Bool.not_eq_true, Bool.not_eq_false, Bool.and_eq_true, Bool.or_eq_true, Bool.and_eq_false_iff, Bool.or_eq_false_iff, Bool.not_not, ne_eq, Int.not_lt, Int.not_le, Decidable.not_not, beq_iff_eq, bne_iff_ne] at hg1
          refine wl (wl_skip hl rfl ⟨_, _, rfl, rfl, rfl⟩ ?_)
          clear hl a; intro a hl
          refine wl (wl_skip hl rfl ⟨_, _, rfl, rfl, rfl⟩ ?_)
          clear hl a; intro a hl
          refine wl (wl_skip hl rfl ⟨_, _, rfl, rfl, rfl⟩ ?_)
          clear hl a; intro a hl
          refine wl (wl_val hl rfl trivial (r_pickF hl rfl rfl) ?_)
          clear hl a; intro a hl
          refine w_nil ?_
          have hl2 := hl.add (t := 0) (hl.add (t := 1) (hl.add (t := 2) (hl.add (t := 8) (hl.add (t := 9) (hl.add (t := 10) (hl.add (t := 11) (hl.add (t := 12) (hl.add (t := 24) (hl.add (t := 25) (hl.add (t := 26) (hl.add (t := 35) (hl.add (t := 36) (hl.add (t := 37) (hl.add (t := 49) (hl.nil) rfl) rfl) rfl) rfl) rfl) rfl) rfl) rfl) rfl) rfl) rfl) rfl) rfl) rfl) rfl; clear hl; have hl := hl2; clear hl2
          refine then_normal ?_
          refine c_condF hl rfl ?_
          have hdx := dif1_x (a := ia) (b := ib) (i := i) (x := x) hy (fun ⟨q1, q2⟩ => by omega)
          refine wp_skip ?_
          refine blk_normal ?_
          refine then_normal ?_
          refine c_region ?_
          first | refine wl (wl_val hl rfl trivial (r_add hl rfl rfl (by simp only [Fits]; omega)) ?_) | refine wl (wl_val hl rfl trivial (r_addW hl rfl rfl) ?_)
          clear hl a; intro a hl
          refine wl (wl_val hl rfl trivial (r_move hl rfl) ?_)
          clear hl a; intro a hl
          refine w_nil ?_
          have hl2 := hl.add (t := 0) (hl.add (t := 1) (hl.add (t := 2) (hl.add (t := 8) (hl.add (t := 9) (hl.add (t := 10) (hl.add (t := 11) (hl.add (t := 24) (hl.add (t := 25) (hl.add (t := 26) (hl.add (t := 35) (hl.add (t := 36) (hl.add (t := 37) (hl.nil) rfl) rfl) rfl) rfl) rfl) rfl) rfl) rfl) rfl) rfl) rfl) rfl) rfl; clear hl; have hl := hl2; clear hl2
          refine then_normal ?_
          refine ⟨k + 1, (by omega), (by omega), hl.addE (t := 37) (hl.addE (t := 9) (hl.addE (t := 8) (hl.addE (t := 0) (hl.addE (t := 1) (hl.addE (t := 2) (hl.addE (t := 10) (hl.addE (t := 11) (hl.addE (t := 24) (hl.addE (t := 25) (hl.addE (t := 26) (hl.addE (t := 35) (hl.addE (t := 36) (hl.nil) rfl (by first | rfl | exact congrArg (Value.int .i64) (show (k : Int) + 1 = ((k + 1 : Nat) : Int) by omega) | (rw [hdx]; done) | (rw [hd1]; rfl) | (rw [hd1]; done))) rfl (by first | rfl | exact congrArg (Value.int .i64) (show (k : Int) + 1 = ((k + 1 : Nat) : Int) by omega) | (rw [hdx]; done) | (rw [hd1]; rfl) | (rw [hd1]; done))) rfl (by first | rfl | exact congrArg (Value.int .i64) (show (k : Int) + 1 = ((k + 1 : Nat) : Int) by omega) | (rw [hdx]; done) | (rw [hd1]; rfl) | (rw [hd1]; done))) rfl (by first | rfl | exact congrArg (Value.int .i64) (show (k : Int) + 1 = ((k + 1 : Nat) : Int) by omega) | (rw [hdx]; done) | (rw [hd1]; rfl) | (rw [hd1]; done))) rfl (by first | rfl | exact congrArg (Value.int .i64) (show (k : Int) + 1 = ((k + 1 : Nat) : Int) by omega) | (rw [hdx]; done) | (rw [hd1]; rfl) | (rw [hd1]; done))) rfl (by first | rfl | exact congrArg (Value.int .i64) (show (k : Int) + 1 = ((k + 1 : Nat) : Int) by omega) | (rw [hdx]; done) | (rw [hd1]; rfl) | (rw [hd1]; done))) rfl (by first | rfl | exact congrArg (Value.int .i64) (show (k : Int) + 1 = ((k + 1 : Nat) : Int) by omega) | (rw [hdx]; done) | (rw [hd1]; rfl) | (rw [hd1]; done))) rfl (by first | rfl | exact congrArg (Value.int .i64) (show (k : Int) + 1 = ((k + 1 : Nat) : Int) by omega) | (rw [hdx]; done) | (rw [hd1]; rfl) | (rw [hd1]; done))) rfl (by first | rfl | exact congrArg (Value.int .i64) (show (k : Int) + 1 = ((k + 1 : Nat) : Int) by omega) | (rw [hdx]; done) | (rw [hd1]; rfl) | (rw [hd1]; done))) rfl (by first | rfl | exact congrArg (Value.int .i64) (show (k : Int) + 1 = ((k + 1 : Nat) : Int) by omega) | (rw [hdx]; done) | (rw [hd1]; rfl) | (rw [hd1]; done))) rfl (by first | rfl | exact congrArg (Value.int .i64) (show (k : Int) + 1 = ((k + 1 : Nat) : Int) by omega) | (rw [hdx]; done) | (rw [hd1]; rfl) | (rw [hd1]; done))) rfl (by first | rfl | exact congrArg (Value.int .i64) (show (k : Int) + 1 = ((k + 1 : Nat) : Int) by omega) | (rw [hdx]; done) | (rw [hd1]; rfl) | (rw [hd1]; done))) rfl (by first | rfl | exact congrArg (Value.int .i64) (show (k : Int) + 1 = ((k + 1 : Nat) : Int) by omega) | (rw [hdx]; done) | (rw [hd1]; rfl) | (rw [hd1]; done)), hh.keep (by repeat (first | exact keeps_nil | apply keeps_cons (by repeat (first | exact find_head | apply find_tail | apply find_skip)) (by first  | rfl) | exact keeps_self | exact keeps_left | apply keeps_app | apply keeps_mv | apply keeps_skip))⟩
      · intro hc2
        try simp only [decide_eq_true_eq, decide_eq_false_iff_not, Bool.not_eq_true', Bool.not_eq_false', Bool.not_eq_true, Bool.not_eq_false, Bool.and_eq_true, Bool.or_eq_true, Bool.and_eq_false_iff, Bool.or_eq_false_iff, Bool.not_not, ne_eq, Int.not_lt, Int.not_le, Decidable.not_not, beq_iff_eq, bne_iff_ne] at hc2
        have hke : k = m.d.vs.length := by omega
        subst hke
        refine wp_exit ?_
        refine then_exit ?_
        refine then_exit ?_
        refine blk_exit ?_
        refine blk_normal ?_
        refine then_normal ?_
        refine c_region ?_
        first | refine wl (wl_val hl rfl trivial (r_add hl rfl rfl (by simp only [Fits]; omega)) ?_) | refine wl (wl_val hl rfl trivial (r_addW hl rfl rfl) ?_)
        clear hl a; intro a hl
        refine wl (wl_val hl rfl trivial (r_move hl rfl) ?_)
        clear hl a; intro a hl
        refine w_nil ?_
        have hl2 := hl.add (t := 0) (hl.add (t := 1) (hl.add (t := 2) (hl.add (t := 8) (hl.add (t := 9) (hl.add (t := 24) (hl.add (t := 25) (hl.add (t := 26) (hl.nil) rfl) rfl) rfl) rfl) rfl) rfl) rfl) rfl; clear hl; have hl := hl2; clear hl2
        refine then_normal ?_
        refine ⟨i + 1, (by omega), (by omega), hl.addE (t := 26) (hl.addE (t := 9) (hl.addE (t := 8) (hl.addE (t := 0) (hl.addE (t := 1) (hl.addE (t := 2) (hl.addE (t := 24) (hl.addE (t := 25) (hl.nil) rfl (by first | rfl | exact congrArg (Value.int .i64) (show (i : Int) + 1 = ((i + 1 : Nat) : Int) by omega) | (rw [← dif1_n hnv hx]; done))) rfl (by first | rfl | exact congrArg (Value.int .i64) (show (i : Int) + 1 = ((i + 1 : Nat) : Int) by omega) | (rw [← dif1_n hnv hx]; done))) rfl (by first | rfl | exact congrArg (Value.int .i64) (show (i : Int) + 1 = ((i + 1 : Nat) : Int) by omega) | (rw [← dif1_n hnv hx]; done))) rfl (by first | rfl | exact congrArg (Value.int .i64) (show (i : Int) + 1 = ((i + 1 : Nat) : Int) by omega) | (rw [← dif1_n hnv hx]; done))) rfl (by first | rfl | exact congrArg (Value.int .i64) (show (i : Int) + 1 = ((i + 1 : Nat) : Int) by omega) | (rw [← dif1_n hnv hx]; done))) rfl (by first | rfl | exact congrArg (Value.int .i64) (show (i : Int) + 1 = ((i + 1 : Nat) : Int) by omega) | (rw [← dif1_n hnv hx]; done))) rfl (by first | rfl | exact congrArg (Value.int .i64) (show (i : Int) + 1 = ((i + 1 : Nat) : Int) by omega) | (rw [← dif1_n hnv hx]; done))) rfl (by first | rfl | exact congrArg (Value.int .i64) (show (i : Int) + 1 = ((i + 1 : Nat) : Int) by omega) | (rw [← dif1_n hnv hx]; done)), hh.keep (by repeat (first | exact keeps_nil | apply keeps_cons (by repeat (first | exact find_head | apply find_tail | apply find_skip)) (by first  | rfl) | exact keeps_self | exact keeps_left | apply keeps_app | apply keeps_mv | apply keeps_skip))⟩
    · intro hc1
      try simp only [decide_eq_true_eq, decide_eq_false_iff_not, Bool.not_eq_true', Bool.not_eq_false', Bool.not_eq_true, Bool.not_eq_false, Bool.and_eq_true, Bool.or_eq_true, Bool.and_eq_false_iff, Bool.or_eq_false_iff, Bool.not_not, ne_eq, Int.not_lt, Int.not_le, Decidable.not_not, beq_iff_eq, bne_iff_ne] at hc1
      have hie : i = m.d.vs.length := by omega
      subst hie
      refine wp_exit ?_
      refine then_exit ?_
      refine then_exit ?_
      refine blk_exit ?_
      refine then_normal ?_
      refine c_seq ?_
      refine c_seq ?_
      refine c_region ?_
      refine wl (wl_val hl rfl trivial (r_move hl rfl) ?_)
      clear hl a; intro a hl
      refine wl (wl_val hl rfl trivial (r_eql hl rfl rfl) ?_)
      clear hl a; intro a hl
      refine w_nil ?_
      have hl2 := hl.add (t := 8) (hl.add (t := 84) (hl.nil) rfl) rfl; clear hl; have hl := hl2; clear hl2
      refine then_normal ?_
      refine c_cond hl rfl ?_ ?_
      · intro hc6
        try simp only [decide_eq_true_eq, decide_eq_false_iff_not, Bool.not_eq_true', Bool.not_eq_false', Bool.not_eq_true, Bool.not_eq_false, Bool.and_eq_true, Bool.or_eq_true, Bool.and_eq_false_iff, Bool.or_eq_false_iff, Bool.not_not, ne_eq, Int.not_lt, Int.not_le, Decidable.not_not, beq_iff_eq, bne_iff_ne] at hc6
        have hd := dif_fin0 hI.on hvs hc6
        refine c_seq ?_
        refine c_region ?_
        refine wl (wl_val hl rfl trivial (r_assign hl rfl) ?_)
        clear hl a; intro a hl
        refine wl (wl_val hl rfl trivial (r_assign hl rfl) ?_)
        clear hl a; intro a hl
        refine w_nil ?_
        have hl2 := hl.add (t := 6) (hl.add (t := 7) (hl.nil) rfl) rfl; clear hl; have hl := hl2; clear hl2
        refine then_normal ?_
        refine wp_ret ?_
        refine then_ret ?_
        refine f_ret2 (F' := (mb, C (MdV.c m) 82) :: (b1, C (fl idc m.d.vs ++ j1) 36) :: (b2, C (fl ntc m.d.ws ++ j2) 66) :: (m.d.iE ++ ((m.d.vb, MO (kInt .u32) m.d.vd) :: (m.qE ++ (m.rE ++ Z))))) hl hh rfl rfl rfl (by repeat (first | exact keeps_nil | apply keeps_cons (by repeat (first | exact find_head | apply find_tail | apply find_skip)) (by first  | rfl) | exact keeps_self | exact keeps_left | apply keeps_app | apply keeps_mv | apply keeps_skip)) ?_
        exact ⟨by rw [hd], (by simp only [MF, DuV.E_eq, hE1, hE2, List.append_assoc, List.cons_append, List.nil_append])⟩
      · intro hc6
        try simp only [decide_eq_true_eq, decide_eq_false_iff_not, Bool.not_eq_true', Bool.not_eq_false', Bool.not_eq_true, Bool.not_eq_false, Bool.and_eq_true, Bool.or_eq_true, Bool.and_eq_false_iff, Bool.or_eq_false_iff, Bool.not_not, ne_eq, Int.not_lt, Int.not_le, Decidable.not_not, beq_iff_eq, bne_iff_ne] at hc6
        have hd := dif_fin1 hI.on hvs hc6
        refine wp_skip ?_
        refine then_normal ?_
        refine c_seq ?_
        refine c_region ?_
        refine wl (wl_val hl rfl trivial (r_move hl rfl) ?_)
        clear hl a; intro a hl
        refine wl (wl_val hl rfl trivial (r_assign hl rfl) ?_)
        clear hl a; intro a hl
        refine wl (wl_val hl rfl trivial (r_assign hl rfl) ?_)
        clear hl a; intro a hl
        refine w_nil ?_
        have hl2 := hl.add (t := 6) (hl.add (t := 7) (hl.nil) rfl) rfl; clear hl; have hl := hl2; clear hl2
        refine then_normal ?_
        refine wp_ret ?_
        refine f_ret2 (F' := (mb, C (MdV.c m) 82) :: (b1, C (fl idc m.d.vs ++ j1) 36) :: (b2, C (fl ntc m.d.ws ++ j2) 66) :: (m.d.iE ++ ((m.d.vb, MO (kInt .u32) m.d.vd) :: (m.qE ++ (m.rE ++ Z))))) hl hh rfl rfl rfl (by repeat (first | exact keeps_nil | apply keeps_cons (by repeat (first | exact find_head | apply find_tail | apply find_skip)) (by first  | rfl) | exact keeps_self | exact keeps_left | apply keeps_app | apply keeps_mv | apply keeps_skip)) ?_
        exact ⟨by rw [hd], (by simp only [MF, DuV.E_eq, hE1, hE2, List.append_assoc, List.cons_append, List.nil_append])⟩
end Go.Proofs.Qxb6500908aGreat

import Derived.Test.Qxb6500908aX12
import Derived.Test.Qxb6500908aFva
import Derived.Test.Qxb6500908aY3
namespace Go.Proofs.Qxb6500908a
open Go.Eng
set_option linter.unusedVariables false
set_option linter.unusedSimpArgs false
theorem cal116 : callable Try.prog 116 = true := by kernel_rfl
structure WiS where
  i : Nat
  p : Option Addr
  c : Nat
  E : List (Nat × Obj)
def ROWI (p : Option Addr) (l : List Iv) (c : Nat) (E : List (Nat × Obj)) : Prop := Row (.slice p l.length c) l.length (fl ivc l) 6 72 E
def flt (v : Iv) (set : List Iv) (i : Nat) : List Iv := (set.take i).filter (fun u => !decide (u = v))
theorem flt_t {v x : Iv} {set : List Iv} {i : Nat} (h : set[i]? = some x) (hx : ¬ x = v) : flt v set (i + 1) = flt v set i ++ [x] := by
  unfold flt
  rw [List.take_add_one, h, List.filter_append]
  simp [hx]
theorem flt_f {v x : Iv} {set : List Iv} {i : Nat} (h : set[i]? = some x) (hx : x = v) : flt v set (i + 1) = flt v set i := by
  unfold flt
  rw [List.take_add_one, h, List.filter_append]
  simp [hx]
theorem flt_len (v : Iv) (set : List Iv) (i : Nat) : (flt v set i).length ≤ i := by
  unfold flt
  exact Nat.le_trans (List.length_filter_le _ _) (by rw [List.length_take]; omega)
theorem withP_eq (set : List Iv) (v : Iv) (add : Bool) : withP set v add = flt v set set.length ++ (if add then [v] else []) := by unfold withP flt; rw [List.take_length]
theorem withP_len (set : List Iv) (v : Iv) (add : Bool) : (withP set v add).length ≤ set.length + 1 := by
  rw [withP_eq, List.length_append]
  have := flt_len v set set.length
  cases add <;> simp <;> omega
def all9 (a b : List Iv) (i : Nat) : Prop := ∀ k v, k < i → a[k]? = some v → ((withP b v false).length : Int) = (b.length : Int) - 1
theorem sameP_t {a b : List Iv} (h : a.length = b.length) (ha : all9 a b a.length) : sameP a b = true := by
  unfold sameP
  rw [decide_eq_true h, Bool.true_and, List.all_eq_true]
  intro v hv
  obtain ⟨k, hk, rfl⟩ := List.mem_iff_getElem.1 hv
  exact decide_eq_true (ha k _ hk (List.getElem?_eq_getElem hk))
theorem sameP_f1 {a b : List Iv} (h : ¬ a.length = b.length) : sameP a b = false := by unfold sameP; rw [decide_eq_false h]; rfl
theorem sameP_f2 {a b : List Iv} {i : Nat} {v : Iv} (h : a[i]? = some v) (hv : ¬ ((withP b v false).length : Int) = (b.length : Int) - 1) : sameP a b = false := by
  unfold sameP
  rw [Bool.and_eq_false_iff]
  refine .inr ?_
  rw [List.all_eq_false]
  exact ⟨v, List.mem_of_getElem? h, by simp [hv]⟩
theorem litsI' {v : Iv} (h : v.ok) : LitsFit [.int .u8, .int .u8, .int .u8, .int .u8, .int .u8, .int .u8] [.int .u8 v.k, .int .u8 v.a, .int .u8 v.b, .int .u8 v.w, .int .u8 v.da, .int .u8 v.dl] := litsI h

attribute [local irreducible] NtV.k StV.c LdV.c StV.E GtV.c GtV.t orB sh1 WoV.c wst postP

set_option maxHeartbeats 4000000 in
theorem with_spec (set : List Iv) (p : Option Addr) (c : Nat) (E : List (Nat × Obj)) (hR : ROWI p set c E) (hso : ∀ x, x ∈ set → x.ok) (hsl : set.length ≤ 1000) (v : Iv) (hv : v.ok) (add : Bool) : SpK Try.prog 116 #[.slice p set.length c, .agg ⟨ivc v⟩, .bool add] (Mem E) [] (fun u F' => ∃ p' c', u = .slice p' (withP set v add).length c' ∧ ROWI p' (withP set v add) c' F') := by
  refine f_enter (args := [.slice p set.length c, .agg ⟨[.int .u8 v.k, .int .u8 v.a, .int .u8 v.b, .int .u8 v.w, .int .u8 v.da, .int .u8 v.dl]⟩, .bool add]) Try.func116 rfl Try.ntmps116 rfl ?_
  intro w0 w a hpre hl hh
  simp only [slotsFrom, Nat.reduceAdd] at hl
  refine c_seq ?_
  refine c_region ?_
  refine wl (w_box hl hh rfl trivial rfl rfl ?_)
  clear hl hh a w; intro k4 a w hl hh
  refine wl (wl_val hl rfl trivial (r_assign hl rfl) ?_)
  clear hl a; intro a hl
  refine w_nil ?_
  have hl2 := hl.add (t := 0) (hl.add (t := 2) (hl.add (t := 4) (hl.nil) rfl) rfl) rfl; clear hl; have hl := hl2; clear hl2
  refine then_normal ?_
  refine c_seq ?_
  refine c_region ?_
  refine wl (wl_val hl rfl trivial (r_assign hl rfl) ?_)
  clear hl a; intro a hl
  refine w_nil ?_
  have hl2 := hl.add (t := 0) (hl.add (t := 2) (hl.add (t := 4) (hl.add (t := 7) (hl.nil) rfl) rfl) rfl) rfl; clear hl; have hl := hl2; clear hl2
  refine then_normal ?_
  refine c_seq ?_
  refine c_seq ?_
  refine c_region ?_
  refine wl (wl_val hl rfl trivial (r_move hl rfl) ?_)
  clear hl a; intro a hl
  refine wl (wl_val hl rfl trivial (r_lenS hl rfl slc33) ?_)
  clear hl a; intro a hl
  refine wl (wl_val hl rfl trivial (r_move hl rfl) ?_)
  clear hl a; intro a hl
  refine w_nil ?_
  have hl2 := hl.add (t := 2) (hl.add (t := 4) (hl.add (t := 7) (hl.add (t := 10) (hl.add (t := 11) (hl.add (t := 12) (hl.nil) rfl) rfl) rfl) rfl) rfl) rfl; clear hl; have hl := hl2; clear hl2
  refine then_normal ?_
  refine wp_block ?_
  obtain ⟨KS0, hKS0, hk⟩ := (hl.add (t := 2) (hl.add (t := 4) (hl.add (t := 10) (hl.add (t := 11) (hl.nil) rfl) rfl) rfl) rfl).name
  obtain ⟨HS0, hHS0, hh2⟩ := hh.nameT (A := []) (U := ([] : List (Nat × Obj))) (keeps_nil)
  refine c_loop (α := WiS) (fun s => set.length - s.i) (fun s a w => (s.i ≤ set.length ∧ ROWI s.p (flt v set s.i) s.c s.E) ∧ Sl 30 ([(12, .int .i64 (s.i : Int)), (7, .slice s.p (flt v set s.i).length s.c)] ++ KS0) a ∧ Has _ w0 ([] ++ (HS0 ++ s.E)) w) ⟨0, none, 0, []⟩ ⟨⟨Nat.zero_le _, Row.nil _ _⟩, hl.addE (t := 12) (hl.addE (t := 7) (hk) rfl (by first | rfl)) rfl (by first | rfl), hh2⟩ ?_
  clear hk hh2 hl hh a w
  intro s a w hI
  obtain ⟨⟨hi, hsR⟩, hl, hh⟩ := hI
  subst hKS0; subst hHS0
  simp only [List.cons_append, List.nil_append, List.append_nil, List.append_assoc] at hl hh
  have hfl := flt_len v set s.i
  refine c_seq ?_
  refine c_region ?_
  refine wl (wl_val hl rfl trivial (r_lss hl rfl rfl) ?_)
  clear hl a; intro a hl
  refine w_nil ?_
  have hl2 := hl.add (t := 2) (hl.add (t := 4) (hl.add (t := 7) (hl.add (t := 10) (hl.add (t := 11) (hl.add (t := 12) (hl.add (t := 13) (hl.nil) rfl) rfl) rfl) rfl) rfl) rfl) rfl; clear hl; have hl := hl2; clear hl2
  refine then_normal ?_
  refine c_seq ?_
  refine c_cond hl rfl ?_ ?_
  · intro hc0
    try simp only [decide_eq_true_eq, decide_eq_false_iff_not, Bool.not_eq_true', Bool.not_eq_false', Bool.not_eq_true, Bool.not_eq_false, Bool.and_eq_true, Bool.or_eq_true, Bool.and_eq_false_iff, Bool.or_eq_false_iff, Bool.not_not, ne_eq, Int.not_lt, Int.not_le, Decidable.not_not, beq_iff_eq, bne_iff_ne] at hc0
    obtain ⟨x, hx9⟩ : ∃ x, set[s.i]? = some x := ⟨_, List.getElem?_eq_getElem (by omega)⟩
    obtain ⟨b1, j1, hq1, hjl1, hjc1, hE1⟩ := row_pos hR (by omega)
    have hd1 : ((fl ivc set ++ j1).drop (0 + s.i * 6)).take 6 = [.int .u8 x.k, .int .u8 x.a, .int .u8 x.b, .int .u8 x.w, .int .u8 x.da, .int .u8 x.dl] := fl_at ivc_len hx9 j1
    rw [hq1] at hl
    have hxo := hso x (List.mem_of_getElem? hx9)
    refine wp_skip ?_
    refine then_normal ?_
    refine c_seq ?_
    refine wp_block ?_
    refine c_seq ?_
    refine c_region ?_
    refine wl (wl_val hl rfl trivial (r_indexS hl rfl rfl slc33 (by omega) (by omega) (by first | (simp only [Int.reduceToNat]; rfl) | exact toNat_add1 _ | exact toNat_add2 _ _ | exact toNat_emod _ _ | exact Int.toNat_natCast _ | rfl)) ?_)
    clear hl a; intro a hl
    first | refine wl (w_loadA hl hh rfl trivial agg72 rfl (by repeat (first | exact find_head | apply find_tail | apply find_skip)) (by first | (simp only [List.getElem?_cons_zero, List.getElem?_cons_succ, Value.cells, List.take_zero, List.take_succ_cons, List.take_nil, List.drop_zero, List.drop_succ_cons, List.drop_nil, List.length_cons, List.length_nil, List.cons_append, List.nil_append, List.append_nil, Nat.zero_add, Nat.add_zero, Nat.reduceAdd, Nat.reduceBEq, Nat.reduceEqDiff, Nat.ble, BEq.rfl, Bool.and_true, Bool.and_self, cond_true, beq_self_eq_true]; rfl)) (by first | rfl | (simp; done)) ?_) | refine wl (w_loadRA hl hh rfl trivial agg72 rfl (hpre _ _ (by rw [hE1]; exact List.mem_singleton.2 rfl)) (by simp) hd1 rfl ?_)
    clear hl a; intro a hl
    refine wl (w_alloc hl hh rfl trivial zero72 rfl ?_)
    clear hl hh a w; intro k9 a w hl hh
    refine wl (w_storeA hl hh trivial agg72 rfl rfl (by repeat (first | exact find_head | apply find_tail | apply find_skip)) (by first | rfl | (simp; done)) (by first | (simp; done) | (simp; omega)) (by first | rfl | (simp; done)) (by first | (simp only [setL, List.getElem?_cons_zero, List.getElem?_cons_succ, Value.cells, List.take_zero, List.take_succ_cons, List.take_nil, List.drop_zero, List.drop_succ_cons, List.drop_nil, List.length_cons, List.length_nil, List.cons_append, List.nil_append, List.append_nil, Nat.zero_add, Nat.add_zero, Nat.reduceAdd, Nat.reduceBEq, Nat.reduceEqDiff, Nat.ble, BEq.rfl, Bool.and_true, Bool.and_self, cond_true, beq_self_eq_true]; rfl)) ?_)
    clear hh w; intro w hh
    refine w_nil ?_
    have hl2 := hl.add (t := 2) (hl.add (t := 4) (hl.add (t := 7) (hl.add (t := 9) (hl.add (t := 10) (hl.add (t := 11) (hl.add (t := 12) (hl.nil) rfl) rfl) rfl) rfl) rfl) rfl) rfl; clear hl; have hl := hl2; clear hl2
    refine then_normal ?_
    refine c_seq ?_
    refine c_region ?_
    first | refine wl (w_loadA hl hh rfl trivial agg72 rfl (by repeat (first | exact find_head | apply find_tail | apply find_skip)) (by first | (simp only [List.getElem?_cons_zero, List.getElem?_cons_succ, Value.cells, List.take_zero, List.take_succ_cons, List.take_nil, List.drop_zero, List.drop_succ_cons, List.drop_nil, List.length_cons, List.length_nil, List.cons_append, List.nil_append, List.append_nil, Nat.zero_add, Nat.add_zero, Nat.reduceAdd, Nat.reduceBEq, Nat.reduceEqDiff, Nat.ble, BEq.rfl, Bool.and_true, Bool.and_self, cond_true, beq_self_eq_true]; rfl)) (by first | rfl | (simp; done)) ?_) | refine wl (w_loadRA hl hh rfl trivial agg72 rfl (hpre _ _ (by rw [hE1]; exact List.mem_singleton.2 rfl)) (by simp) hd1 rfl ?_)
    clear hl a; intro a hl
    first | refine wl (w_loadA hl hh rfl trivial agg72 rfl (by repeat (first | exact find_head | apply find_tail | apply find_skip)) (by first | (simp only [List.getElem?_cons_zero, List.getElem?_cons_succ, Value.cells, List.take_zero, List.take_succ_cons, List.take_nil, List.drop_zero, List.drop_succ_cons, List.drop_nil, List.length_cons, List.length_nil, List.cons_append, List.nil_append, List.append_nil, Nat.zero_add, Nat.add_zero, Nat.reduceAdd, Nat.reduceBEq, Nat.reduceEqDiff, Nat.ble, BEq.rfl, Bool.and_true, Bool.and_self, cond_true, beq_self_eq_true]; rfl)) (by first | rfl | (simp; done)) ?_) | refine wl (w_loadRA hl hh rfl trivial agg72 rfl (hpre _ _ (by rw [hE1]; exact List.mem_singleton.2 rfl)) (by simp) hd1 rfl ?_)
    clear hl a; intro a hl
    refine wl (wl_val hl rfl trivial (r_neqA hl rfl rfl eqf72 shp72 (by simp only [unlitL, unlit]; rfl) (by simp only [unlitL, unlit]; rfl) (by first | exact litsI hxo | exact litsI hv | exact ⟨trivial⟩ | (refine ⟨?_⟩; simp [LitsOk, litOk, Fits]; done) | (refine ⟨?_⟩; simp [LitsOk, litOk, Fits]; omega)) (by first | exact litsI hxo | exact litsI hv | exact ⟨trivial⟩ | (refine ⟨?_⟩; simp [LitsOk, litOk, Fits]; done) | (refine ⟨?_⟩; simp [LitsOk, litOk, Fits]; omega))) ?_)
    clear hl a; intro a hl
    refine w_nil ?_
    have hl2 := hl.add (t := 2) (hl.add (t := 4) (hl.add (t := 7) (hl.add (t := 9) (hl.add (t := 10) (hl.add (t := 11) (hl.add (t := 12) (hl.add (t := 18) (hl.nil) rfl) rfl) rfl) rfl) rfl) rfl) rfl) rfl; clear hl; have hl := hl2; clear hl2
    refine then_normal ?_
    refine c_cond hl rfl ?_ ?_
    · intro hc1
      try simp only [decide_eq_true_eq, decide_eq_false_iff_not, Bool.not_eq_true', Bool.not_eq_false', Bool.not_eq_true, Bool.not_eq_false, Bool.and_eq_true, Bool.or_eq_true, Bool.and_eq_false_iff, Bool.or_eq_false_iff, Bool.not_not, ne_eq, Int.not_lt, Int.not_le, Decidable.not_not, beq_iff_eq, bne_iff_ne] at hc1
      have hne : ¬ x = v := eqI_f hxo hv (by simpa using hc1)
      refine c_region ?_
      refine wl (wl_val hl rfl trivial (r_move hl rfl) ?_)
      clear hl a; intro a hl
      first | refine wl (w_loadA hl hh rfl trivial agg72 rfl (by repeat (first | exact find_head | apply find_tail | apply find_skip)) (by first | (simp only [List.getElem?_cons_zero, List.getElem?_cons_succ, Value.cells, List.take_zero, List.take_succ_cons, List.take_nil, List.drop_zero, List.drop_succ_cons, List.drop_nil, List.length_cons, List.length_nil, List.cons_append, List.nil_append, List.append_nil, Nat.zero_add, Nat.add_zero, Nat.reduceAdd, Nat.reduceBEq, Nat.reduceEqDiff, Nat.ble, BEq.rfl, Bool.and_true, Bool.and_self, cond_true, beq_self_eq_true]; rfl)) (by first | rfl | (simp; done)) ?_) | refine wl (w_loadRA hl hh rfl trivial agg72 rfl (hpre _ _ (by rw [hE1]; exact List.mem_singleton.2 rfl)) (by simp) hd1 rfl ?_)
      clear hl a; intro a hl
      refine wl (w_buildSlice hl hh rfl trivial app33 zero72 rfl rfl rfl rfl rfl (fill1 rfl (ivc_len _)) ?_)
      clear hl hh a w; intro k21 a w hl hh
      refine wl (w_append (news := [.int .u8 x.k, .int .u8 x.a, .int .u8 x.b, .int .u8 x.w, .int .u8 x.da, .int .u8 x.dl]) hl hh rfl trivial app33 rfl rfl rfl hsR (by repeat (first | exact keeps_nil | apply keeps_cons (by repeat (first | exact find_head | apply find_tail | apply find_skip)) (by first  | rfl) | exact keeps_self | exact keeps_left | apply keeps_app | apply keeps_mv | apply keeps_skip)) (hh.mem _ _ (Find.mem (by repeat (first | exact find_head | apply find_tail | apply find_skip)))) rfl rfl rfl (by omega) (by omega) (by omega) (by decide) ?_)
      clear hl hh a w; intro rv2 E2 a w hR2 hl hh
      have hh3 := hh.comm; clear hh; have hh := hh3; clear hh3
      try simp only [List.cons_append, List.nil_append, List.append_assoc, List.append_nil] at hh
      obtain ⟨p6, c6, hv6⟩ := row_val hR2
      rw [hv6] at hl hR2
      rw [show (flt v set s.i).length + 1 = (flt v set s.i ++ [x]).length by simp] at hl hR2
      rw [show fl ivc (flt v set s.i) ++ [.int .u8 x.k, .int .u8 x.a, .int .u8 x.b, .int .u8 x.w, .int .u8 x.da, .int .u8 x.dl] = fl ivc (flt v set s.i ++ [x]) by rw [fl_app, fl_sing]; rfl] at hR2
      refine wl (wl_val hl rfl trivial (r_assign hl rfl) ?_)
      clear hl a; intro a hl
      refine w_nil ?_
      have hl2 := hl.add (t := 2) (hl.add (t := 4) (hl.add (t := 7) (hl.add (t := 10) (hl.add (t := 11) (hl.add (t := 12) (hl.nil) rfl) rfl) rfl) rfl) rfl) rfl; clear hl; have hl := hl2; clear hl2
      refine blk_normal ?_
      refine then_normal ?_
      refine c_region ?_
      first | refine wl (wl_val hl rfl trivial (r_add hl rfl rfl (by simp only [Fits]; omega)) ?_) | refine wl (wl_val hl rfl trivial (r_addW hl rfl rfl) ?_)
      clear hl a; intro a hl
      refine wl (wl_val hl rfl trivial (r_move hl rfl) ?_)
      clear hl a; intro a hl
      refine w_nil ?_
      have hl2 := hl.add (t := 2) (hl.add (t := 4) (hl.add (t := 7) (hl.add (t := 10) (hl.add (t := 11) (hl.add (t := 12) (hl.nil) rfl) rfl) rfl) rfl) rfl) rfl; clear hl; have hl := hl2; clear hl2
      refine then_normal ?_
      refine ⟨⟨s.i + 1, p6, c6, E2⟩, (by simp only; omega), ⟨by simp only; omega, by simp only; rw [flt_t hx9 hne]; exact hR2⟩, hl.addE (t := 12) (hl.addE (t := 7) (hl.addE (t := 2) (hl.addE (t := 4) (hl.addE (t := 10) (hl.addE (t := 11) (hl.nil) rfl (by first | rfl | exact congrArg (Value.int .i64) (show (s.i : Int) + 1 = ((s.i + 1 : Nat) : Int) by omega) | (rw [hq1]; done) | (rw [← hq1]; done) | (simp only; rw [flt_t hx9 hne]) | (simp only; rw [flt_f hx9 heq]))) rfl (by first | rfl | exact congrArg (Value.int .i64) (show (s.i : Int) + 1 = ((s.i + 1 : Nat) : Int) by omega) | (rw [hq1]; done) | (rw [← hq1]; done) | (simp only; rw [flt_t hx9 hne]) | (simp only; rw [flt_f hx9 heq]))) rfl (by first | rfl | exact congrArg (Value.int .i64) (show (s.i : Int) + 1 = ((s.i + 1 : Nat) : Int) by omega) | (rw [hq1]; done) | (rw [← hq1]; done) | (simp only; rw [flt_t hx9 hne]) | (simp only; rw [flt_f hx9 heq]))) rfl (by first | rfl | exact congrArg (Value.int .i64) (show (s.i : Int) + 1 = ((s.i + 1 : Nat) : Int) by omega) | (rw [hq1]; done) | (rw [← hq1]; done) | (simp only; rw [flt_t hx9 hne]) | (simp only; rw [flt_f hx9 heq]))) rfl (by first | rfl | exact congrArg (Value.int .i64) (show (s.i : Int) + 1 = ((s.i + 1 : Nat) : Int) by omega) | (rw [hq1]; done) | (rw [← hq1]; done) | (simp only; rw [flt_t hx9 hne]) | (simp only; rw [flt_f hx9 heq]))) rfl (by first | rfl | exact congrArg (Value.int .i64) (show (s.i : Int) + 1 = ((s.i + 1 : Nat) : Int) by omega) | (rw [hq1]; done) | (rw [← hq1]; done) | (simp only; rw [flt_t hx9 hne]) | (simp only; rw [flt_f hx9 heq])), hh.keep (by repeat (first | exact keeps_nil | apply keeps_cons (by repeat (first | exact find_head | apply find_tail | apply find_skip)) (by first  | rfl) | exact keeps_self | exact keeps_left | apply keeps_app | apply keeps_mv | apply keeps_skip))⟩
    · intro hc1
      try simp only [decide_eq_true_eq, decide_eq_false_iff_not, Bool.not_eq_true', Bool.not_eq_false', Bool.not_eq_true, Bool.not_eq_false, Bool.and_eq_true, Bool.or_eq_true, Bool.and_eq_false_iff, Bool.or_eq_false_iff, Bool.not_not, ne_eq, Int.not_lt, Int.not_le, Decidable.not_not, beq_iff_eq, bne_iff_ne] at hc1
      have heq : x = v := (eqI hxo hv).1 (by simpa using hc1)
      refine wp_skip ?_
      refine blk_normal ?_
      refine then_normal ?_
      refine c_region ?_
      first | refine wl (wl_val hl rfl trivial (r_add hl rfl rfl (by simp only [Fits]; omega)) ?_) | refine wl (wl_val hl rfl trivial (r_addW hl rfl rfl) ?_)
      clear hl a; intro a hl
      refine wl (wl_val hl rfl trivial (r_move hl rfl) ?_)
      clear hl a; intro a hl
      refine w_nil ?_
      have hl2 := hl.add (t := 2) (hl.add (t := 4) (hl.add (t := 7) (hl.add (t := 10) (hl.add (t := 11) (hl.add (t := 12) (hl.nil) rfl) rfl) rfl) rfl) rfl) rfl; clear hl; have hl := hl2; clear hl2
      refine then_normal ?_
      refine ⟨⟨s.i + 1, s.p, s.c, s.E⟩, (by simp only; omega), ⟨by simp only; omega, by simp only; rw [flt_f hx9 heq]; exact hsR⟩, hl.addE (t := 12) (hl.addE (t := 7) (hl.addE (t := 2) (hl.addE (t := 4) (hl.addE (t := 10) (hl.addE (t := 11) (hl.nil) rfl (by first | rfl | exact congrArg (Value.int .i64) (show (s.i : Int) + 1 = ((s.i + 1 : Nat) : Int) by omega) | (rw [hq1]; done) | (rw [← hq1]; done) | (simp only; rw [flt_t hx9 hne]) | (simp only; rw [flt_f hx9 heq]))) rfl (by first | rfl | exact congrArg (Value.int .i64) (show (s.i : Int) + 1 = ((s.i + 1 : Nat) : Int) by omega) | (rw [hq1]; done) | (rw [← hq1]; done) | (simp only; rw [flt_t hx9 hne]) | (simp only; rw [flt_f hx9 heq]))) rfl (by first | rfl | exact congrArg (Value.int .i64) (show (s.i : Int) + 1 = ((s.i + 1 : Nat) : Int) by omega) | (rw [hq1]; done) | (rw [← hq1]; done) | (simp only; rw [flt_t hx9 hne]) | (simp only; rw [flt_f hx9 heq]))) rfl (by first | rfl | exact congrArg (Value.int .i64) (show (s.i : Int) + 1 = ((s.i + 1 : Nat) : Int) by omega) | (rw [hq1]; done) | (rw [← hq1]; done) | (simp only; rw [flt_t hx9 hne]) | (simp only; rw [flt_f hx9 heq]))) rfl (by first | rfl | exact congrArg (Value.int .i64) (show (s.i : Int) + 1 = ((s.i + 1 : Nat) : Int) by omega) | (rw [hq1]; done) | (rw [← hq1]; done) | (simp only; rw [flt_t hx9 hne]) | (simp only; rw [flt_f hx9 heq]))) rfl (by first | rfl | exact congrArg (Value.int .i64) (show (s.i : Int) + 1 = ((s.i + 1 : Nat) : Int) by omega) | (rw [hq1]; done) | (rw [← hq1]; done) | (simp only; rw [flt_t hx9 hne]) | (simp only; rw [flt_f hx9 heq])), hh.keep (by repeat (first | exact keeps_nil | apply keeps_cons (by repeat (first | exact find_head | apply find_tail | apply find_skip)) (by first  | rfl) | exact keeps_self | exact keeps_left | apply keeps_app | apply keeps_mv | apply keeps_skip))⟩
  · intro hc0
    try simp only [decide_eq_true_eq, decide_eq_false_iff_not, Bool.not_eq_true', Bool.not_eq_false', Bool.not_eq_true, Bool.not_eq_false, Bool.and_eq_true, Bool.or_eq_true, Bool.and_eq_false_iff, Bool.or_eq_false_iff, Bool.not_not, ne_eq, Int.not_lt, Int.not_le, Decidable.not_not, beq_iff_eq, bne_iff_ne] at hc0
    have hie : s.i = set.length := by omega
    refine wp_exit ?_
    refine then_exit ?_
    refine then_exit ?_
    refine blk_exit ?_
    refine then_normal ?_
    refine c_seq ?_
    refine c_seq ?_
    refine c_region ?_
    refine wl (wl_val hl rfl trivial (r_move hl rfl) ?_)
    clear hl a; intro a hl
    refine w_nil ?_
    have hl2 := hl.add (t := 4) (hl.add (t := 7) (hl.add (t := 24) (hl.nil) rfl) rfl) rfl; clear hl; have hl := hl2; clear hl2
    refine then_normal ?_
    refine c_cond hl rfl ?_ ?_
    · intro hc2
      try simp only [decide_eq_true_eq, decide_eq_false_iff_not, Bool.not_eq_true', Bool.not_eq_false', Bool.not_eq_true, Bool.not_eq_false, Bool.and_eq_true, Bool.or_eq_true, Bool.and_eq_false_iff, Bool.or_eq_false_iff, Bool.not_not, ne_eq, Int.not_lt, Int.not_le, Decidable.not_not, beq_iff_eq, bne_iff_ne] at hc2
      have had : withP set v add = flt v set s.i ++ [v] := by rw [withP_eq, hc2, hie]; rfl
      refine c_region ?_
      refine wl (wl_val hl rfl trivial (r_move hl rfl) ?_)
      clear hl a; intro a hl
      first | refine wl (w_loadA hl hh rfl trivial agg72 rfl (by repeat (first | exact find_head | apply find_tail | apply find_skip)) (by first | (simp only [List.getElem?_cons_zero, List.getElem?_cons_succ, Value.cells, List.take_zero, List.take_succ_cons, List.take_nil, List.drop_zero, List.drop_succ_cons, List.drop_nil, List.length_cons, List.length_nil, List.cons_append, List.nil_append, List.append_nil, Nat.zero_add, Nat.add_zero, Nat.reduceAdd, Nat.reduceBEq, Nat.reduceEqDiff, Nat.ble, BEq.rfl, Bool.and_true, Bool.and_self, cond_true, beq_self_eq_true]; rfl)) (by first | rfl | (simp; done)) ?_) | refine wl (w_loadRA hl hh rfl trivial agg72 rfl (hpre _ _ (by rw [hE1]; exact List.mem_singleton.2 rfl)) (by simp) hd1 rfl ?_)
      clear hl a; intro a hl
      refine wl (w_buildSlice hl hh rfl trivial app33 zero72 rfl rfl rfl rfl rfl (fill1 rfl (ivc_len _)) ?_)
      clear hl hh a w; intro k27 a w hl hh
      refine wl (w_append (news := [.int .u8 v.k, .int .u8 v.a, .int .u8 v.b, .int .u8 v.w, .int .u8 v.da, .int .u8 v.dl]) hl hh rfl trivial app33 rfl rfl rfl hsR (by repeat (first | exact keeps_nil | apply keeps_cons (by repeat (first | exact find_head | apply find_tail | apply find_skip)) (by first  | rfl) | exact keeps_self | exact keeps_left | apply keeps_app | apply keeps_mv | apply keeps_skip)) (hh.mem _ _ (Find.mem (by repeat (first | exact find_head | apply find_tail | apply find_skip)))) rfl rfl rfl (by omega) (by omega) (by omega) (by decide) ?_)
      clear hl hh a w; intro rv2 E2 a w hR2 hl hh
      have hh3 := hh.comm; clear hh; have hh := hh3; clear hh3
      try simp only [List.cons_append, List.nil_append, List.append_assoc, List.append_nil] at hh
      obtain ⟨p6, c6, hv6⟩ := row_val hR2
      rw [hv6] at hl hR2
      rw [show (flt v set s.i).length + 1 = (flt v set s.i ++ [v]).length by simp] at hl hR2
      rw [show fl ivc (flt v set s.i) ++ [.int .u8 v.k, .int .u8 v.a, .int .u8 v.b, .int .u8 v.w, .int .u8 v.da, .int .u8 v.dl] = fl ivc (flt v set s.i ++ [v]) by rw [fl_app, fl_sing]; rfl] at hR2
      refine wl (wl_val hl rfl trivial (r_assign hl rfl) ?_)
      clear hl a; intro a hl
      refine w_nil ?_
      have hl2 := hl.add (t := 7) (hl.nil) rfl; clear hl; have hl := hl2; clear hl2
      refine then_normal ?_
      refine c_seq ?_
      refine c_region ?_
      refine wl (wl_val hl rfl trivial (r_move hl rfl) ?_)
      clear hl a; intro a hl
      refine wl (wl_val hl rfl trivial (r_assign hl rfl) ?_)
      clear hl a; intro a hl
      refine w_nil ?_
      have hl2 := hl.add (t := 6) (hl.nil) rfl; clear hl; have hl := hl2; clear hl2
      refine then_normal ?_
      refine wp_ret ?_
      first
      | (have hq := hR2; refine f_ret1 (F' := E2) hl hh rfl rfl (by repeat (first | exact keeps_nil | apply keeps_cons (by repeat (first | exact find_head | apply find_tail | apply find_skip)) (by first  | rfl) | exact keeps_self | exact keeps_left | apply keeps_app | apply keeps_mv | apply keeps_skip)) ?_; exact ⟨p6, c6, by rw [had], by rw [had]; exact hR2⟩)
      | (refine f_ret1 (F' := s.E) hl hh rfl rfl (by repeat (first | exact keeps_nil | apply keeps_cons (by repeat (first | exact find_head | apply find_tail | apply find_skip)) (by first  | rfl) | exact keeps_self | exact keeps_left | apply keeps_app | apply keeps_mv | apply keeps_skip)) ?_; exact ⟨s.p, s.c, by rw [had], by rw [had]; exact hsR⟩)
    · intro hc2
      try simp only [decide_eq_true_eq, decide_eq_false_iff_not, Bool.not_eq_true', Bool.not_eq_false', Bool.not_eq_true, Bool.not_eq_false, Bool.and_eq_true, Bool.or_eq_true, Bool.and_eq_false_iff, Bool.or_eq_false_iff, Bool.not_not, ne_eq, Int.not_lt, Int.not_le, Decidable.not_not, beq_iff_eq, bne_iff_ne] at hc2
      have had : withP set v add = flt v set s.i := by rw [withP_eq, hc2, hie]; simp
      refine wp_skip ?_
      refine then_normal ?_
      refine c_seq ?_
      refine c_region ?_
      refine wl (wl_val hl rfl trivial (r_move hl rfl) ?_)
      clear hl a; intro a hl
      refine wl (wl_val hl rfl trivial (r_assign hl rfl) ?_)
      clear hl a; intro a hl
      refine w_nil ?_
      have hl2 := hl.add (t := 6) (hl.nil) rfl; clear hl; have hl := hl2; clear hl2
      refine then_normal ?_
      refine wp_ret ?_
      first
      | (have hq := hR2; refine f_ret1 (F' := E2) hl hh rfl rfl (by repeat (first | exact keeps_nil | apply keeps_cons (by repeat (first | exact find_head | apply find_tail | apply find_skip)) (by first  | rfl) | exact keeps_self | exact keeps_left | apply keeps_app | apply keeps_mv | apply keeps_skip)) ?_; exact ⟨p6, c6, by rw [had], by rw [had]; exact hR2⟩)
      | (refine f_ret1 (F' := s.E) hl hh rfl rfl (by repeat (first | exact keeps_nil | apply keeps_cons (by repeat (first | exact find_head | apply find_tail | apply find_skip)) (by first  | rfl) | exact keeps_self | exact keeps_left | apply keeps_app | apply keeps_mv | apply keeps_skip)) ?_; exact ⟨s.p, s.c, by rw [had], by rw [had]; exact hsR⟩)

set_option maxHeartbeats 4000000 in
theorem same_spec (sa sb : List Iv) (pa pb : Option Addr) (ca cb : Nat) (Ea Eb : List (Nat × Obj)) (hA : ROWI pa sa ca Ea) (hB : ROWI pb sb cb Eb) (hao : ∀ x, x ∈ sa → x.ok) (hbo : ∀ x, x ∈ sb → x.ok) (hal : sa.length ≤ 1000) (hbl : sb.length ≤ 1000) : SpK Try.prog 115 #[.slice pa sa.length ca, .slice pb sb.length cb] (fun w => Mem Ea w ∧ Mem Eb w) [] (fun u F' => u = .bool (sameP sa sb) ∧ F' = []) := by
  refine f_enter (args := [.slice pa sa.length ca, .slice pb sb.length cb]) Try.func115 rfl Try.ntmps115 rfl ?_
  intro w0 w a hpre hl hh
  simp only [slotsFrom, Nat.reduceAdd] at hl
  refine c_seq ?_
  refine c_region ?_
  refine wl (wl_val hl rfl trivial (r_assign hl rfl) ?_)
  clear hl a; intro a hl
  refine w_nil ?_
  have hl2 := hl.add (t := 0) (hl.add (t := 1) (hl.nil) rfl) rfl; clear hl; have hl := hl2; clear hl2
  refine then_normal ?_
  refine c_seq ?_
  refine c_seq ?_
  refine c_region ?_
  refine wl (wl_val hl rfl trivial (r_move hl rfl) ?_)
  clear hl a; intro a hl
  refine wl (wl_val hl rfl trivial (r_lenS hl rfl slc33) ?_)
  clear hl a; intro a hl
  refine wl (wl_val hl rfl trivial (r_move hl rfl) ?_)
  clear hl a; intro a hl
  refine wl (wl_val hl rfl trivial (r_lenS hl rfl slc33) ?_)
  clear hl a; intro a hl
  refine wl (wl_val hl rfl trivial (r_neq hl rfl rfl) ?_)
  clear hl a; intro a hl
  refine w_nil ?_
  have hl2 := hl.add (t := 0) (hl.add (t := 1) (hl.add (t := 11) (hl.nil) rfl) rfl) rfl; clear hl; have hl := hl2; clear hl2
  refine then_normal ?_
  refine c_cond hl rfl ?_ ?_
  · intro hc0
    try simp only [decide_eq_true_eq, decide_eq_false_iff_not, Bool.not_eq_true', Bool.not_eq_false', Bool.not_eq_true, Bool.not_eq_false, Bool.and_eq_true, Bool.or_eq_true, Bool.and_eq_false_iff, Bool.or_eq_false_iff, Bool.not_not, ne_eq, Int.not_lt, Int.not_le, Decidable.not_not, beq_iff_eq, bne_iff_ne] at hc0
    have hf := sameP_f1 (a := sa) (b := sb) (by omega)
    refine c_seq ?_
    refine c_region ?_
    refine wl (wl_val hl rfl trivial (r_assign hl rfl) ?_)
    clear hl a; intro a hl
    refine w_nil ?_
    have hl2 := hl.add (t := 4) (hl.nil) rfl; clear hl; have hl := hl2; clear hl2
    refine then_normal ?_
    refine wp_ret ?_
    refine then_ret ?_
    refine f_ret1 (F' := []) hl hh rfl rfl (by repeat (first | exact keeps_nil | apply keeps_cons (by repeat (first | exact find_head | apply find_tail | apply find_skip)) (by first  | rfl) | exact keeps_self | exact keeps_left | apply keeps_app | apply keeps_mv | apply keeps_skip)) ?_
    exact ⟨by rw [hf], rfl⟩
  · intro hc0
    try simp only [decide_eq_true_eq, decide_eq_false_iff_not, Bool.not_eq_true', Bool.not_eq_false', Bool.not_eq_true, Bool.not_eq_false, Bool.and_eq_true, Bool.or_eq_true, Bool.and_eq_false_iff, Bool.or_eq_false_iff, Bool.not_not, ne_eq, Int.not_lt, Int.not_le, Decidable.not_not, beq_iff_eq, bne_iff_ne] at hc0
    have hlen : sa.length = sb.length := by omega
    refine wp_skip ?_
    refine then_normal ?_
    refine c_seq ?_
    refine c_seq ?_
    refine c_region ?_
    refine wl (wl_val hl rfl trivial (r_move hl rfl) ?_)
    clear hl a; intro a hl
    refine wl (wl_val hl rfl trivial (r_lenS hl rfl slc33) ?_)
    clear hl a; intro a hl
    refine wl (wl_val hl rfl trivial (r_move hl rfl) ?_)
    clear hl a; intro a hl
    refine w_nil ?_
    have hl2 := hl.add (t := 1) (hl.add (t := 12) (hl.add (t := 13) (hl.add (t := 14) (hl.nil) rfl) rfl) rfl) rfl; clear hl; have hl := hl2; clear hl2
    refine then_normal ?_
    refine wp_block ?_
    obtain ⟨KS0, hKS0, hk⟩ := (hl.add (t := 1) (hl.add (t := 12) (hl.add (t := 13) (hl.nil) rfl) rfl) rfl).name
    obtain ⟨HS0, hHS0, hh2⟩ := hh.name (keeps_nil)
    refine c_loop (α := Nat) (fun i => sa.length - i) (fun i a w => (i ≤ sa.length ∧ all9 sa sb i) ∧ Sl 27 ([(14, .int .i64 (i : Int))] ++ KS0) a ∧ Has _ w0 ([] ++ HS0) w) 0 ⟨⟨Nat.zero_le _, fun k v h => absurd h (Nat.not_lt_zero _)⟩, hl.addE (t := 14) (hk) rfl (by first | rfl), hh2⟩ ?_
    clear hk hh2 hl hh a w
    intro i a w hI
    obtain ⟨⟨hi, ha⟩, hl, hh⟩ := hI
    subst hKS0; subst hHS0
    simp only [List.cons_append, List.nil_append, List.append_nil, List.append_assoc] at hl hh
    refine c_seq ?_
    refine c_region ?_
    refine wl (wl_val hl rfl trivial (r_lss hl rfl rfl) ?_)
    clear hl a; intro a hl
    refine w_nil ?_
    have hl2 := hl.add (t := 1) (hl.add (t := 12) (hl.add (t := 13) (hl.add (t := 14) (hl.add (t := 15) (hl.nil) rfl) rfl) rfl) rfl) rfl; clear hl; have hl := hl2; clear hl2
    refine then_normal ?_
    refine c_seq ?_
    refine c_cond hl rfl ?_ ?_
    · intro hc1
      try simp only [decide_eq_true_eq, decide_eq_false_iff_not, Bool.not_eq_true', Bool.not_eq_false', Bool.not_eq_true, Bool.not_eq_false, Bool.and_eq_true, Bool.or_eq_true, Bool.and_eq_false_iff, Bool.or_eq_false_iff, Bool.not_not, ne_eq, Int.not_lt, Int.not_le, Decidable.not_not, beq_iff_eq, bne_iff_ne] at hc1
      obtain ⟨x, hx9⟩ : ∃ x, sa[i]? = some x := ⟨_, List.getElem?_eq_getElem (by omega)⟩
      obtain ⟨b1, j1, hq1, hjl1, hjc1, hE1⟩ := row_pos hA (by omega)
      have hd1 : ((fl ivc sa ++ j1).drop (0 + i * 6)).take 6 = [.int .u8 x.k, .int .u8 x.a, .int .u8 x.b, .int .u8 x.w, .int .u8 x.da, .int .u8 x.dl] := fl_at ivc_len hx9 j1
      rw [hq1] at hl
      have hxo := hao x (List.mem_of_getElem? hx9)
      refine wp_skip ?_
      refine then_normal ?_
      refine c_seq ?_
      refine wp_block ?_
      refine c_seq ?_
      refine c_region ?_
      refine wl (wl_val hl rfl trivial (r_indexS hl rfl rfl slc33 (by omega) (by omega) (by first | (simp only [Int.reduceToNat]; rfl) | exact toNat_add1 _ | exact toNat_add2 _ _ | exact toNat_emod _ _ | exact Int.toNat_natCast _ | rfl)) ?_)
      clear hl a; intro a hl
      first | refine wl (w_loadA hl hh rfl trivial agg72 rfl (by repeat (first | exact find_head | apply find_tail | apply find_skip)) (by first | (simp only [List.getElem?_cons_zero, List.getElem?_cons_succ, Value.cells, List.take_zero, List.take_succ_cons, List.take_nil, List.drop_zero, List.drop_succ_cons, List.drop_nil, List.length_cons, List.length_nil, List.cons_append, List.nil_append, List.append_nil, Nat.zero_add, Nat.add_zero, Nat.reduceAdd, Nat.reduceBEq, Nat.reduceEqDiff, Nat.ble, BEq.rfl, Bool.and_true, Bool.and_self, cond_true, beq_self_eq_true]; rfl)) (by first | rfl | (simp; done)) ?_) | refine wl (w_loadRA hl hh rfl trivial agg72 rfl (hpre.1 _ _ (by rw [hE1]; exact List.mem_singleton.2 rfl)) (by simp) hd1 rfl ?_)
      clear hl a; intro a hl
      refine wl (w_alloc hl hh rfl trivial zero72 rfl ?_)
      clear hl hh a w; intro k6 a w hl hh
      refine wl (w_storeA hl hh trivial agg72 rfl rfl (by repeat (first | exact find_head | apply find_tail | apply find_skip)) (by first | rfl | (simp; done)) (by first | (simp; done) | (simp; omega)) (by first | rfl | (simp; done)) (by first | (simp only [setL, List.getElem?_cons_zero, List.getElem?_cons_succ, Value.cells, List.take_zero, List.take_succ_cons, List.take_nil, List.drop_zero, List.drop_succ_cons, List.drop_nil, List.length_cons, List.length_nil, List.cons_append, List.nil_append, List.append_nil, Nat.zero_add, Nat.add_zero, Nat.reduceAdd, Nat.reduceBEq, Nat.reduceEqDiff, Nat.ble, BEq.rfl, Bool.and_true, Bool.and_self, cond_true, beq_self_eq_true]; rfl)) ?_)
      clear hh w; intro w hh
      refine w_nil ?_
      have hl2 := hl.add (t := 1) (hl.add (t := 6) (hl.add (t := 12) (hl.add (t := 13) (hl.add (t := 14) (hl.nil) rfl) rfl) rfl) rfl) rfl; clear hl; have hl := hl2; clear hl2
      refine then_normal ?_
      refine c_seq ?_
      refine c_region ?_
      refine wl (wl_val hl rfl trivial (r_move hl rfl) ?_)
      clear hl a; intro a hl
      first | refine wl (w_loadA hl hh rfl trivial agg72 rfl (by repeat (first | exact find_head | apply find_tail | apply find_skip)) (by first | (simp only [List.getElem?_cons_zero, List.getElem?_cons_succ, Value.cells, List.take_zero, List.take_succ_cons, List.take_nil, List.drop_zero, List.drop_succ_cons, List.drop_nil, List.length_cons, List.length_nil, List.cons_append, List.nil_append, List.append_nil, Nat.zero_add, Nat.add_zero, Nat.reduceAdd, Nat.reduceBEq, Nat.reduceEqDiff, Nat.ble, BEq.rfl, Bool.and_true, Bool.and_self, cond_true, beq_self_eq_true]; rfl)) (by first | rfl | (simp; done)) ?_) | refine wl (w_loadRA hl hh rfl trivial agg72 rfl (hpre.1 _ _ (by rw [hE1]; exact List.mem_singleton.2 rfl)) (by simp) hd1 rfl ?_)
      clear hl a; intro a hl
      refine wl (w_call hl hh rfl trivial rfl cal116 rfl (with_spec sb pb cb Eb hB hbo hbl x hxo false) (by repeat (first | exact keeps_nil | apply keeps_cons (by repeat (first | exact find_head | apply find_tail | apply find_skip)) (by first  | rfl) | exact keeps_self | exact keeps_left | apply keeps_app | apply keeps_mv | apply keeps_skip)) (mem_keep hh hpre.2) ?_)
      clear hl hh a w; intro vc Fc a w hR hl hh
      obtain ⟨p7, c7, rfl, hR7⟩ := hR
      try simp only [List.cons_append, List.nil_append, List.append_assoc, List.append_nil] at hh
      refine wl (wl_val hl rfl trivial (r_lenS hl rfl slc33) ?_)
      clear hl a; intro a hl
      refine wl (wl_val hl rfl trivial (r_move hl rfl) ?_)
      clear hl a; intro a hl
      refine wl (wl_val hl rfl trivial (r_lenS hl rfl slc33) ?_)
      clear hl a; intro a hl
      first | refine wl (wl_val hl rfl trivial (r_sub hl rfl rfl (by simp only [Fits]; omega)) ?_) | refine wl (wl_val hl rfl trivial (r_subW hl rfl rfl) ?_)
      clear hl a; intro a hl
      refine wl (wl_val hl rfl trivial (r_neq hl rfl rfl) ?_)
      clear hl a; intro a hl
      refine w_nil ?_
      have hl2 := hl.add (t := 1) (hl.add (t := 12) (hl.add (t := 13) (hl.add (t := 14) (hl.add (t := 25) (hl.nil) rfl) rfl) rfl) rfl) rfl; clear hl; have hl := hl2; clear hl2
      refine then_normal ?_
      refine c_cond hl rfl ?_ ?_
      · intro hc2
        try simp only [decide_eq_true_eq, decide_eq_false_iff_not, Bool.not_eq_true', Bool.not_eq_false', Bool.not_eq_true, Bool.not_eq_false, Bool.and_eq_true, Bool.or_eq_true, Bool.and_eq_false_iff, Bool.or_eq_false_iff, Bool.not_not, ne_eq, Int.not_lt, Int.not_le, Decidable.not_not, beq_iff_eq, bne_iff_ne] at hc2
        have hf := sameP_f2 (b := sb) hx9 (by omega)
        refine c_seq ?_
        refine c_region ?_
        refine wl (wl_val hl rfl trivial (r_assign hl rfl) ?_)
        clear hl a; intro a hl
        refine w_nil ?_
        have hl2 := hl.add (t := 4) (hl.nil) rfl; clear hl; have hl := hl2; clear hl2
        refine then_normal ?_
        refine wp_ret ?_
        refine blk_ret ?_
        refine then_ret ?_
        refine then_ret ?_
        refine blk_ret ?_
        refine then_ret ?_
        refine f_ret1 (F' := []) hl hh rfl rfl (by repeat (first | exact keeps_nil | apply keeps_cons (by repeat (first | exact find_head | apply find_tail | apply find_skip)) (by first  | rfl) | exact keeps_self | exact keeps_left | apply keeps_app | apply keeps_mv | apply keeps_skip)) ?_
        exact ⟨by rw [hf], rfl⟩
      · intro hc2
        try simp only [decide_eq_true_eq, decide_eq_false_iff_not, Bool.not_eq_true', Bool.not_eq_false', Bool.not_eq_true, Bool.not_eq_false, Bool.and_eq_true, Bool.or_eq_true, Bool.and_eq_false_iff, Bool.or_eq_false_iff, Bool.not_not, ne_eq, Int.not_lt, Int.not_le, Decidable.not_not, beq_iff_eq, bne_iff_ne] at hc2
        refine wp_skip ?_
        refine blk_normal ?_
        refine then_normal ?_
        refine c_region ?_
        first | refine wl (wl_val hl rfl trivial (r_add hl rfl rfl (by simp only [Fits]; omega)) ?_) | refine wl (wl_val hl rfl trivial (r_addW hl rfl rfl) ?_)
        clear hl a; intro a hl
        refine wl (wl_val hl rfl trivial (r_move hl rfl) ?_)
        clear hl a; intro a hl
        refine w_nil ?_
        have hl2 := hl.add (t := 1) (hl.add (t := 12) (hl.add (t := 13) (hl.add (t := 14) (hl.nil) rfl) rfl) rfl) rfl; clear hl; have hl := hl2; clear hl2
        refine then_normal ?_
        refine ⟨i + 1, (by omega), ⟨by omega, all_snoc ha hx9 (by omega)⟩, hl.addE (t := 14) (hl.addE (t := 1) (hl.addE (t := 12) (hl.addE (t := 13) (hl.nil) rfl (by first | rfl | exact congrArg (Value.int .i64) (show (i : Int) + 1 = ((i + 1 : Nat) : Int) by omega) | (rw [hq1]; done) | (rw [← hq1]; done))) rfl (by first | rfl | exact congrArg (Value.int .i64) (show (i : Int) + 1 = ((i + 1 : Nat) : Int) by omega) | (rw [hq1]; done) | (rw [← hq1]; done))) rfl (by first | rfl | exact congrArg (Value.int .i64) (show (i : Int) + 1 = ((i + 1 : Nat) : Int) by omega) | (rw [hq1]; done) | (rw [← hq1]; done))) rfl (by first | rfl | exact congrArg (Value.int .i64) (show (i : Int) + 1 = ((i + 1 : Nat) : Int) by omega) | (rw [hq1]; done) | (rw [← hq1]; done)), hh.keep (by repeat (first | exact keeps_nil | apply keeps_cons (by repeat (first | exact find_head | apply find_tail | apply find_skip)) (by first  | rfl) | exact keeps_self | exact keeps_left | apply keeps_app | apply keeps_mv | apply keeps_skip))⟩
    · intro hc1
      try simp only [decide_eq_true_eq, decide_eq_false_iff_not, Bool.not_eq_true', Bool.not_eq_false', Bool.not_eq_true, Bool.not_eq_false, Bool.and_eq_true, Bool.or_eq_true, Bool.and_eq_false_iff, Bool.or_eq_false_iff, Bool.not_not, ne_eq, Int.not_lt, Int.not_le, Decidable.not_not, beq_iff_eq, bne_iff_ne] at hc1
      have hie : i = sa.length := by omega
      rw [hie] at ha
      have hf := sameP_t hlen ha
      refine wp_exit ?_
      refine then_exit ?_
      refine then_exit ?_
      refine blk_exit ?_
      refine then_normal ?_
      refine c_seq ?_
      refine c_region ?_
      refine wl (wl_val hl rfl trivial (r_assign hl rfl) ?_)
      clear hl a; intro a hl
      refine w_nil ?_
      have hl2 := hl.add (t := 4) (hl.nil) rfl; clear hl; have hl := hl2; clear hl2
      refine then_normal ?_
      refine wp_ret ?_
      refine f_ret1 (F' := []) hl hh rfl rfl (by repeat (first | exact keeps_nil | apply keeps_cons (by repeat (first | exact find_head | apply find_tail | apply find_skip)) (by first  | rfl) | exact keeps_self | exact keeps_left | apply keeps_app | apply keeps_mv | apply keeps_skip)) ?_
      exact ⟨by rw [hf], rfl⟩
end Go.Proofs.Qxb6500908a

import Derived.Test.Qxb6500915aGreatDoorA8
namespace Go.Proofs.Qxb6500915aGreatDoor
open Go.Eng
set_option linter.unusedVariables false
set_option linter.unusedSimpArgs false
theorem cal15 : callable Tryz.prog 15 = true := by kernel_rfl
theorem app108 : appOk Tryz.prog 108 109 1 8 = true := by kernel_rfl
theorem zero109 : zeroOk Tryz.prog 109 (.pointer none) := by unfold zeroOk; kernel_rfl
theorem slc108 : slcOk Tryz.prog 108 1 = true := by kernel_rfl
theorem one109 : oneOk Tryz.prog 109 = true := by kernel_rfl
/-! ## a rule with one small change -/
theorem fl_part {α : Type} {f : α → List Value} {s : Nat} (hs : ∀ x, (f x).length = s) {l : List α} {i j : Nat} {c c' : α} {v : Value} (junk : List Value) (h : l[i]? = some c) (hj : j < s) (hc : setL (f c) j [v] = f c') : setL (fl f l ++ junk) (0 + i * s + j) [v] = fl f (l.set i c') ++ junk := by
  have hi : i < l.length := (List.getElem?_eq_some_iff.1 h).1
  rw [← fl_set hs l c' junk i hi, ← hc]
  have hA : (fl f (l.take i)).length = i * s := by rw [fl_len hs, List.length_take]; congr 1; omega
  have hy : l[i] = c := (List.getElem?_eq_some_iff.1 h).2
  have h1 : fl f l ++ junk = fl f (l.take i) ++ (f c ++ (fl f (l.drop (i + 1)) ++ junk)) := by rw [fl_split l i, List.drop_eq_getElem_cons hi, fl_cons, hy]; simp
  rw [h1]
  have hlen := hs c
  generalize fl f (l.take i) = A at hA
  generalize fl f (l.drop (i + 1)) ++ junk = B
  generalize f c = X at hlen
  unfold setL
  simp only [List.length_cons, List.length_nil, Nat.zero_add]
  rw [← hA]
  have e3 : List.take (A.length + j) A = A := List.take_of_length_le (by omega)
  have e4 : List.drop (A.length + j + 1) A = [] := List.drop_of_length_le (by omega)
  have e5 : (List.take j X ++ [v] ++ List.drop (j + 1) X).length = s := by simp; omega
  rw [e5, List.take_append, List.drop_append, List.drop_append, List.take_append, e3, e4, show A.length + j - A.length = j by omega, show A.length + j + 1 - A.length = j + 1 by omega, List.take_append, List.drop_append]
  have e6 : List.take A.length A = A := List.take_of_length_le (Nat.le_refl _)
  have e7 : List.drop (A.length + s) A = [] := List.drop_of_length_le (by omega)
  have e8 : List.drop s X = [] := List.drop_of_length_le (by omega)
  rw [show j - X.length = 0 by omega, show j + 1 - X.length = 0 by omega]
  simp [e6, e7, e8, show A.length + s - A.length = s by omega, hlen]
def ptc (q : Addr) : List Value := [.pointer (some q)]
theorem ptc_len (q : Addr) : (ptc q).length = 1 := rfl
/-- a place of a term within the rule's blocks -/
def Slot (r : RV) (q : Addr) : Prop := ∃ (E1 E2 : List (Nat × Obj)) (b i : Nat) (ts : List Tm) (junk : List Value), r.E = E1 ++ ((b, C (fl tmc ts ++ junk) 54) :: E2) ∧ i < ts.length ∧ q = ⟨b, i * 4, none⟩ ∧ ∀ t : Tm, t.ok → ∃ r' : RV, r'.ok ∧ r'.c3 = r.c3 ∧ r'.ls.length = r.ls.length ∧ r'.E = E1 ++ ((b, C (fl tmc (ts.set i t) ++ junk) 54) :: E2)
theorem ags_set {p : Option Addr} {c : Nat} {ts : List Tm} {b : Nat} {junk : List Value} {E : List (Nat × Obj)} (h : Ags (.slice p ts.length c) ts E) (hp : p = some ⟨b, 0, none⟩) (hE : E = [(b, C (fl tmc ts ++ junk) 54)]) {i : Nat} {t : Tm} (ht : t.ok) (hl : (fl tmc ts ++ junk).length = c * 4) (hc : ts.length ≤ c) : Ags (.slice p (ts.set i t).length c) (ts.set i t) [(b, C (fl tmc (ts.set i t) ++ junk) 54)] := by
  refine ⟨.inr ⟨b, c, junk, by rw [hp], by rw [fl_len tmc_len], ?_, by rw [List.length_set]; exact hc, rfl⟩, by rw [List.length_set]; exact h.len, fun x hx => ?_⟩
  · rw [List.length_append, fl_len tmc_len, List.length_set, ← fl_len tmc_len, ← List.length_append]; exact hl
  · rcases List.mem_or_eq_of_mem_set hx with h1 | h1
    · exact h.ok x h1
    · rw [h1]; exact ht
theorem slot_head {r : RV} (h : r.ok) {i : Nat} (hi : i < r.a.length) : ∃ b, r.hp = some ⟨b, 0, none⟩ ∧ Slot r ⟨b, i * 4, none⟩ := by
  obtain ⟨b, junk, hp, hl, hc, hE⟩ := row_pos h.hd.row (by omega)
  refine ⟨b, hp, [], r.bE ++ r.ls.flatMap LV.E, b, i, r.a, junk, by unfold RV.E; rw [hE]; rfl, hi, rfl, fun t ht => ?_⟩
  refine ⟨{ r with a := r.a.set i t, hE := [(b, C (fl tmc (r.a.set i t) ++ junk) 54)] }, ⟨ags_set h.hd hp hE ht hl hc, h.bd, h.ls, h.len, h.p⟩, ?_, rfl, rfl⟩
  unfold RV.c3; simp only [List.length_set]
theorem slot_lit {r : RV} (h : r.ok) {j i : Nat} {x : LV} (hx : r.ls[j]? = some x) (hi : i < x.l.a.length) : ∃ b, x.p = some ⟨b, 0, none⟩ ∧ Slot r ⟨b, i * 4, none⟩ := by
  have hxm := List.mem_of_getElem? hx
  have hxo := h.ls x hxm
  obtain ⟨b, junk, hp, hl, hc, hE⟩ := row_pos hxo.ags.row (by omega)
  obtain ⟨hj, hje⟩ := List.getElem?_eq_some_iff.1 hx
  have hsp : r.ls = r.ls.take j ++ (x :: r.ls.drop (j + 1)) := by
    conv => lhs; rw [← List.take_append_drop j r.ls]
    rw [List.drop_eq_getElem_cons hj, hje]
  have hfm : r.ls.flatMap LV.E = (r.ls.take j).flatMap LV.E ++ ((b, C (fl tmc x.l.a ++ junk) 54) :: (r.ls.drop (j + 1)).flatMap LV.E) := by
    conv => lhs; rw [hsp]
    rw [List.flatMap_append, List.flatMap_cons, hE]; rfl
  refine ⟨b, hp, r.hE ++ (r.bE ++ (r.ls.take j).flatMap LV.E), (r.ls.drop (j + 1)).flatMap LV.E, b, i, x.l.a, junk, by unfold RV.E; rw [hfm]; simp only [List.append_assoc], hi, rfl, fun t ht => ?_⟩
  let y : LV := ⟨{ x.l with a := x.l.a.set i t }, x.p, x.c, [(b, C (fl tmc (x.l.a.set i t) ++ junk) 54)]⟩
  have hyo : y.ok := ⟨ags_set hxo.ags hp hE ht hl hc, hxo.k, hxo.o, hxo.p⟩
  have hyc : y.c4 = x.c4 := by show LV.c4 ⟨{ x.l with a := x.l.a.set i t }, x.p, x.c, _⟩ = x.c4; unfold LV.c4; simp only [List.length_set]
  have hset : r.ls.set j y = r.ls.take j ++ (y :: r.ls.drop (j + 1)) := by rw [List.set_eq_take_append_cons_drop, if_pos hj]
  have hfl : fl LV.c4 (r.ls.set j y) = fl LV.c4 r.ls := by
    rw [hset]
    conv => rhs; rw [hsp]
    rw [fl_app, fl_app, fl_cons, fl_cons, hyc]
  refine ⟨{ r with ls := r.ls.set j y }, ⟨h.hd, ?_, fun z hz => ?_, by simp only [List.length_set]; exact h.len, h.p⟩, ?_, by simp only [List.length_set], ?_⟩
  · simp only [List.length_set]; rw [hfl]; exact h.bd
  · rcases List.mem_or_eq_of_mem_set hz with h1 | h1
    · exact h.ls z h1
    · rw [h1]; exact hyo
  · unfold RV.c3; simp only [List.length_set]
  · show r.hE ++ (r.bE ++ (r.ls.set j y).flatMap LV.E) = _
    rw [hset, List.flatMap_append, List.flatMap_cons]
    show _ ++ (_ ++ (_ ++ ([(b, C (fl tmc (x.l.a.set i t) ++ junk) 54)] ++ _))) = _
    simp only [List.append_assoc, List.cons_append, List.nil_append]
/-- one literal of the rule, with another kind or relation -/
theorem rv_setL {r : RV} (h : r.ok) {j : Nat} {x : LV} (hx : r.ls[j]? = some x) {k o : Int} (hk : 0 ≤ k ∧ k ≤ 255) (ho : 0 ≤ o ∧ o ≤ 255) {b : Nat} {junk : List Value} (hp : r.bp = some ⟨b, 0, none⟩) (hE : r.bE = [(b, C (fl LV.c4 r.ls ++ junk) 48)]) (hl : (fl LV.c4 r.ls ++ junk).length = r.bc * 4) (hc : r.ls.length ≤ r.bc) :
    ∃ r' : RV, r'.ok ∧ r'.c3 = r.c3 ∧ r'.ls.length = r.ls.length ∧ r'.E = r.hE ++ ([(b, C (fl LV.c4 (r.ls.set j { x with l := { x.l with k := k, o := o } }) ++ junk) 48)] ++ r.ls.flatMap LV.E) := by
  obtain ⟨hj, hje⟩ := List.getElem?_eq_some_iff.1 hx
  have hxm := List.mem_of_getElem? hx
  have hset : r.ls.set j { x with l := { x.l with k := k, o := o } } = r.ls.take j ++ ({ x with l := { x.l with k := k, o := o } } :: r.ls.drop (j + 1)) := by rw [List.set_eq_take_append_cons_drop, if_pos hj]
  have hsp : r.ls = r.ls.take j ++ (x :: r.ls.drop (j + 1)) := by
    conv => lhs; rw [← List.take_append_drop j r.ls]
    rw [List.drop_eq_getElem_cons hj, hje]
  refine ⟨{ r with ls := r.ls.set j { x with l := { x.l with k := k, o := o } }, bE := [(b, C (fl LV.c4 (r.ls.set j { x with l := { x.l with k := k, o := o } }) ++ junk) 48)] }, ⟨h.hd, ?_, fun z hz => ?_, by simp only [List.length_set]; exact h.len, h.p⟩, ?_, by simp only [List.length_set], ?_⟩
  · simp only [List.length_set]
    refine .inr ⟨b, r.bc, junk, by rw [hp], by rw [fl_len c4_len, List.length_set], ?_, hc, rfl⟩
    rw [List.length_append, fl_len c4_len, List.length_set, ← fl_len c4_len, ← List.length_append]; exact hl
  · rcases List.mem_or_eq_of_mem_set hz with h1 | h1
    · exact h.ls z h1
    · rw [h1]; exact ⟨(h.ls x hxm).ags, hk, ho, (h.ls x hxm).p⟩
  · unfold RV.c3; simp only [List.length_set]
  · show r.hE ++ (_ ++ (r.ls.set j { x with l := { x.l with k := k, o := o } }).flatMap LV.E) = _
    have hfm : (r.ls.set j { x with l := { x.l with k := k, o := o } }).flatMap LV.E = r.ls.flatMap LV.E := by
      rw [hset]
      conv => rhs; rw [hsp]
      simp only [List.flatMap_append, List.flatMap_cons]
    rw [hfm]
theorem fl_setZ {α : Type} {f : α → List Value} {s : Nat} (hs : ∀ a, (f a).length = s) (l : List α) (c : α) (junk : List Value) (i : Nat) (h : i < l.length) : setL (fl f l ++ junk) (i * s) (f c) = fl f (l.set i c) ++ junk := by
  have := fl_set hs l c junk i h
  rwa [Nat.zero_add] at this
structure PL where
  i : Nat
  l : List Addr
  v : Value
  E : List (Nat × Obj)


attribute [local irreducible] RV.E

set_option maxHeartbeats 8000000 in
theorem tweaked_spec (r : RV) (hr : r.ok) (t : Tm) (ht : t.ok) (db : Nat) (x : Int) (hne : ∀ z, z ∈ r.E → z.1 ∉ List.map Prod.fst [(db, C [.int .u64 (x)] 64)]) : SpK Tryz.prog 18 #[.agg ⟨[.string r.p, .slice r.hp r.a.length r.hc, .slice r.bp r.ls.length r.bc]⟩, .pointer (some ⟨db, 0, none⟩), .agg ⟨[.int .u8 t.k, .int .i64 t.v, .int .i64 t.i, .string t.s]⟩] (Mem r.E) [(db, C [.int .u64 (x)] 64)] (fun v F' => ∃ (x' : Int) (r' : RV), r'.ok ∧ v = .agg ⟨[.string r'.p, .slice r'.hp r'.a.length r'.hc, .slice r'.bp r'.ls.length r'.bc]⟩ ∧ F' = (db, C [.int .u64 (x')] 64) :: r'.E) := by
  refine f_enter (args := [.agg ⟨[.string r.p, .slice r.hp r.a.length r.hc, .slice r.bp r.ls.length r.bc]⟩, .pointer (some ⟨db, 0, none⟩), .agg ⟨[.int .u8 t.k, .int .i64 t.v, .int .i64 t.i, .string t.s]⟩]) Tryz.func18 rfl Tryz.ntmps18 rfl ?_
  intro w0 w a hpre hl hh
  have hrl := hr.len; have hra := hr.hd.len
  simp only [slotsFrom, Nat.reduceAdd] at hl
  refine c_seq ?_
  refine c_region ?_
  refine wl (w_box hl hh rfl trivial rfl rfl ?_)
  clear hl hh a w; intro k3 a w hl hh
  refine wl (w_box hl hh rfl trivial rfl rfl ?_)
  clear hl hh a w; intro k5 a w hl hh
  refine wl (w_alloc hl hh rfl trivial zero57 rfl ?_)
  clear hl hh a w; intro k6 a w hl hh
  refine w_nil ?_
  have hl2 := hl.add (t := 1) (hl.add (t := 3) (hl.add (t := 5) (hl.add (t := 6) (hl.nil) rfl) rfl) rfl) rfl; clear hl; have hl := hl2; clear hl2
  refine then_normal ?_
  refine c_seq ?_
  refine c_region ?_
  first | refine wl (w_loadA hl hh rfl trivial agg57 rfl (by repeat (first | exact find_head | apply find_tail | apply find_skip)) (by first | exact hd1 | (simp only [List.getElem?_cons_zero, List.getElem?_cons_succ, Value.cells, List.take_zero, List.take_succ_cons, List.take_nil, List.drop_zero, List.drop_succ_cons, List.drop_nil, List.length_cons, List.length_nil, List.cons_append, List.nil_append, List.append_nil, Nat.zero_add, Nat.add_zero, Nat.reduceAdd, Nat.reduceBEq, Nat.reduceEqDiff, Nat.ble, BEq.rfl, Bool.and_true, Bool.and_self, cond_true, beq_self_eq_true]; rfl)) (by first | rfl | (simp; done)) ?_) | refine wl (wl_val hl rfl trivial (r_loadA hl rfl agg57 (hh.mem _ _ (show (b1, C (fl LV.c4 q.ls ++ j1) 48) ∈ _ by rw [hEq]; simp)) hd1 rfl) ?_)
  clear hl a; intro a hl
  refine wl (w_call hl hh rfl trivial rfl cal15 rfl (cloneR_spec r.p r.a r.hp r.hc r.hE hr.hd.g r.ls r.bp r.bc r.bE hr.bd hr.ls hr.len hr.p) (by repeat (first | exact keeps_nil | apply keeps_cons (by repeat (first | exact find_head | apply find_tail | apply find_skip)) (by first  | rfl) | exact keeps_self | exact keeps_left | apply keeps_app | apply keeps_mv | apply keeps_skip)) ⟨RV.mh (mem_keepD hh hpre hne), RV.mb (mem_keepD hh hpre hne), fun y hy => RV.ml (mem_keepD hh hpre hne) hy⟩ ?_)
  clear hl hh a w; intro vc Fc a w hR hl hh
  obtain ⟨q, hq, hqr, rfl, rfl⟩ := hR
  try simp only [List.cons_append, List.nil_append, List.append_assoc, List.append_nil] at hh
  replace hh := hh.comm
  simp only [List.cons_append, List.nil_append, List.append_nil, List.append_assoc] at hh
  have hql := hq.len; have hqa := hq.hd.len
  refine wl (w_alloc hl hh rfl trivial zero57 rfl ?_)
  clear hl hh a w; intro k7 a w hl hh
  refine wl (w_storeA hl hh trivial agg57 rfl rfl (by repeat (first | exact find_head | apply find_tail | apply find_skip)) (by first | rfl | (simp; done) | exact hd1) (by first | (simp; done) | (simp; omega) | (rw [List.length_append, fl_len tmc_len]; omega)) (by first | rfl | (simp; done)) (by first | exact fl_setZ tmc_len ts2 t j2 i2 hi2 | (simp only [setL, List.getElem?_cons_zero, List.getElem?_cons_succ, Value.cells, List.take_zero, List.take_succ_cons, List.take_nil, List.drop_zero, List.drop_succ_cons, List.drop_nil, List.length_cons, List.length_nil, List.cons_append, List.nil_append, List.append_nil, Nat.zero_add, Nat.add_zero, Nat.reduceAdd, Nat.reduceBEq, Nat.reduceEqDiff, Nat.ble, BEq.rfl, Bool.and_true, Bool.and_self, cond_true, beq_self_eq_true]; rfl) | (simp only [setL, List.getElem?_cons_zero, List.getElem?_cons_succ, Value.cells, List.take_zero, List.take_succ_cons, List.take_nil, List.drop_zero, List.drop_succ_cons, List.drop_nil, List.length_cons, List.length_nil, List.cons_append, List.nil_append, List.append_nil, Nat.zero_add, Nat.add_zero, Nat.reduceAdd, Nat.reduceBEq, Nat.reduceEqDiff, Nat.ble, BEq.rfl, Bool.and_true, Bool.and_self, cond_true, beq_self_eq_true]; rfl)) ?_)
  clear hh w; intro w hh
  refine w_nil ?_
  have hl2 := hl.add (t := 1) (hl.add (t := 5) (hl.add (t := 6) (hl.add (t := 7) (hl.nil) rfl) rfl) rfl) rfl; clear hl; have hl := hl2; clear hl2
  refine then_normal ?_
  refine c_seq ?_
  refine c_seq ?_
  refine c_region ?_
  refine wl (wl_val hl rfl trivial (r_field hl rfl fld57_1) ?_)
  clear hl a; intro a hl
  refine wl (w_load hl hh rfl trivial one55 rfl (by repeat (first | exact find_head | apply find_tail | apply find_skip)) (by first | rfl) ?_)
  clear hl a; intro a hl
  refine wl (wl_val hl rfl trivial (r_lenS hl rfl slc55) ?_)
  clear hl a; intro a hl
  refine wl (wl_val hl rfl trivial (r_gtr hl rfl rfl) ?_)
  clear hl a; intro a hl
  refine wl (wl_val hl rfl trivial (r_move hl rfl) ?_)
  clear hl a; intro a hl
  refine sl_split (t := 20) hl rfl ?_ ?_
  · intro hg1; clear hl; intro hl
    try simp only [decide_eq_true_eq, decide_eq_false_iff_not, Bool.not_eq_true', Bool.not_eq_false', Bool.not_eq_true, Bool.not_eq_false, Bool.and_eq_true, Bool.or_eq_true, Bool.and_eq_false_iff, Bool.or_eq_false_iff, Bool.not_not, ne_eq, Int.not_lt, Int.not_le, Decidable.not_not, beq_iff_eq, bne_iff_ne] at hg1
    refine wl (wl_val hl rfl ⟨_, _, rfl, rfl, rfl⟩ (r_move hl rfl) ?_)
    clear hl a; intro a hl
    refine wl (w_call hl hh rfl ⟨_, _, rfl, rfl, rfl⟩ rfl cal17 rfl (roll_spec db x 3 (by omega)) (by repeat (first | exact keeps_nil | apply keeps_cons (by repeat (first | exact find_head | apply find_tail | apply find_skip)) (by first  | rfl) | exact keeps_self | exact keeps_left | apply keeps_app | apply keeps_mv | apply keeps_skip)) trivial ?_)
    clear hl hh a w; intro vc Fc a w hR hl hh
    obtain ⟨x1, r1, hr1, rfl, rfl⟩ := hR
    try simp only [List.cons_append, List.nil_append, List.append_assoc, List.append_nil] at hh
    refine wl (wl_val hl rfl ⟨_, _, rfl, rfl, rfl⟩ (r_eql hl rfl rfl) ?_)
    clear hl a; intro a hl
    refine wl (wl_val hl rfl trivial (r_pickT hl rfl rfl) ?_)
    clear hl a; intro a hl
    refine w_nil ?_
    have hl2 := hl.add (t := 1) (hl.add (t := 5) (hl.add (t := 6) (hl.add (t := 7) (hl.add (t := 24) (hl.nil) rfl) rfl) rfl) rfl) rfl; clear hl; have hl := hl2; clear hl2
    refine then_normal ?_
    refine c_cond hl rfl ?_ ?_
    · intro hc0
      try simp only [decide_eq_true_eq, decide_eq_false_iff_not, Bool.not_eq_true', Bool.not_eq_false', Bool.not_eq_true, Bool.not_eq_false, Bool.and_eq_true, Bool.or_eq_true, Bool.and_eq_false_iff, Bool.or_eq_false_iff, Bool.not_not, ne_eq, Int.not_lt, Int.not_le, Decidable.not_not, beq_iff_eq, bne_iff_ne] at hc0
      refine c_seq ?_
      refine c_draw [(k7, C [.string q.p, .slice q.hp q.a.length q.hc, .slice q.bp q.ls.length q.bc] 57)] [] mixed hh ?_
      clear hh w; intro w hh
      have hM : Mem [(k7, C [.string q.p, .slice q.hp q.a.length q.hc, .slice q.bp q.ls.length q.bc] 57)] w := (memK hh (by repeat (first | exact keeps_nil | apply keeps_cons (by repeat (first | exact find_head | apply find_tail | apply find_skip)) (by first  | rfl) | exact keeps_self | exact keeps_left | apply keeps_app | apply keeps_mv | apply keeps_skip)))
      refine d_take (i := 0) hl rfl (by kernel_rfl) (by kernel_rfl) (by kernel_rfl) (by kernel_rfl) (by kernel_rfl) rfl trivial (fun _ _ _ h => h) hM (fun w hC => r_field hl rfl fld57_1) rfl ?_
      clear hl a; intro a hl
      refine d_take (i := 1) hl rfl (by kernel_rfl) (by kernel_rfl) (by kernel_rfl) (by kernel_rfl) (by kernel_rfl) rfl trivial (fun _ _ _ h => h) hM (fun w hC => r_loadC hl rfl one55 hC (by repeat (first | exact find_head | apply find_tail | apply find_skip)) (by first | rfl)) rfl ?_
      clear hl a; intro a hl
      refine d_take (i := 2) hl rfl (by kernel_rfl) (by kernel_rfl) (by kernel_rfl) (by kernel_rfl) (by kernel_rfl) rfl trivial (fun _ _ _ h => h) hM (fun w hC => r_move hl rfl) rfl ?_
      clear hl a; intro a hl
      refine d_take (i := 3) hl rfl (by kernel_rfl) (by kernel_rfl) (by kernel_rfl) (by kernel_rfl) (by kernel_rfl) rfl trivial (fun _ _ _ h => h) hM (fun w hC => r_field hl rfl fld57_1) rfl ?_
      clear hl a; intro a hl
      refine d_take (i := 4) hl rfl (by kernel_rfl) (by kernel_rfl) (by kernel_rfl) (by kernel_rfl) (by kernel_rfl) rfl trivial (fun _ _ _ h => h) hM (fun w hC => r_loadC hl rfl one55 hC (by repeat (first | exact find_head | apply find_tail | apply find_skip)) (by first | rfl)) rfl ?_
      clear hl a; intro a hl
      refine d_take (i := 5) hl rfl (by kernel_rfl) (by kernel_rfl) (by kernel_rfl) (by kernel_rfl) (by kernel_rfl) rfl trivial (fun _ _ _ h => h) hM (fun w hC => r_lenS hl rfl slc55) rfl ?_
      clear hl a; intro a hl
      refine d_one (i := 6) (by kernel_rfl) rfl ?_
      try clear hM
      refine id (w_call hl hh rfl trivial rfl cal17 rfl (roll_spec db x1 q.ls.length (by omega)) (by repeat (first | exact keeps_nil | apply keeps_cons (by repeat (first | exact find_head | apply find_tail | apply find_skip)) (by first  | rfl) | exact keeps_self | exact keeps_left | apply keeps_app | apply keeps_mv | apply keeps_skip)) trivial ?_)
      clear hl hh a w; intro vc Fc a w hR hl hh
      obtain ⟨x2, r2, hr2, rfl, rfl⟩ := hR
      try simp only [List.cons_append, List.nil_append, List.append_assoc, List.append_nil] at hh
      obtain ⟨y, hy⟩ : ∃ y, q.ls[r2]? = some y := ⟨_, List.getElem?_eq_getElem (by omega)⟩
      obtain ⟨b1, j1, hq1, hjl1, hjc1, hE1⟩ := row_pos hq.bd (by omega)
      rw [hq1] at hl
      have hEq : q.E = q.hE ++ ((b1, C (fl LV.c4 q.ls ++ j1) 48) :: q.ls.flatMap LV.E) := by unfold RV.E; rw [hE1]; rfl
      rw [hEq] at hh
      have hyo := hq.ls y (List.mem_of_getElem? hy)
      have hM : Mem [(k7, C [.string q.p, .slice q.hp q.a.length q.hc, .slice q.bp q.ls.length q.bc] 57)] w := (memK hh (by repeat (first | exact keeps_nil | apply keeps_cons (by repeat (first | exact find_head | apply find_tail | apply find_skip)) (by first  | rfl) | exact keeps_self | exact keeps_left | apply keeps_app | apply keeps_mv | apply keeps_skip)))
      refine d_step (fun _ => hM) ?_
      refine d_take (i := 7) hl rfl (by kernel_rfl) (by kernel_rfl) (by kernel_rfl) (by kernel_rfl) (by kernel_rfl) rfl trivial (fun _ _ _ h => h) hM (fun w hC => r_indexS hl rfl rfl slc55 (by omega) (by omega) (by first | (simp only [Int.reduceToNat]; rfl) | exact toNat_add1 _ | exact toNat_add2 _ _ | exact toNat_emod _ _ | exact Int.toNat_natCast _ | rfl)) rfl ?_
      clear hl a; intro a hl
      refine d_take (i := 8) hl rfl (by kernel_rfl) (by kernel_rfl) (by kernel_rfl) (by kernel_rfl) (by kernel_rfl) rfl trivial (fun _ _ _ h => h) hM (fun w hC => r_assign hl rfl) rfl ?_
      clear hl a; intro a hl
      refine d_done (by kernel_rfl) ?_
      try clear hM
      have hl2 := hl.add (t := 6) (hl.add (t := 7) (hl.add (t := 8) (hl.nil) rfl) rfl) rfl; clear hl; have hl := hl2; clear hl2
      refine then_normal ?_
      refine c_seq ?_
      refine c_seq ?_
      refine c_region ?_
      refine wl (wl_val hl rfl trivial (r_move hl rfl) ?_)
      clear hl a; intro a hl
      refine wl (wl_val hl rfl trivial (r_nilCheck hl rfl) ?_)
      clear hl a; intro a hl
      refine wl (wl_val hl rfl trivial (r_field hl rfl fld48_0) ?_)
      clear hl a; intro a hl
      refine wl (w_load hl hh rfl trivial one44 rfl (by repeat (first | exact find_head | apply find_tail | apply find_skip)) (by exact fl_cell c4_len hy rfl j1) ?_)
      clear hl a; intro a hl
      refine w_nil ?_
      have hl2 := hl.add (t := 6) (hl.add (t := 7) (hl.add (t := 8) (hl.add (t := 36) (hl.nil) rfl) rfl) rfl) rfl; clear hl; have hl := hl2; clear hl2
      refine then_normal ?_
      refine wp_block ?_
      refine c_seq ?_
      refine c_region ?_
      refine wl (wl_val hl rfl trivial (r_eql hl rfl rfl) ?_)
      clear hl a; intro a hl
      refine wl (wl_val hl rfl trivial (r_assign hl rfl) ?_)
      clear hl a; intro a hl
      refine w_nil ?_
      have hl2 := hl.add (t := 6) (hl.add (t := 7) (hl.add (t := 8) (hl.add (t := 36) (hl.add (t := 37) (hl.nil) rfl) rfl) rfl) rfl) rfl; clear hl; have hl := hl2; clear hl2
      refine then_normal ?_
      refine c_cond hl rfl ?_ ?_
      · intro hc1
        try simp only [decide_eq_true_eq, decide_eq_false_iff_not, Bool.not_eq_true', Bool.not_eq_false', Bool.not_eq_true, Bool.not_eq_false, Bool.and_eq_true, Bool.or_eq_true, Bool.and_eq_false_iff, Bool.or_eq_false_iff, Bool.not_not, ne_eq, Int.not_lt, Int.not_le, Decidable.not_not, beq_iff_eq, bne_iff_ne] at hc1
        refine c_region ?_
        refine wl (wl_val hl rfl trivial (r_move hl rfl) ?_)
        clear hl a; intro a hl
        refine wl (wl_val hl rfl trivial (r_move hl rfl) ?_)
        clear hl a; intro a hl
        refine wl (wl_val hl rfl trivial (r_nilCheck hl rfl) ?_)
        clear hl a; intro a hl
        refine wl (wl_val hl rfl trivial (r_field hl rfl fld48_1) ?_)
        clear hl a; intro a hl
        refine wl (w_load hl hh rfl trivial one43 rfl (by repeat (first | exact find_head | apply find_tail | apply find_skip)) (by exact fl_cell c4_len hy rfl j1) ?_)
        clear hl a; intro a hl
        refine wl (wl_val hl rfl trivial (r_addM wm_u8 hl rfl rfl) ?_)
        clear hl a; intro a hl
        first | refine wl (wl_val hl rfl trivial (r_rem hl rfl rfl (by omega) (by omega)) ?_) | refine wl (wl_val hl rfl trivial (r_remT hl rfl rfl (by omega)) ?_)
        clear hl a; intro a hl
        refine wl (wl_val hl rfl trivial (r_nilCheck hl rfl) ?_)
        clear hl a; intro a hl
        refine wl (wl_val hl rfl trivial (r_field hl rfl fld48_1) ?_)
        clear hl a; intro a hl
        refine wl (w_store hl hh trivial one43 rfl rfl (by repeat (first | exact find_head | apply find_tail | apply find_skip)) (by rw [List.length_append, fl_len c4_len]; omega) (by first | rfl | assumption | (apply Row.one; assumption)) (by exact fl_part (c' := { y with l := { y.l with k := y.l.k, o := (y.l.o + 1) % 256 % 6 } }) c4_len j1 hy (by decide) rfl) ?_)
        clear hh w; intro w hh
        refine w_nil ?_
        have hl2 := hl.add (t := 6) (hl.add (t := 7) (hl.nil) rfl) rfl; clear hl; have hl := hl2; clear hl2
        obtain ⟨r9, hr9, hrc9, hrl9, hrE9⟩ := rv_setL hq hy (k := y.l.k) (o := (y.l.o + 1) % 256 % 6) (by have := hyo.k; omega) (by have := hyo.o; omega) hq1 hE1 hjl1 hjc1
        simp only [List.cons_append, List.nil_append] at hrE9
        replace hh := hh.keep (F' := (db, C [.int .u64 (x2)] 64) :: (k7, C [.string q.p, .slice q.hp q.a.length q.hc, .slice q.bp q.ls.length q.bc] 57) :: (k6, C [.string ⟨#[]⟩, .slice none 0 0, .slice none 0 0] 57) :: (q.hE ++ ((b1, C (fl LV.c4 (q.ls.set r2 { y with l := { y.l with k := y.l.k, o := (y.l.o + 1) % 256 % 6 } }) ++ j1) 48) :: q.ls.flatMap LV.E))) (by repeat (first | exact keeps_nil | apply keeps_cons (by repeat (first | exact find_head | apply find_tail | apply find_skip)) (by first  | rfl) | exact keeps_self | exact keeps_left | apply keeps_app | apply keeps_mv | apply keeps_skip))
        rw [← hrE9] at hh
        refine blk_normal ?_
        refine then_normal ?_
        refine c_seq ?_
        refine c_region ?_
        first | refine wl (w_loadA hl hh rfl trivial agg57 rfl (by repeat (first | exact find_head | apply find_tail | apply find_skip)) (by first | exact hd1 | (simp only [List.getElem?_cons_zero, List.getElem?_cons_succ, Value.cells, List.take_zero, List.take_succ_cons, List.take_nil, List.drop_zero, List.drop_succ_cons, List.drop_nil, List.length_cons, List.length_nil, List.cons_append, List.nil_append, List.append_nil, Nat.zero_add, Nat.add_zero, Nat.reduceAdd, Nat.reduceBEq, Nat.reduceEqDiff, Nat.ble, BEq.rfl, Bool.and_true, Bool.and_self, cond_true, beq_self_eq_true]; rfl)) (by first | rfl | (simp; done)) ?_) | refine wl (wl_val hl rfl trivial (r_loadA hl rfl agg57 (hh.mem _ _ (show (b1, C (fl LV.c4 q.ls ++ j1) 48) ∈ _ by rw [hEq]; simp)) hd1 rfl) ?_)
        clear hl a; intro a hl
        refine wl (w_storeA hl hh trivial agg57 rfl rfl (by repeat (first | exact find_head | apply find_tail | apply find_skip)) (by first | rfl | (simp; done) | exact hd1) (by first | (simp; done) | (simp; omega) | (rw [List.length_append, fl_len tmc_len]; omega)) (by first | rfl | (simp; done)) (by first | exact fl_setZ tmc_len ts2 t j2 i2 hi2 | (simp only [setL, List.getElem?_cons_zero, List.getElem?_cons_succ, Value.cells, List.take_zero, List.take_succ_cons, List.take_nil, List.drop_zero, List.drop_succ_cons, List.drop_nil, List.length_cons, List.length_nil, List.cons_append, List.nil_append, List.append_nil, Nat.zero_add, Nat.add_zero, Nat.reduceAdd, Nat.reduceBEq, Nat.reduceEqDiff, Nat.ble, BEq.rfl, Bool.and_true, Bool.and_self, cond_true, beq_self_eq_true]; rfl) | (simp only [setL, List.getElem?_cons_zero, List.getElem?_cons_succ, Value.cells, List.take_zero, List.take_succ_cons, List.take_nil, List.drop_zero, List.drop_succ_cons, List.drop_nil, List.length_cons, List.length_nil, List.cons_append, List.nil_append, List.append_nil, Nat.zero_add, Nat.add_zero, Nat.reduceAdd, Nat.reduceBEq, Nat.reduceEqDiff, Nat.ble, BEq.rfl, Bool.and_true, Bool.and_self, cond_true, beq_self_eq_true]; rfl)) ?_)
        clear hh w; intro w hh
        refine w_nil ?_
        have hl2 := hl.add (t := 6) (hl.nil) rfl; clear hl; have hl := hl2; clear hl2
        refine then_normal ?_
        refine wp_ret ?_
        refine then_ret ?_
        have hv9 : ([.string q.p, .slice q.hp q.a.length q.hc, .slice q.bp q.ls.length q.bc] : List Value) = [.string r9.p, .slice r9.hp r9.a.length r9.hc, .slice r9.bp r9.ls.length r9.bc] := hrc9.symm
        refine f_retC (F' := (db, C [.int .u64 (x2)] 64) :: r9.E) hl hh rfl rfl agg57 (by repeat (first | exact find_head | apply find_tail | apply find_skip)) rfl (by repeat (first | exact keeps_nil | apply keeps_cons (by repeat (first | exact find_head | apply find_tail | apply find_skip)) (by first  | rfl) | exact keeps_self | exact keeps_left | apply keeps_app | apply keeps_mv | apply keeps_skip)) ?_
        exact ⟨x2, r9, hr9, congrArg (fun z : List Value => Value.agg ⟨z⟩) hv9, rfl⟩
      · intro hc1
        try simp only [decide_eq_true_eq, decide_eq_false_iff_not, Bool.not_eq_true', Bool.not_eq_false', Bool.not_eq_true, Bool.not_eq_false, Bool.and_eq_true, Bool.or_eq_true, Bool.and_eq_false_iff, Bool.or_eq_false_iff, Bool.not_not, ne_eq, Int.not_lt, Int.not_le, Decidable.not_not, beq_iff_eq, bne_iff_ne] at hc1
        refine c_seq ?_
        refine c_region ?_
        refine wl (wl_val hl rfl trivial (r_eql hl rfl rfl) ?_)
        clear hl a; intro a hl
        refine wl (wl_val hl rfl trivial (r_assign hl rfl) ?_)
        clear hl a; intro a hl
        refine w_nil ?_
        have hl2 := hl.add (t := 6) (hl.add (t := 7) (hl.add (t := 8) (hl.add (t := 36) (hl.add (t := 48) (hl.nil) rfl) rfl) rfl) rfl) rfl; clear hl; have hl := hl2; clear hl2
        refine then_normal ?_
        refine c_cond hl rfl ?_ ?_
        · intro hc2
          try simp only [decide_eq_true_eq, decide_eq_false_iff_not, Bool.not_eq_true', Bool.not_eq_false', Bool.not_eq_true, Bool.not_eq_false, Bool.and_eq_true, Bool.or_eq_true, Bool.and_eq_false_iff, Bool.or_eq_false_iff, Bool.not_not, ne_eq, Int.not_lt, Int.not_le, Decidable.not_not, beq_iff_eq, bne_iff_ne] at hc2
          refine c_region ?_
          refine wl (wl_val hl rfl trivial (r_move hl rfl) ?_)
          clear hl a; intro a hl
          refine wl (wl_val hl rfl trivial (r_nilCheck hl rfl) ?_)
          clear hl a; intro a hl
          refine wl (wl_val hl rfl trivial (r_field hl rfl fld48_0) ?_)
          clear hl a; intro a hl
          refine wl (w_store hl hh trivial one44 rfl rfl (by repeat (first | exact find_head | apply find_tail | apply find_skip)) (by rw [List.length_append, fl_len c4_len]; omega) (by first | rfl | assumption | (apply Row.one; assumption)) (by first | exact fl_part (c' := { y with l := { y.l with k := 2, o := y.l.o } }) c4_len j1 hy (by decide) rfl | exact fl_part (c' := { y with l := { y.l with k := 0, o := y.l.o } }) c4_len j1 hy (by decide) rfl) ?_)
          clear hh w; intro w hh
          refine w_nil ?_
          have hl2 := hl.add (t := 6) (hl.add (t := 7) (hl.nil) rfl) rfl; clear hl; have hl := hl2; clear hl2
          obtain ⟨r9, hr9, hrc9, hrl9, hrE9⟩ := rv_setL hq hy (k := 2) (o := y.l.o) (by have := hyo.k; omega) (by have := hyo.o; omega) hq1 hE1 hjl1 hjc1
          simp only [List.cons_append, List.nil_append] at hrE9
          replace hh := hh.keep (F' := (db, C [.int .u64 (x2)] 64) :: (k7, C [.string q.p, .slice q.hp q.a.length q.hc, .slice q.bp q.ls.length q.bc] 57) :: (k6, C [.string ⟨#[]⟩, .slice none 0 0, .slice none 0 0] 57) :: (q.hE ++ ((b1, C (fl LV.c4 (q.ls.set r2 { y with l := { y.l with k := 2, o := y.l.o } }) ++ j1) 48) :: q.ls.flatMap LV.E))) (by repeat (first | exact keeps_nil | apply keeps_cons (by repeat (first | exact find_head | apply find_tail | apply find_skip)) (by first  | rfl) | exact keeps_self | exact keeps_left | apply keeps_app | apply keeps_mv | apply keeps_skip))
          rw [← hrE9] at hh
          refine blk_normal ?_
          refine then_normal ?_
          refine c_seq ?_
          refine c_region ?_
          first | refine wl (w_loadA hl hh rfl trivial agg57 rfl (by repeat (first | exact find_head | apply find_tail | apply find_skip)) (by first | exact hd1 | (simp only [List.getElem?_cons_zero, List.getElem?_cons_succ, Value.cells, List.take_zero, List.take_succ_cons, List.take_nil, List.drop_zero, List.drop_succ_cons, List.drop_nil, List.length_cons, List.length_nil, List.cons_append, List.nil_append, List.append_nil, Nat.zero_add, Nat.add_zero, Nat.reduceAdd, Nat.reduceBEq, Nat.reduceEqDiff, Nat.ble, BEq.rfl, Bool.and_true, Bool.and_self, cond_true, beq_self_eq_true]; rfl)) (by first | rfl | (simp; done)) ?_) | refine wl (wl_val hl rfl trivial (r_loadA hl rfl agg57 (hh.mem _ _ (show (b1, C (fl LV.c4 q.ls ++ j1) 48) ∈ _ by rw [hEq]; simp)) hd1 rfl) ?_)
          clear hl a; intro a hl
          refine wl (w_storeA hl hh trivial agg57 rfl rfl (by repeat (first | exact find_head | apply find_tail | apply find_skip)) (by first | rfl | (simp; done) | exact hd1) (by first | (simp; done) | (simp; omega) | (rw [List.length_append, fl_len tmc_len]; omega)) (by first | rfl | (simp; done)) (by first | exact fl_setZ tmc_len ts2 t j2 i2 hi2 | (simp only [setL, List.getElem?_cons_zero, List.getElem?_cons_succ, Value.cells, List.take_zero, List.take_succ_cons, List.take_nil, List.drop_zero, List.drop_succ_cons, List.drop_nil, List.length_cons, List.length_nil, List.cons_append, List.nil_append, List.append_nil, Nat.zero_add, Nat.add_zero, Nat.reduceAdd, Nat.reduceBEq, Nat.reduceEqDiff, Nat.ble, BEq.rfl, Bool.and_true, Bool.and_self, cond_true, beq_self_eq_true]; rfl) | (simp only [setL, List.getElem?_cons_zero, List.getElem?_cons_succ, Value.cells, List.take_zero, List.take_succ_cons, List.take_nil, List.drop_zero, List.drop_succ_cons, List.drop_nil, List.length_cons, List.length_nil, List.cons_append, List.nil_append, List.append_nil, Nat.zero_add, Nat.add_zero, Nat.reduceAdd, Nat.reduceBEq, Nat.reduceEqDiff, Nat.ble, BEq.rfl, Bool.and_true, Bool.and_self, cond_true, beq_self_eq_true]; rfl)) ?_)
          clear hh w; intro w hh
          refine w_nil ?_
          have hl2 := hl.add (t := 6) (hl.nil) rfl; clear hl; have hl := hl2; clear hl2
          refine then_normal ?_
          refine wp_ret ?_
          refine then_ret ?_
          have hv9 : ([.string q.p, .slice q.hp q.a.length q.hc, .slice q.bp q.ls.length q.bc] : List Value) = [.string r9.p, .slice r9.hp r9.a.length r9.hc, .slice r9.bp r9.ls.length r9.bc] := hrc9.symm
          refine f_retC (F' := (db, C [.int .u64 (x2)] 64) :: r9.E) hl hh rfl rfl agg57 (by repeat (first | exact find_head | apply find_tail | apply find_skip)) rfl (by repeat (first | exact keeps_nil | apply keeps_cons (by repeat (first | exact find_head | apply find_tail | apply find_skip)) (by first  | rfl) | exact keeps_self | exact keeps_left | apply keeps_app | apply keeps_mv | apply keeps_skip)) ?_
          exact ⟨x2, r9, hr9, congrArg (fun z : List Value => Value.agg ⟨z⟩) hv9, rfl⟩
        · intro hc2
          try simp only [decide_eq_true_eq, decide_eq_false_iff_not, Bool.not_eq_true', Bool.not_eq_false', Bool.not_eq_true, Bool.not_eq_false, Bool.and_eq_true, Bool.or_eq_true, Bool.and_eq_false_iff, Bool.or_eq_false_iff, Bool.not_not, ne_eq, Int.not_lt, Int.not_le, Decidable.not_not, beq_iff_eq, bne_iff_ne] at hc2
          refine c_seq ?_
          refine c_region ?_
          refine wl (wl_val hl rfl trivial (r_eql hl rfl rfl) ?_)
          clear hl a; intro a hl
          refine wl (wl_val hl rfl trivial (r_assign hl rfl) ?_)
          clear hl a; intro a hl
          refine w_nil ?_
          have hl2 := hl.add (t := 6) (hl.add (t := 7) (hl.add (t := 8) (hl.add (t := 53) (hl.nil) rfl) rfl) rfl) rfl; clear hl; have hl := hl2; clear hl2
          refine then_normal ?_
          refine c_cond hl rfl ?_ ?_
          · intro hc3
            try simp only [decide_eq_true_eq, decide_eq_false_iff_not, Bool.not_eq_true', Bool.not_eq_false', Bool.not_eq_true, Bool.not_eq_false, Bool.and_eq_true, Bool.or_eq_true, Bool.and_eq_false_iff, Bool.or_eq_false_iff, Bool.not_not, ne_eq, Int.not_lt, Int.not_le, Decidable.not_not, beq_iff_eq, bne_iff_ne] at hc3
            refine c_region ?_
            refine wl (wl_val hl rfl trivial (r_move hl rfl) ?_)
            clear hl a; intro a hl
            refine wl (wl_val hl rfl trivial (r_nilCheck hl rfl) ?_)
            clear hl a; intro a hl
            refine wl (wl_val hl rfl trivial (r_field hl rfl fld48_0) ?_)
            clear hl a; intro a hl
            refine wl (w_store hl hh trivial one44 rfl rfl (by repeat (first | exact find_head | apply find_tail | apply find_skip)) (by rw [List.length_append, fl_len c4_len]; omega) (by first | rfl | assumption | (apply Row.one; assumption)) (by first | exact fl_part (c' := { y with l := { y.l with k := 2, o := y.l.o } }) c4_len j1 hy (by decide) rfl | exact fl_part (c' := { y with l := { y.l with k := 0, o := y.l.o } }) c4_len j1 hy (by decide) rfl) ?_)
            clear hh w; intro w hh
            refine w_nil ?_
            have hl2 := hl.add (t := 6) (hl.add (t := 7) (hl.nil) rfl) rfl; clear hl; have hl := hl2; clear hl2
            obtain ⟨r9, hr9, hrc9, hrl9, hrE9⟩ := rv_setL hq hy (k := 0) (o := y.l.o) (by have := hyo.k; omega) (by have := hyo.o; omega) hq1 hE1 hjl1 hjc1
            simp only [List.cons_append, List.nil_append] at hrE9
            replace hh := hh.keep (F' := (db, C [.int .u64 (x2)] 64) :: (k7, C [.string q.p, .slice q.hp q.a.length q.hc, .slice q.bp q.ls.length q.bc] 57) :: (k6, C [.string ⟨#[]⟩, .slice none 0 0, .slice none 0 0] 57) :: (q.hE ++ ((b1, C (fl LV.c4 (q.ls.set r2 { y with l := { y.l with k := 0, o := y.l.o } }) ++ j1) 48) :: q.ls.flatMap LV.E))) (by repeat (first | exact keeps_nil | apply keeps_cons (by repeat (first | exact find_head | apply find_tail | apply find_skip)) (by first  | rfl) | exact keeps_self | exact keeps_left | apply keeps_app | apply keeps_mv | apply keeps_skip))
            rw [← hrE9] at hh
            refine blk_normal ?_
            refine then_normal ?_
            refine c_seq ?_
            refine c_region ?_
            first | refine wl (w_loadA hl hh rfl trivial agg57 rfl (by repeat (first | exact find_head | apply find_tail | apply find_skip)) (by first | exact hd1 | (simp only [List.getElem?_cons_zero, List.getElem?_cons_succ, Value.cells, List.take_zero, List.take_succ_cons, List.take_nil, List.drop_zero, List.drop_succ_cons, List.drop_nil, List.length_cons, List.length_nil, List.cons_append, List.nil_append, List.append_nil, Nat.zero_add, Nat.add_zero, Nat.reduceAdd, Nat.reduceBEq, Nat.reduceEqDiff, Nat.ble, BEq.rfl, Bool.and_true, Bool.and_self, cond_true, beq_self_eq_true]; rfl)) (by first | rfl | (simp; done)) ?_) | refine wl (wl_val hl rfl trivial (r_loadA hl rfl agg57 (hh.mem _ _ (show (b1, C (fl LV.c4 q.ls ++ j1) 48) ∈ _ by rw [hEq]; simp)) hd1 rfl) ?_)
            clear hl a; intro a hl
            refine wl (w_storeA hl hh trivial agg57 rfl rfl (by repeat (first | exact find_head | apply find_tail | apply find_skip)) (by first | rfl | (simp; done) | exact hd1) (by first | (simp; done) | (simp; omega) | (rw [List.length_append, fl_len tmc_len]; omega)) (by first | rfl | (simp; done)) (by first | exact fl_setZ tmc_len ts2 t j2 i2 hi2 | (simp only [setL, List.getElem?_cons_zero, List.getElem?_cons_succ, Value.cells, List.take_zero, List.take_succ_cons, List.take_nil, List.drop_zero, List.drop_succ_cons, List.drop_nil, List.length_cons, List.length_nil, List.cons_append, List.nil_append, List.append_nil, Nat.zero_add, Nat.add_zero, Nat.reduceAdd, Nat.reduceBEq, Nat.reduceEqDiff, Nat.ble, BEq.rfl, Bool.and_true, Bool.and_self, cond_true, beq_self_eq_true]; rfl) | (simp only [setL, List.getElem?_cons_zero, List.getElem?_cons_succ, Value.cells, List.take_zero, List.take_succ_cons, List.take_nil, List.drop_zero, List.drop_succ_cons, List.drop_nil, List.length_cons, List.length_nil, List.cons_append, List.nil_append, List.append_nil, Nat.zero_add, Nat.add_zero, Nat.reduceAdd, Nat.reduceBEq, Nat.reduceEqDiff, Nat.ble, BEq.rfl, Bool.and_true, Bool.and_self, cond_true, beq_self_eq_true]; rfl)) ?_)
            clear hh w; intro w hh
            refine w_nil ?_
            have hl2 := hl.add (t := 6) (hl.nil) rfl; clear hl; have hl := hl2; clear hl2
            refine then_normal ?_
            refine wp_ret ?_
            refine then_ret ?_
            have hv9 : ([.string q.p, .slice q.hp q.a.length q.hc, .slice q.bp q.ls.length q.bc] : List Value) = [.string r9.p, .slice r9.hp r9.a.length r9.hc, .slice r9.bp r9.ls.length r9.bc] := hrc9.symm
            refine f_retC (F' := (db, C [.int .u64 (x2)] 64) :: r9.E) hl hh rfl rfl agg57 (by repeat (first | exact find_head | apply find_tail | apply find_skip)) rfl (by repeat (first | exact keeps_nil | apply keeps_cons (by repeat (first | exact find_head | apply find_tail | apply find_skip)) (by first  | rfl) | exact keeps_self | exact keeps_left | apply keeps_app | apply keeps_mv | apply keeps_skip)) ?_
            exact ⟨x2, r9, hr9, congrArg (fun z : List Value => Value.agg ⟨z⟩) hv9, rfl⟩
          · intro hc3
            try simp only [decide_eq_true_eq, decide_eq_false_iff_not, Bool.not_eq_true', Bool.not_eq_false', Bool.not_eq_true, Bool.not_eq_false, Bool.and_eq_true, Bool.or_eq_true, Bool.and_eq_false_iff, Bool.or_eq_false_iff, Bool.not_not, ne_eq, Int.not_lt, Int.not_le, Decidable.not_not, beq_iff_eq, bne_iff_ne] at hc3
            obtain ⟨r9, hr9, hrc9, hrE9⟩ : ∃ r9 : RV, r9.ok ∧ r9.c3 = q.c3 ∧ r9.E = q.hE ++ ((b1, C (fl LV.c4 q.ls ++ j1) 48) :: q.ls.flatMap LV.E) := ⟨q, hq, rfl, hEq⟩
            rw [← hrE9] at hh
            refine wp_skip ?_
            refine blk_normal ?_
            refine then_normal ?_
            refine c_seq ?_
            refine c_region ?_
            first | refine wl (w_loadA hl hh rfl trivial agg57 rfl (by repeat (first | exact find_head | apply find_tail | apply find_skip)) (by first | exact hd1 | (simp only [List.getElem?_cons_zero, List.getElem?_cons_succ, Value.cells, List.take_zero, List.take_succ_cons, List.take_nil, List.drop_zero, List.drop_succ_cons, List.drop_nil, List.length_cons, List.length_nil, List.cons_append, List.nil_append, List.append_nil, Nat.zero_add, Nat.add_zero, Nat.reduceAdd, Nat.reduceBEq, Nat.reduceEqDiff, Nat.ble, BEq.rfl, Bool.and_true, Bool.and_self, cond_true, beq_self_eq_true]; rfl)) (by first | rfl | (simp; done)) ?_) | refine wl (wl_val hl rfl trivial (r_loadA hl rfl agg57 (hh.mem _ _ (show (b1, C (fl LV.c4 q.ls ++ j1) 48) ∈ _ by rw [hEq]; simp)) hd1 rfl) ?_)
            clear hl a; intro a hl
            refine wl (w_storeA hl hh trivial agg57 rfl rfl (by repeat (first | exact find_head | apply find_tail | apply find_skip)) (by first | rfl | (simp; done) | exact hd1) (by first | (simp; done) | (simp; omega) | (rw [List.length_append, fl_len tmc_len]; omega)) (by first | rfl | (simp; done)) (by first | exact fl_setZ tmc_len ts2 t j2 i2 hi2 | (simp only [setL, List.getElem?_cons_zero, List.getElem?_cons_succ, Value.cells, List.take_zero, List.take_succ_cons, List.take_nil, List.drop_zero, List.drop_succ_cons, List.drop_nil, List.length_cons, List.length_nil, List.cons_append, List.nil_append, List.append_nil, Nat.zero_add, Nat.add_zero, Nat.reduceAdd, Nat.reduceBEq, Nat.reduceEqDiff, Nat.ble, BEq.rfl, Bool.and_true, Bool.and_self, cond_true, beq_self_eq_true]; rfl) | (simp only [setL, List.getElem?_cons_zero, List.getElem?_cons_succ, Value.cells, List.take_zero, List.take_succ_cons, List.take_nil, List.drop_zero, List.drop_succ_cons, List.drop_nil, List.length_cons, List.length_nil, List.cons_append, List.nil_append, List.append_nil, Nat.zero_add, Nat.add_zero, Nat.reduceAdd, Nat.reduceBEq, Nat.reduceEqDiff, Nat.ble, BEq.rfl, Bool.and_true, Bool.and_self, cond_true, beq_self_eq_true]; rfl)) ?_)
            clear hh w; intro w hh
            refine w_nil ?_
            have hl2 := hl.add (t := 6) (hl.nil) rfl; clear hl; have hl := hl2; clear hl2
            refine then_normal ?_
            refine wp_ret ?_
            refine then_ret ?_
            have hv9 : ([.string q.p, .slice q.hp q.a.length q.hc, .slice q.bp q.ls.length q.bc] : List Value) = [.string r9.p, .slice r9.hp r9.a.length r9.hc, .slice r9.bp r9.ls.length r9.bc] := hrc9.symm
            refine f_retC (F' := (db, C [.int .u64 (x2)] 64) :: r9.E) hl hh rfl rfl agg57 (by repeat (first | exact find_head | apply find_tail | apply find_skip)) rfl (by repeat (first | exact keeps_nil | apply keeps_cons (by repeat (first | exact find_head | apply find_tail | apply find_skip)) (by first  | rfl) | exact keeps_self | exact keeps_left | apply keeps_app | apply keeps_mv | apply keeps_skip)) ?_
            exact ⟨x2, r9, hr9, congrArg (fun z : List Value => Value.agg ⟨z⟩) hv9, rfl⟩
    · intro hc0
      try simp only [decide_eq_true_eq, decide_eq_false_iff_not, Bool.not_eq_true', Bool.not_eq_false', Bool.not_eq_true, Bool.not_eq_false, Bool.and_eq_true, Bool.or_eq_true, Bool.and_eq_false_iff, Bool.or_eq_false_iff, Bool.not_not, ne_eq, Int.not_lt, Int.not_le, Decidable.not_not, beq_iff_eq, bne_iff_ne] at hc0
      first
      | (obtain ⟨x9, hx9⟩ : ∃ z, z = x1 := ⟨_, rfl⟩; rw [← hx9] at hh)
      | (obtain ⟨x9, hx9⟩ : ∃ z, z = x := ⟨_, rfl⟩; rw [← hx9] at hh)
      refine wp_skip ?_
      refine then_normal ?_
      refine c_seq ?_
      refine c_region ?_
      refine wl (w_buildSlice0 hl hh rfl trivial app108 ?_)
      clear hl hh a w; intro k59 a w hl hh
      refine wl (wl_val hl rfl trivial (r_assign hl rfl) ?_)
      clear hl a; intro a hl
      refine w_nil ?_
      have hl2 := hl.add (t := 1) (hl.add (t := 5) (hl.add (t := 6) (hl.add (t := 7) (hl.add (t := 9) (hl.nil) rfl) rfl) rfl) rfl) rfl; clear hl; have hl := hl2; clear hl2
      refine then_normal ?_
      refine c_seq ?_
      refine c_seq ?_
      refine c_region ?_
      refine wl (wl_val hl rfl trivial (r_field hl rfl fld57_0) ?_)
      clear hl a; intro a hl
      refine wl (wl_val hl rfl trivial (r_field hl rfl fld46_1) ?_)
      clear hl a; intro a hl
      refine wl (w_load hl hh rfl trivial one42 rfl (by repeat (first | exact find_head | apply find_tail | apply find_skip)) (by first | rfl) ?_)
      clear hl a; intro a hl
      refine wl (wl_val hl rfl trivial (r_lenS hl rfl slc42) ?_)
      clear hl a; intro a hl
      refine wl (wl_val hl rfl trivial (r_move hl rfl) ?_)
      clear hl a; intro a hl
      refine w_nil ?_
      have hl2 := hl.add (t := 1) (hl.add (t := 5) (hl.add (t := 6) (hl.add (t := 7) (hl.add (t := 9) (hl.add (t := 63) (hl.add (t := 64) (hl.nil) rfl) rfl) rfl) rfl) rfl) rfl) rfl; clear hl; have hl := hl2; clear hl2
      refine then_normal ?_
      refine wp_block ?_
      obtain ⟨KS0, hKS0, hk⟩ := (hl.add (t := 1) (hl.add (t := 5) (hl.add (t := 6) (hl.add (t := 7) (hl.add (t := 63) (hl.nil) rfl) rfl) rfl) rfl) rfl).name
      obtain ⟨HS0, hHS0, hh2⟩ := hh.nameT (A := []) (U := [(k59, C [] 109)]) ((keeps_cons (by repeat (first | exact find_head | apply find_tail | apply find_skip)) rfl keeps_nil))
      refine c_loop (α := PL) (fun s => q.a.length - s.i) (fun s a w => ((s.i ≤ q.a.length ∧ s.l.length = s.i) ∧ (Row s.v s.l.length (fl ptc s.l) 1 109 s.E ∧ ∀ z, z ∈ s.l → Slot q z)) ∧ Sl 113 ([(64, .int .i64 (s.i : Int)), (9, s.v)] ++ KS0) a ∧ Has _ w0 ([] ++ (HS0 ++ s.E)) w) ⟨0, [], .slice (some ⟨k59, 0, none⟩) 0 0, [(k59, C [] 109)]⟩ ⟨⟨⟨Nat.zero_le _, rfl⟩, .inr ⟨k59, 0, [], rfl, rfl, rfl, Nat.le_refl _, rfl⟩, fun z hz => (by cases hz)⟩, hl.addE (t := 64) (hl.addE (t := 9) (hk) rfl (by first | rfl)) rfl (by first | rfl), hh2⟩ ?_
      clear hk hh2 hl hh a w
      intro s a w hI
      obtain ⟨⟨⟨hi, hsi⟩, hrow, hsl⟩, hl, hh⟩ := hI
      subst hKS0; subst hHS0
      simp only [List.cons_append, List.nil_append, List.append_nil, List.append_assoc] at hl hh
      refine c_seq ?_
      refine c_region ?_
      refine wl (wl_val hl rfl trivial (r_lss hl rfl rfl) ?_)
      clear hl a; intro a hl
      refine w_nil ?_
      have hl2 := hl.add (t := 1) (hl.add (t := 5) (hl.add (t := 6) (hl.add (t := 7) (hl.add (t := 9) (hl.add (t := 63) (hl.add (t := 64) (hl.add (t := 65) (hl.nil) rfl) rfl) rfl) rfl) rfl) rfl) rfl) rfl; clear hl; have hl := hl2; clear hl2
      refine then_normal ?_
      refine c_seq ?_
      refine c_cond hl rfl ?_ ?_
      · intro hc4
        try simp only [decide_eq_true_eq, decide_eq_false_iff_not, Bool.not_eq_true', Bool.not_eq_false', Bool.not_eq_true, Bool.not_eq_false, Bool.and_eq_true, Bool.or_eq_true, Bool.and_eq_false_iff, Bool.or_eq_false_iff, Bool.not_not, ne_eq, Int.not_lt, Int.not_le, Decidable.not_not, beq_iff_eq, bne_iff_ne] at hc4
        obtain ⟨hb9, hqh, hslh⟩ := slot_head hq (i := s.i) (by omega)
        refine wp_skip ?_
        refine then_normal ?_
        refine c_seq ?_
        refine wp_block ?_
        refine c_seq ?_
        refine c_region ?_
        refine wl (wl_val hl rfl trivial (r_move hl rfl) ?_)
        clear hl a; intro a hl
        refine wl (wl_val hl rfl trivial (r_assign hl rfl) ?_)
        clear hl a; intro a hl
        refine w_nil ?_
        have hl2 := hl.add (t := 1) (hl.add (t := 5) (hl.add (t := 6) (hl.add (t := 7) (hl.add (t := 9) (hl.add (t := 10) (hl.add (t := 63) (hl.add (t := 64) (hl.nil) rfl) rfl) rfl) rfl) rfl) rfl) rfl) rfl; clear hl; have hl := hl2; clear hl2
        refine then_normal ?_
        refine c_region ?_
        refine wl (wl_val hl rfl trivial (r_move hl rfl) ?_)
        clear hl a; intro a hl
        refine wl (wl_val hl rfl trivial (r_field hl rfl fld57_0) ?_)
        clear hl a; intro a hl
        refine wl (wl_val hl rfl trivial (r_field hl rfl fld46_1) ?_)
        clear hl a; intro a hl
        refine wl (w_load hl hh rfl trivial one42 rfl (by repeat (first | exact find_head | apply find_tail | apply find_skip)) (by first | rfl) ?_)
        clear hl a; intro a hl
        rw [hqh] at hl
        refine wl (wl_val hl rfl trivial (r_move hl rfl) ?_)
        clear hl a; intro a hl
        refine wl (wl_val hl rfl trivial (r_indexS hl rfl rfl slc42 (by omega) (by omega) (by first | (simp only [Int.reduceToNat]; rfl) | exact toNat_add1 _ | exact toNat_add2 _ _ | exact toNat_emod _ _ | exact Int.toNat_natCast _ | rfl)) ?_)
        clear hl a; intro a hl
        refine wl (w_buildSlice hl hh rfl trivial app108 zero109 rfl rfl rfl rfl rfl (by simp only [fillL, arrPl, List.range_succ, List.range_zero, List.map_cons, List.map_nil, List.map_append, List.nil_append, List.replicate_succ, List.replicate_zero, List.flatten_cons, List.flatten_nil, Nat.zero_mul, Nat.mul_one, Nat.one_mul, Nat.reduceMul, setL, List.getElem?_cons_zero, List.getElem?_cons_succ, Value.cells, List.take_zero, List.take_succ_cons, List.take_nil, List.drop_zero, List.drop_succ_cons, List.drop_nil, List.length_cons, List.length_nil, List.cons_append, List.nil_append, List.append_nil, Nat.zero_add, Nat.add_zero, Nat.reduceAdd, Nat.reduceBEq, Nat.reduceEqDiff, Nat.ble, BEq.rfl, Bool.and_true, Bool.and_self, cond_true, beq_self_eq_true]; rfl) ?_)
        clear hl hh a w; intro k73 a w hl hh
        refine wl (w_append (news := (ptc ⟨hb9, s.i * 4, none⟩)) hl hh rfl trivial app108 rfl rfl rfl hrow (by repeat (first | exact keeps_nil | apply keeps_cons (by repeat (first | exact find_head | apply find_tail | apply find_skip)) (by first  | rfl) | exact keeps_self | exact keeps_left | apply keeps_app | apply keeps_mv | apply keeps_skip)) (hh.mem _ _ (Find.mem (by repeat (first | exact find_head | apply find_tail | apply find_skip)))) rfl rfl rfl (by omega) (by omega) (by omega) (by decide) ?_)
        clear hl hh a w; intro rv2 E2 a w hR2 hl hh
        have hh3 := hh.comm; clear hh; have hh := hh3; clear hh3
        try simp only [List.cons_append, List.nil_append, List.append_assoc, List.append_nil] at hh
        refine wl (wl_val hl rfl trivial (r_assign hl rfl) ?_)
        clear hl a; intro a hl
        refine w_nil ?_
        have hl2 := hl.add (t := 1) (hl.add (t := 5) (hl.add (t := 6) (hl.add (t := 7) (hl.add (t := 9) (hl.add (t := 63) (hl.add (t := 64) (hl.nil) rfl) rfl) rfl) rfl) rfl) rfl) rfl; clear hl; have hl := hl2; clear hl2
        refine blk_normal ?_
        refine then_normal ?_
        refine c_region ?_
        first | refine wl (wl_val hl rfl trivial (r_add hl rfl rfl (by simp only [Fits]; omega)) ?_) | refine wl (wl_val hl rfl trivial (r_addW hl rfl rfl) ?_)
        clear hl a; intro a hl
        refine wl (wl_val hl rfl trivial (r_move hl rfl) ?_)
        clear hl a; intro a hl
        refine w_nil ?_
        have hl2 := hl.add (t := 1) (hl.add (t := 5) (hl.add (t := 6) (hl.add (t := 7) (hl.add (t := 9) (hl.add (t := 63) (hl.add (t := 64) (hl.nil) rfl) rfl) rfl) rfl) rfl) rfl) rfl; clear hl; have hl := hl2; clear hl2
        refine then_normal ?_
        refine ⟨⟨s.i + 1, s.l ++ [⟨hb9, s.i * 4, none⟩], rv2, E2⟩, (by simp only; omega), ⟨⟨by simp only; omega, by simp [hsi]⟩, by simp only [List.length_append, List.length_singleton]; rw [fl_app, fl_sing]; exact hR2, fun z hz => by
              rcases List.mem_append.1 hz with h9 | h9
              · exact hsl z h9
              · rw [List.mem_singleton] at h9; rw [h9]; exact hslh⟩, hl.addE (t := 64) (hl.addE (t := 9) (hl.addE (t := 1) (hl.addE (t := 5) (hl.addE (t := 6) (hl.addE (t := 7) (hl.addE (t := 63) (hl.nil) rfl (by first | rfl | exact congrArg (Value.int .i64) (show (s.i : Int) + 1 = ((s.i + 1 : Nat) : Int) by omega))) rfl (by first | rfl | exact congrArg (Value.int .i64) (show (s.i : Int) + 1 = ((s.i + 1 : Nat) : Int) by omega))) rfl (by first | rfl | exact congrArg (Value.int .i64) (show (s.i : Int) + 1 = ((s.i + 1 : Nat) : Int) by omega))) rfl (by first | rfl | exact congrArg (Value.int .i64) (show (s.i : Int) + 1 = ((s.i + 1 : Nat) : Int) by omega))) rfl (by first | rfl | exact congrArg (Value.int .i64) (show (s.i : Int) + 1 = ((s.i + 1 : Nat) : Int) by omega))) rfl (by first | rfl | exact congrArg (Value.int .i64) (show (s.i : Int) + 1 = ((s.i + 1 : Nat) : Int) by omega))) rfl (by first | rfl | exact congrArg (Value.int .i64) (show (s.i : Int) + 1 = ((s.i + 1 : Nat) : Int) by omega)), hh.keep (by repeat (first | exact keeps_nil | apply keeps_cons (by repeat (first | exact find_head | apply find_tail | apply find_skip)) (by first  | rfl) | exact keeps_self | exact keeps_left | apply keeps_app | apply keeps_mv | apply keeps_skip))⟩
      · intro hc4
        try simp only [decide_eq_true_eq, decide_eq_false_iff_not, Bool.not_eq_true', Bool.not_eq_false', Bool.not_eq_true, Bool.not_eq_false, Bool.and_eq_true, Bool.or_eq_true, Bool.and_eq_false_iff, Bool.or_eq_false_iff, Bool.not_not, ne_eq, Int.not_lt, Int.not_le, Decidable.not_not, beq_iff_eq, bne_iff_ne] at hc4
        refine wp_exit ?_
        refine then_exit ?_
        refine then_exit ?_
        refine blk_exit ?_
        refine then_normal ?_
        refine c_seq ?_
        refine c_seq ?_
        refine c_region ?_
        refine wl (wl_val hl rfl trivial (r_field hl rfl fld57_1) ?_)
        clear hl a; intro a hl
        refine wl (w_load hl hh rfl trivial one55 rfl (by repeat (first | exact find_head | apply find_tail | apply find_skip)) (by first | rfl) ?_)
        clear hl a; intro a hl
        refine wl (wl_val hl rfl trivial (r_lenS hl rfl slc55) ?_)
        clear hl a; intro a hl
        refine wl (wl_val hl rfl trivial (r_move hl rfl) ?_)
        clear hl a; intro a hl
        refine w_nil ?_
        have hl2 := hl.add (t := 1) (hl.add (t := 5) (hl.add (t := 6) (hl.add (t := 7) (hl.add (t := 9) (hl.add (t := 77) (hl.add (t := 78) (hl.add (t := 79) (hl.nil) rfl) rfl) rfl) rfl) rfl) rfl) rfl) rfl; clear hl; have hl := hl2; clear hl2
        refine then_normal ?_
        refine wp_block ?_
        obtain ⟨KS1, hKS1, hk⟩ := (hl.add (t := 1) (hl.add (t := 5) (hl.add (t := 6) (hl.add (t := 7) (hl.add (t := 77) (hl.add (t := 78) (hl.nil) rfl) rfl) rfl) rfl) rfl) rfl).name
        obtain ⟨HS1, hHS1, hh2⟩ := hh.nameT (A := []) (U := s.E) ((by repeat (first | exact keeps_nil | exact keeps_self | exact keeps_left | apply keeps_app | apply keeps_mv | apply keeps_skip)))
        refine c_loop (α := PL) (fun g => q.ls.length - g.i) (fun g a w => ((g.i ≤ q.ls.length ∧ g.l.length ≤ 65536 + g.i * 65536) ∧ (Row g.v g.l.length (fl ptc g.l) 1 109 g.E ∧ ∀ z, z ∈ g.l → Slot q z)) ∧ Sl 113 ([(79, .int .i64 (g.i : Int)), (9, g.v)] ++ KS1) a ∧ Has _ w0 ([] ++ (HS1 ++ g.E)) w) ⟨0, s.l, s.v, s.E⟩ ⟨⟨⟨Nat.zero_le _, by simp only; omega⟩, hrow, hsl⟩, hl.addE (t := 79) (hl.addE (t := 9) (hk) rfl (by first | rfl)) rfl (by first | rfl), hh2⟩ ?_
        clear hk hh2 hl hh a w
        intro g a w hI
        obtain ⟨⟨⟨hgi, hgl⟩, hrowg, hslg⟩, hl, hh⟩ := hI
        subst hKS1; subst hHS1
        simp only [List.cons_append, List.nil_append, List.append_nil, List.append_assoc] at hl hh
        refine c_seq ?_
        refine c_region ?_
        refine wl (wl_val hl rfl trivial (r_lss hl rfl rfl) ?_)
        clear hl a; intro a hl
        refine w_nil ?_
        have hl2 := hl.add (t := 1) (hl.add (t := 5) (hl.add (t := 6) (hl.add (t := 7) (hl.add (t := 9) (hl.add (t := 77) (hl.add (t := 78) (hl.add (t := 79) (hl.add (t := 80) (hl.nil) rfl) rfl) rfl) rfl) rfl) rfl) rfl) rfl) rfl; clear hl; have hl := hl2; clear hl2
        refine then_normal ?_
        refine c_seq ?_
        refine c_cond hl rfl ?_ ?_
        · intro hc5
          try simp only [decide_eq_true_eq, decide_eq_false_iff_not, Bool.not_eq_true', Bool.not_eq_false', Bool.not_eq_true, Bool.not_eq_false, Bool.and_eq_true, Bool.or_eq_true, Bool.and_eq_false_iff, Bool.or_eq_false_iff, Bool.not_not, ne_eq, Int.not_lt, Int.not_le, Decidable.not_not, beq_iff_eq, bne_iff_ne] at hc5
          obtain ⟨y, hy⟩ : ∃ y, q.ls[g.i]? = some y := ⟨_, List.getElem?_eq_getElem (by omega)⟩
          have hyo := hq.ls y (List.mem_of_getElem? hy)
          have hya := hyo.ags.len
          obtain ⟨b1, j1, hq1, hjl1, hjc1, hE1⟩ := row_pos hq.bd (by omega)
          rw [hq1] at hl
          have hEq : q.E = q.hE ++ ((b1, C (fl LV.c4 q.ls ++ j1) 48) :: q.ls.flatMap LV.E) := by unfold RV.E; rw [hE1]; rfl
          have hd1 := fl_at c4_len hy j1
          simp only [LV.c4] at hd1
          refine wp_skip ?_
          refine then_normal ?_
          refine c_seq ?_
          refine wp_block ?_
          refine c_seq ?_
          refine c_region ?_
          refine wl (wl_val hl rfl trivial (r_indexS hl rfl rfl slc55 (by omega) (by omega) (by first | (simp only [Int.reduceToNat]; rfl) | exact toNat_add1 _ | exact toNat_add2 _ _ | exact toNat_emod _ _ | exact Int.toNat_natCast _ | rfl)) ?_)
          clear hl a; intro a hl
          first | refine wl (w_loadA hl hh rfl trivial agg48 rfl (by repeat (first | exact find_head | apply find_tail | apply find_skip)) (by first | exact hd1 | (simp only [List.getElem?_cons_zero, List.getElem?_cons_succ, Value.cells, List.take_zero, List.take_succ_cons, List.take_nil, List.drop_zero, List.drop_succ_cons, List.drop_nil, List.length_cons, List.length_nil, List.cons_append, List.nil_append, List.append_nil, Nat.zero_add, Nat.add_zero, Nat.reduceAdd, Nat.reduceBEq, Nat.reduceEqDiff, Nat.ble, BEq.rfl, Bool.and_true, Bool.and_self, cond_true, beq_self_eq_true]; rfl)) (by first | rfl | (simp; done)) ?_) | refine wl (wl_val hl rfl trivial (r_loadA hl rfl agg48 (hh.mem _ _ (show (b1, C (fl LV.c4 q.ls ++ j1) 48) ∈ _ by rw [hEq]; simp)) hd1 rfl) ?_)
          clear hl a; intro a hl
          refine wl (w_alloc hl hh rfl trivial zero48 rfl ?_)
          clear hl hh a w; intro k12 a w hl hh
          refine wl (w_storeA hl hh trivial agg48 rfl rfl (by repeat (first | exact find_head | apply find_tail | apply find_skip)) (by first | rfl | (simp; done) | exact hd1) (by first | (simp; done) | (simp; omega) | (rw [List.length_append, fl_len tmc_len]; omega)) (by first | rfl | (simp; done)) (by first | exact fl_setZ tmc_len ts2 t j2 i2 hi2 | (simp only [setL, List.getElem?_cons_zero, List.getElem?_cons_succ, Value.cells, List.take_zero, List.take_succ_cons, List.take_nil, List.drop_zero, List.drop_succ_cons, List.drop_nil, List.length_cons, List.length_nil, List.cons_append, List.nil_append, List.append_nil, Nat.zero_add, Nat.add_zero, Nat.reduceAdd, Nat.reduceBEq, Nat.reduceEqDiff, Nat.ble, BEq.rfl, Bool.and_true, Bool.and_self, cond_true, beq_self_eq_true]; rfl) | (simp only [setL, List.getElem?_cons_zero, List.getElem?_cons_succ, Value.cells, List.take_zero, List.take_succ_cons, List.take_nil, List.drop_zero, List.drop_succ_cons, List.drop_nil, List.length_cons, List.length_nil, List.cons_append, List.nil_append, List.append_nil, Nat.zero_add, Nat.add_zero, Nat.reduceAdd, Nat.reduceBEq, Nat.reduceEqDiff, Nat.ble, BEq.rfl, Bool.and_true, Bool.and_self, cond_true, beq_self_eq_true]; rfl)) ?_)
          clear hh w; intro w hh
          refine w_nil ?_
          have hl2 := hl.add (t := 1) (hl.add (t := 5) (hl.add (t := 6) (hl.add (t := 7) (hl.add (t := 9) (hl.add (t := 12) (hl.add (t := 77) (hl.add (t := 78) (hl.add (t := 79) (hl.nil) rfl) rfl) rfl) rfl) rfl) rfl) rfl) rfl) rfl; clear hl; have hl := hl2; clear hl2
          refine then_normal ?_
          refine c_seq ?_
          refine c_region ?_
          refine wl (wl_val hl rfl trivial (r_field hl rfl fld48_2) ?_)
          clear hl a; intro a hl
          refine wl (wl_val hl rfl trivial (r_field hl rfl fld46_1) ?_)
          clear hl a; intro a hl
          refine wl (w_load hl hh rfl trivial one42 rfl (by repeat (first | exact find_head | apply find_tail | apply find_skip)) (by first | rfl) ?_)
          clear hl a; intro a hl
          refine wl (wl_val hl rfl trivial (r_lenS hl rfl slc42) ?_)
          clear hl a; intro a hl
          refine wl (wl_val hl rfl trivial (r_move hl rfl) ?_)
          clear hl a; intro a hl
          refine w_nil ?_
          have hl2 := hl.add (t := 1) (hl.add (t := 5) (hl.add (t := 6) (hl.add (t := 7) (hl.add (t := 9) (hl.add (t := 12) (hl.add (t := 77) (hl.add (t := 78) (hl.add (t := 79) (hl.add (t := 86) (hl.add (t := 87) (hl.nil) rfl) rfl) rfl) rfl) rfl) rfl) rfl) rfl) rfl) rfl) rfl; clear hl; have hl := hl2; clear hl2
          refine then_normal ?_
          refine wp_block ?_
          obtain ⟨KS2, hKS2, hk⟩ := (hl.add (t := 1) (hl.add (t := 5) (hl.add (t := 6) (hl.add (t := 7) (hl.add (t := 12) (hl.add (t := 77) (hl.add (t := 78) (hl.add (t := 79) (hl.add (t := 86) (hl.nil) rfl) rfl) rfl) rfl) rfl) rfl) rfl) rfl) rfl).name
          obtain ⟨HS2, hHS2, hh2⟩ := hh.nameT (A := []) (U := g.E) ((by repeat (first | exact keeps_nil | exact keeps_self | exact keeps_left | apply keeps_app | apply keeps_mv | apply keeps_skip)))
          refine c_loop (α := PL) (fun u => y.l.a.length - u.i) (fun u a w => ((u.i ≤ y.l.a.length ∧ u.l.length ≤ g.l.length + u.i) ∧ (Row u.v u.l.length (fl ptc u.l) 1 109 u.E ∧ ∀ z, z ∈ u.l → Slot q z)) ∧ Sl 113 ([(87, .int .i64 (u.i : Int)), (9, u.v)] ++ KS2) a ∧ Has _ w0 ([] ++ (HS2 ++ u.E)) w) ⟨0, g.l, g.v, g.E⟩ ⟨⟨⟨Nat.zero_le _, by simp only; omega⟩, hrowg, hslg⟩, hl.addE (t := 87) (hl.addE (t := 9) (hk) rfl (by first | rfl)) rfl (by first | rfl), hh2⟩ ?_
          clear hk hh2 hl hh a w
          intro u a w hI
          obtain ⟨⟨⟨hui, hul⟩, hrowu, hslu⟩, hl, hh⟩ := hI
          subst hKS2; subst hHS2
          simp only [List.cons_append, List.nil_append, List.append_nil, List.append_assoc] at hl hh
          refine c_seq ?_
          refine c_region ?_
          refine wl (wl_val hl rfl trivial (r_lss hl rfl rfl) ?_)
          clear hl a; intro a hl
          refine w_nil ?_
          have hl2 := hl.add (t := 1) (hl.add (t := 5) (hl.add (t := 6) (hl.add (t := 7) (hl.add (t := 9) (hl.add (t := 12) (hl.add (t := 77) (hl.add (t := 78) (hl.add (t := 79) (hl.add (t := 86) (hl.add (t := 87) (hl.add (t := 88) (hl.nil) rfl) rfl) rfl) rfl) rfl) rfl) rfl) rfl) rfl) rfl) rfl) rfl; clear hl; have hl := hl2; clear hl2
          refine then_normal ?_
          refine c_seq ?_
          refine c_cond hl rfl ?_ ?_
          · intro hc6
            try simp only [decide_eq_true_eq, decide_eq_false_iff_not, Bool.not_eq_true', Bool.not_eq_false', Bool.not_eq_true, Bool.not_eq_false, Bool.and_eq_true, Bool.or_eq_true, Bool.and_eq_false_iff, Bool.or_eq_false_iff, Bool.not_not, ne_eq, Int.not_lt, Int.not_le, Decidable.not_not, beq_iff_eq, bne_iff_ne] at hc6
            obtain ⟨hb9, hqh, hslh⟩ := slot_lit hq hy (i := u.i) (by omega)
            refine wp_skip ?_
            refine then_normal ?_
            refine c_seq ?_
            refine wp_block ?_
            refine c_seq ?_
            refine c_region ?_
            refine wl (wl_val hl rfl trivial (r_move hl rfl) ?_)
            clear hl a; intro a hl
            refine wl (wl_val hl rfl trivial (r_assign hl rfl) ?_)
            clear hl a; intro a hl
            refine w_nil ?_
            have hl2 := hl.add (t := 1) (hl.add (t := 5) (hl.add (t := 6) (hl.add (t := 7) (hl.add (t := 9) (hl.add (t := 12) (hl.add (t := 13) (hl.add (t := 77) (hl.add (t := 78) (hl.add (t := 79) (hl.add (t := 86) (hl.add (t := 87) (hl.nil) rfl) rfl) rfl) rfl) rfl) rfl) rfl) rfl) rfl) rfl) rfl) rfl; clear hl; have hl := hl2; clear hl2
            refine then_normal ?_
            refine c_region ?_
            refine wl (wl_val hl rfl trivial (r_move hl rfl) ?_)
            clear hl a; intro a hl
            refine wl (wl_val hl rfl trivial (r_field hl rfl fld48_2) ?_)
            clear hl a; intro a hl
            refine wl (wl_val hl rfl trivial (r_field hl rfl fld46_1) ?_)
            clear hl a; intro a hl
            refine wl (w_load hl hh rfl trivial one42 rfl (by repeat (first | exact find_head | apply find_tail | apply find_skip)) (by first | rfl) ?_)
            clear hl a; intro a hl
            rw [hqh] at hl
            refine wl (wl_val hl rfl trivial (r_move hl rfl) ?_)
            clear hl a; intro a hl
            refine wl (wl_val hl rfl trivial (r_indexS hl rfl rfl slc42 (by omega) (by omega) (by first | (simp only [Int.reduceToNat]; rfl) | exact toNat_add1 _ | exact toNat_add2 _ _ | exact toNat_emod _ _ | exact Int.toNat_natCast _ | rfl)) ?_)
            clear hl a; intro a hl
            refine wl (w_buildSlice hl hh rfl trivial app108 zero109 rfl rfl rfl rfl rfl (by simp only [fillL, arrPl, List.range_succ, List.range_zero, List.map_cons, List.map_nil, List.map_append, List.nil_append, List.replicate_succ, List.replicate_zero, List.flatten_cons, List.flatten_nil, Nat.zero_mul, Nat.mul_one, Nat.one_mul, Nat.reduceMul, setL, List.getElem?_cons_zero, List.getElem?_cons_succ, Value.cells, List.take_zero, List.take_succ_cons, List.take_nil, List.drop_zero, List.drop_succ_cons, List.drop_nil, List.length_cons, List.length_nil, List.cons_append, List.nil_append, List.append_nil, Nat.zero_add, Nat.add_zero, Nat.reduceAdd, Nat.reduceBEq, Nat.reduceEqDiff, Nat.ble, BEq.rfl, Bool.and_true, Bool.and_self, cond_true, beq_self_eq_true]; rfl) ?_)
            clear hl hh a w; intro k96 a w hl hh
            refine wl (w_append (news := (ptc ⟨hb9, u.i * 4, none⟩)) hl hh rfl trivial app108 rfl rfl rfl hrowu (by repeat (first | exact keeps_nil | apply keeps_cons (by repeat (first | exact find_head | apply find_tail | apply find_skip)) (by first  | rfl) | exact keeps_self | exact keeps_left | apply keeps_app | apply keeps_mv | apply keeps_skip)) (hh.mem _ _ (Find.mem (by repeat (first | exact find_head | apply find_tail | apply find_skip)))) rfl rfl rfl (by omega) (by omega) (by omega) (by decide) ?_)
            clear hl hh a w; intro rv2 E2 a w hR2 hl hh
            have hh3 := hh.comm; clear hh; have hh := hh3; clear hh3
            try simp only [List.cons_append, List.nil_append, List.append_assoc, List.append_nil] at hh
            refine wl (wl_val hl rfl trivial (r_assign hl rfl) ?_)
            clear hl a; intro a hl
            refine w_nil ?_
            have hl2 := hl.add (t := 1) (hl.add (t := 5) (hl.add (t := 6) (hl.add (t := 7) (hl.add (t := 9) (hl.add (t := 12) (hl.add (t := 77) (hl.add (t := 78) (hl.add (t := 79) (hl.add (t := 86) (hl.add (t := 87) (hl.nil) rfl) rfl) rfl) rfl) rfl) rfl) rfl) rfl) rfl) rfl) rfl; clear hl; have hl := hl2; clear hl2
            refine blk_normal ?_
            refine then_normal ?_
            refine c_region ?_
            first | refine wl (wl_val hl rfl trivial (r_add hl rfl rfl (by simp only [Fits]; omega)) ?_) | refine wl (wl_val hl rfl trivial (r_addW hl rfl rfl) ?_)
            clear hl a; intro a hl
            refine wl (wl_val hl rfl trivial (r_move hl rfl) ?_)
            clear hl a; intro a hl
            refine w_nil ?_
            have hl2 := hl.add (t := 1) (hl.add (t := 5) (hl.add (t := 6) (hl.add (t := 7) (hl.add (t := 9) (hl.add (t := 12) (hl.add (t := 77) (hl.add (t := 78) (hl.add (t := 79) (hl.add (t := 86) (hl.add (t := 87) (hl.nil) rfl) rfl) rfl) rfl) rfl) rfl) rfl) rfl) rfl) rfl) rfl; clear hl; have hl := hl2; clear hl2
            refine then_normal ?_
            refine ⟨⟨u.i + 1, u.l ++ [⟨hb9, u.i * 4, none⟩], rv2, E2⟩, (by simp only; omega), ⟨⟨by simp only; omega, by simp only [List.length_append, List.length_singleton]; omega⟩, by simp only [List.length_append, List.length_singleton]; rw [fl_app, fl_sing]; exact hR2, fun z hz => by
                  rcases List.mem_append.1 hz with h9 | h9
                  · exact hslu z h9
                  · rw [List.mem_singleton] at h9; rw [h9]; exact hslh⟩, hl.addE (t := 87) (hl.addE (t := 9) (hl.addE (t := 1) (hl.addE (t := 5) (hl.addE (t := 6) (hl.addE (t := 7) (hl.addE (t := 12) (hl.addE (t := 77) (hl.addE (t := 78) (hl.addE (t := 79) (hl.addE (t := 86) (hl.nil) rfl (by first | rfl | exact congrArg (Value.int .i64) (show (u.i : Int) + 1 = ((u.i + 1 : Nat) : Int) by omega))) rfl (by first | rfl | exact congrArg (Value.int .i64) (show (u.i : Int) + 1 = ((u.i + 1 : Nat) : Int) by omega))) rfl (by first | rfl | exact congrArg (Value.int .i64) (show (u.i : Int) + 1 = ((u.i + 1 : Nat) : Int) by omega))) rfl (by first | rfl | exact congrArg (Value.int .i64) (show (u.i : Int) + 1 = ((u.i + 1 : Nat) : Int) by omega))) rfl (by first | rfl | exact congrArg (Value.int .i64) (show (u.i : Int) + 1 = ((u.i + 1 : Nat) : Int) by omega))) rfl (by first | rfl | exact congrArg (Value.int .i64) (show (u.i : Int) + 1 = ((u.i + 1 : Nat) : Int) by omega))) rfl (by first | rfl | exact congrArg (Value.int .i64) (show (u.i : Int) + 1 = ((u.i + 1 : Nat) : Int) by omega))) rfl (by first | rfl | exact congrArg (Value.int .i64) (show (u.i : Int) + 1 = ((u.i + 1 : Nat) : Int) by omega))) rfl (by first | rfl | exact congrArg (Value.int .i64) (show (u.i : Int) + 1 = ((u.i + 1 : Nat) : Int) by omega))) rfl (by first | rfl | exact congrArg (Value.int .i64) (show (u.i : Int) + 1 = ((u.i + 1 : Nat) : Int) by omega))) rfl (by first | rfl | exact congrArg (Value.int .i64) (show (u.i : Int) + 1 = ((u.i + 1 : Nat) : Int) by omega)), hh.keep (by repeat (first | exact keeps_nil | apply keeps_cons (by repeat (first | exact find_head | apply find_tail | apply find_skip)) (by first  | rfl) | exact keeps_self | exact keeps_left | apply keeps_app | apply keeps_mv | apply keeps_skip))⟩
          · intro hc6
            try simp only [decide_eq_true_eq, decide_eq_false_iff_not, Bool.not_eq_true', Bool.not_eq_false', Bool.not_eq_true, Bool.not_eq_false, Bool.and_eq_true, Bool.or_eq_true, Bool.and_eq_false_iff, Bool.or_eq_false_iff, Bool.not_not, ne_eq, Int.not_lt, Int.not_le, Decidable.not_not, beq_iff_eq, bne_iff_ne] at hc6
            refine wp_exit ?_
            refine then_exit ?_
            refine then_exit ?_
            refine blk_exit ?_
            refine blk_normal ?_
            refine then_normal ?_
            refine c_region ?_
            first | refine wl (wl_val hl rfl trivial (r_add hl rfl rfl (by simp only [Fits]; omega)) ?_) | refine wl (wl_val hl rfl trivial (r_addW hl rfl rfl) ?_)
            clear hl a; intro a hl
            refine wl (wl_val hl rfl trivial (r_move hl rfl) ?_)
            clear hl a; intro a hl
            refine w_nil ?_
            have hl2 := hl.add (t := 1) (hl.add (t := 5) (hl.add (t := 6) (hl.add (t := 7) (hl.add (t := 9) (hl.add (t := 77) (hl.add (t := 78) (hl.add (t := 79) (hl.nil) rfl) rfl) rfl) rfl) rfl) rfl) rfl) rfl; clear hl; have hl := hl2; clear hl2
            refine then_normal ?_
            refine ⟨⟨g.i + 1, u.l, u.v, u.E⟩, (by simp only; omega), ⟨⟨by simp only; omega, by simp only; omega⟩, hrowu, hslu⟩, hl.addE (t := 79) (hl.addE (t := 9) (hl.addE (t := 1) (hl.addE (t := 5) (hl.addE (t := 6) (hl.addE (t := 7) (hl.addE (t := 77) (hl.addE (t := 78) (hl.nil) rfl (by first | rfl | exact congrArg (Value.int .i64) (show (g.i : Int) + 1 = ((g.i + 1 : Nat) : Int) by omega) | (rw [hq1]))) rfl (by first | rfl | exact congrArg (Value.int .i64) (show (g.i : Int) + 1 = ((g.i + 1 : Nat) : Int) by omega) | (rw [hq1]))) rfl (by first | rfl | exact congrArg (Value.int .i64) (show (g.i : Int) + 1 = ((g.i + 1 : Nat) : Int) by omega) | (rw [hq1]))) rfl (by first | rfl | exact congrArg (Value.int .i64) (show (g.i : Int) + 1 = ((g.i + 1 : Nat) : Int) by omega) | (rw [hq1]))) rfl (by first | rfl | exact congrArg (Value.int .i64) (show (g.i : Int) + 1 = ((g.i + 1 : Nat) : Int) by omega) | (rw [hq1]))) rfl (by first | rfl | exact congrArg (Value.int .i64) (show (g.i : Int) + 1 = ((g.i + 1 : Nat) : Int) by omega) | (rw [hq1]))) rfl (by first | rfl | exact congrArg (Value.int .i64) (show (g.i : Int) + 1 = ((g.i + 1 : Nat) : Int) by omega) | (rw [hq1]))) rfl (by first | rfl | exact congrArg (Value.int .i64) (show (g.i : Int) + 1 = ((g.i + 1 : Nat) : Int) by omega) | (rw [hq1])), hh.keep (by repeat (first | exact keeps_nil | apply keeps_cons (by repeat (first | exact find_head | apply find_tail | apply find_skip)) (by first  | rfl) | exact keeps_self | exact keeps_left | apply keeps_app | apply keeps_mv | apply keeps_skip))⟩
        · intro hc5
          try simp only [decide_eq_true_eq, decide_eq_false_iff_not, Bool.not_eq_true', Bool.not_eq_false', Bool.not_eq_true, Bool.not_eq_false, Bool.and_eq_true, Bool.or_eq_true, Bool.and_eq_false_iff, Bool.or_eq_false_iff, Bool.not_not, ne_eq, Int.not_lt, Int.not_le, Decidable.not_not, beq_iff_eq, bne_iff_ne] at hc5
          obtain ⟨gp9, gc9, hgv9⟩ := row_val hrowg
          rw [hgv9] at hl hrowg
          refine wp_exit ?_
          refine then_exit ?_
          refine then_exit ?_
          refine blk_exit ?_
          refine then_normal ?_
          refine c_seq ?_
          refine c_seq ?_
          refine c_region ?_
          refine wl (wl_val hl rfl trivial (r_move hl rfl) ?_)
          clear hl a; intro a hl
          refine wl (wl_val hl rfl trivial (r_lenS hl rfl slc108) ?_)
          clear hl a; intro a hl
          refine wl (wl_val hl rfl trivial (r_gtr hl rfl rfl) ?_)
          clear hl a; intro a hl
          refine w_nil ?_
          have hl2 := hl.add (t := 1) (hl.add (t := 5) (hl.add (t := 6) (hl.add (t := 7) (hl.add (t := 9) (hl.add (t := 102) (hl.nil) rfl) rfl) rfl) rfl) rfl) rfl; clear hl; have hl := hl2; clear hl2
          refine then_normal ?_
          refine c_cond hl rfl ?_ ?_
          · intro hc7
            try simp only [decide_eq_true_eq, decide_eq_false_iff_not, Bool.not_eq_true', Bool.not_eq_false', Bool.not_eq_true, Bool.not_eq_false, Bool.and_eq_true, Bool.or_eq_true, Bool.and_eq_false_iff, Bool.or_eq_false_iff, Bool.not_not, ne_eq, Int.not_lt, Int.not_le, Decidable.not_not, beq_iff_eq, bne_iff_ne] at hc7
            obtain ⟨bp9, jp9, hqp9, hjlp, hjcp, hEp⟩ := row_pos hrowg (by omega)
            rw [hqp9] at hl
            rw [hEp] at hh
            refine c_draw [(k5, C [.int .u8 t.k, .int .i64 t.v, .int .i64 t.i, .string t.s] 54), (bp9, C (fl ptc g.l ++ jp9) 109)] [8, 9] mixed hh ?_
            clear hh w; intro w hh
            have hM : Mem [(k5, C [.int .u8 t.k, .int .i64 t.v, .int .i64 t.i, .string t.s] 54), (bp9, C (fl ptc g.l ++ jp9) 109)] w := (memK hh (by repeat (first | exact keeps_nil | apply keeps_cons (by repeat (first | exact find_head | apply find_tail | apply find_skip)) (by first  | rfl) | exact keeps_self | exact keeps_left | apply keeps_app | apply keeps_mv | apply keeps_skip)))
            refine d_take (i := 0) hl rfl (by kernel_rfl) (by kernel_rfl) (by kernel_rfl) (by kernel_rfl) (by kernel_rfl) rfl trivial (fun _ _ _ h => h) hM (fun w hC => r_move hl rfl) rfl ?_
            clear hl a; intro a hl
            refine d_take (i := 1) hl rfl (by kernel_rfl) (by kernel_rfl) (by kernel_rfl) (by kernel_rfl) (by kernel_rfl) rfl trivial (fun _ _ _ h => h) hM (fun w hC => r_move hl rfl) rfl ?_
            clear hl a; intro a hl
            refine d_take (i := 2) hl rfl (by kernel_rfl) (by kernel_rfl) (by kernel_rfl) (by kernel_rfl) (by kernel_rfl) rfl trivial (fun _ _ _ h => h) hM (fun w hC => r_move hl rfl) rfl ?_
            clear hl a; intro a hl
            refine d_take (i := 3) hl rfl (by kernel_rfl) (by kernel_rfl) (by kernel_rfl) (by kernel_rfl) (by kernel_rfl) rfl trivial (fun _ _ _ h => h) hM (fun w hC => r_lenS hl rfl slc108) rfl ?_
            clear hl a; intro a hl
            refine d_take (i := 7) hl rfl (by kernel_rfl) (by kernel_rfl) (by kernel_rfl) (by kernel_rfl) (by kernel_rfl) rfl trivial (fun _ _ _ h => h) hM (fun w hC => r_loadCA hl rfl agg54 hC (by repeat (first | exact find_head | apply find_tail | apply find_skip)) (by first | exact hd1 | (simp only [List.getElem?_cons_zero, List.getElem?_cons_succ, Value.cells, List.take_zero, List.take_succ_cons, List.take_nil, List.drop_zero, List.drop_succ_cons, List.drop_nil, List.length_cons, List.length_nil, List.cons_append, List.nil_append, List.append_nil, Nat.zero_add, Nat.add_zero, Nat.reduceAdd, Nat.reduceBEq, Nat.reduceEqDiff, Nat.ble, BEq.rfl, Bool.and_true, Bool.and_self, cond_true, beq_self_eq_true]; rfl)) (by first | rfl | (simp; done))) rfl ?_
            clear hl a; intro a hl
            refine d_one (i := 4) (by kernel_rfl) rfl ?_
            try clear hM
            refine id (w_call hl hh rfl trivial rfl cal17 rfl (roll_spec db x9 g.l.length (by omega)) (by repeat (first | exact keeps_nil | apply keeps_cons (by repeat (first | exact find_head | apply find_tail | apply find_skip)) (by first  | rfl) | exact keeps_self | exact keeps_left | apply keeps_app | apply keeps_mv | apply keeps_skip)) trivial ?_)
            clear hl hh a w; intro vc Fc a w hR hl hh
            obtain ⟨x2, r2, hr2, rfl, rfl⟩ := hR
            try simp only [List.cons_append, List.nil_append, List.append_assoc, List.append_nil] at hh
            obtain ⟨q2, hq2⟩ : ∃ z, g.l[r2]? = some z := ⟨_, List.getElem?_eq_getElem (by omega)⟩
            obtain ⟨E1, E2, b2, i2, ts2, j2, hEq, hi2, hqe, hch⟩ := hslg q2 (List.mem_of_getElem? hq2)
            subst hqe
            have hdp := fl_cell1 (f := ptc) (g := fun z => Value.pointer (some z)) (fun _ => rfl) hq2 jp9
            rw [hEq, List.append_assoc, List.cons_append] at hh
            have hM : Mem [(k5, C [.int .u8 t.k, .int .i64 t.v, .int .i64 t.i, .string t.s] 54), (bp9, C (fl ptc g.l ++ jp9) 109)] w := (memK hh (by repeat (first | exact keeps_nil | apply keeps_cons (by repeat (first | exact find_head | apply find_tail | apply find_skip)) (by first  | rfl) | exact keeps_self | exact keeps_left | apply keeps_app | apply keeps_mv | apply keeps_skip)))
            refine d_step (fun _ => hM) ?_
            refine d_take (i := 5) hl rfl (by kernel_rfl) (by kernel_rfl) (by kernel_rfl) (by kernel_rfl) (by kernel_rfl) rfl trivial (fun _ _ _ h => h) hM (fun w hC => r_indexS hl rfl rfl slc108 (by omega) (by omega) (by first | (simp only [Int.reduceToNat]; rfl) | exact toNat_add1 _ | exact toNat_add2 _ _ | exact toNat_emod _ _ | exact Int.toNat_natCast _ | rfl)) rfl ?_
            clear hl a; intro a hl
            refine d_take (i := 6) hl rfl (by kernel_rfl) (by kernel_rfl) (by kernel_rfl) (by kernel_rfl) (by kernel_rfl) rfl trivial (fun _ _ _ h => h) hM (fun w hC => r_loadC hl rfl one109 hC (by repeat (first | exact find_head | apply find_tail | apply find_skip)) (by exact hdp)) rfl ?_
            clear hl a; intro a hl
            refine d_takeL (i := 8) hl rfl (by kernel_rfl) (by kernel_rfl) (by kernel_rfl) (by kernel_rfl) (by kernel_rfl) rfl trivial (fun _ _ _ h => h) (fun w => r_nilCheck hl rfl) rfl ?_
            clear hl a; intro a hl
            refine d_one (i := 9) (by kernel_rfl) rfl ?_
            try clear hM
            refine id (w_storeA hl hh trivial agg54 rfl rfl (by repeat (first | exact find_head | apply find_tail | apply find_skip)) (by first | rfl | (simp; done) | exact hd1) (by first | (simp; done) | (simp; omega) | (rw [List.length_append, fl_len tmc_len]; omega)) (by first | rfl | (simp; done)) (by first | exact fl_setZ tmc_len ts2 t j2 i2 hi2 | (simp only [setL, List.getElem?_cons_zero, List.getElem?_cons_succ, Value.cells, List.take_zero, List.take_succ_cons, List.take_nil, List.drop_zero, List.drop_succ_cons, List.drop_nil, List.length_cons, List.length_nil, List.cons_append, List.nil_append, List.append_nil, Nat.zero_add, Nat.add_zero, Nat.reduceAdd, Nat.reduceBEq, Nat.reduceEqDiff, Nat.ble, BEq.rfl, Bool.and_true, Bool.and_self, cond_true, beq_self_eq_true]; rfl) | (simp only [setL, List.getElem?_cons_zero, List.getElem?_cons_succ, Value.cells, List.take_zero, List.take_succ_cons, List.take_nil, List.drop_zero, List.drop_succ_cons, List.drop_nil, List.length_cons, List.length_nil, List.cons_append, List.nil_append, List.append_nil, Nat.zero_add, Nat.add_zero, Nat.reduceAdd, Nat.reduceBEq, Nat.reduceEqDiff, Nat.ble, BEq.rfl, Bool.and_true, Bool.and_self, cond_true, beq_self_eq_true]; rfl)) ?_)
            clear hh w; intro w hh
            refine d_step (fun h => absurd h (by decide)) ?_
            refine d_done (by kernel_rfl) ?_
            try clear hM
            have hl2 := hl.add (t := 6) (hl.add (t := 7) (hl.nil) rfl) rfl; clear hl; have hl := hl2; clear hl2
            obtain ⟨r9, hr9, hrc9, hrl9, hrE9⟩ := hch t ht
            replace hh := hh.keep (F' := (db, C [.int .u64 (x2)] 64) :: (k7, C [.string q.p, .slice q.hp q.a.length q.hc, .slice q.bp q.ls.length q.bc] 57) :: (k6, C [.string ⟨#[]⟩, .slice none 0 0, .slice none 0 0] 57) :: (E1 ++ ((b2, C (fl tmc (ts2.set i2 t) ++ j2) 54) :: E2))) (by repeat (first | exact keeps_nil | apply keeps_cons (by repeat (first | exact find_head | apply find_tail | apply find_skip)) (by first  | rfl) | exact keeps_self | exact keeps_left | apply keeps_app | apply keeps_mv | apply keeps_skip))
            rw [← hrE9] at hh
            refine then_normal ?_
            refine c_seq ?_
            refine c_region ?_
            first | refine wl (w_loadA hl hh rfl trivial agg57 rfl (by repeat (first | exact find_head | apply find_tail | apply find_skip)) (by first | exact hd1 | (simp only [List.getElem?_cons_zero, List.getElem?_cons_succ, Value.cells, List.take_zero, List.take_succ_cons, List.take_nil, List.drop_zero, List.drop_succ_cons, List.drop_nil, List.length_cons, List.length_nil, List.cons_append, List.nil_append, List.append_nil, Nat.zero_add, Nat.add_zero, Nat.reduceAdd, Nat.reduceBEq, Nat.reduceEqDiff, Nat.ble, BEq.rfl, Bool.and_true, Bool.and_self, cond_true, beq_self_eq_true]; rfl)) (by first | rfl | (simp; done)) ?_) | refine wl (wl_val hl rfl trivial (r_loadA hl rfl agg57 (hh.mem _ _ (show (b1, C (fl LV.c4 q.ls ++ j1) 48) ∈ _ by rw [hEq]; simp)) hd1 rfl) ?_)
            clear hl a; intro a hl
            refine wl (w_storeA hl hh trivial agg57 rfl rfl (by repeat (first | exact find_head | apply find_tail | apply find_skip)) (by first | rfl | (simp; done) | exact hd1) (by first | (simp; done) | (simp; omega) | (rw [List.length_append, fl_len tmc_len]; omega)) (by first | rfl | (simp; done)) (by first | exact fl_setZ tmc_len ts2 t j2 i2 hi2 | (simp only [setL, List.getElem?_cons_zero, List.getElem?_cons_succ, Value.cells, List.take_zero, List.take_succ_cons, List.take_nil, List.drop_zero, List.drop_succ_cons, List.drop_nil, List.length_cons, List.length_nil, List.cons_append, List.nil_append, List.append_nil, Nat.zero_add, Nat.add_zero, Nat.reduceAdd, Nat.reduceBEq, Nat.reduceEqDiff, Nat.ble, BEq.rfl, Bool.and_true, Bool.and_self, cond_true, beq_self_eq_true]; rfl) | (simp only [setL, List.getElem?_cons_zero, List.getElem?_cons_succ, Value.cells, List.take_zero, List.take_succ_cons, List.take_nil, List.drop_zero, List.drop_succ_cons, List.drop_nil, List.length_cons, List.length_nil, List.cons_append, List.nil_append, List.append_nil, Nat.zero_add, Nat.add_zero, Nat.reduceAdd, Nat.reduceBEq, Nat.reduceEqDiff, Nat.ble, BEq.rfl, Bool.and_true, Bool.and_self, cond_true, beq_self_eq_true]; rfl)) ?_)
            clear hh w; intro w hh
            refine w_nil ?_
            have hl2 := hl.add (t := 6) (hl.nil) rfl; clear hl; have hl := hl2; clear hl2
            refine then_normal ?_
            refine wp_ret ?_
            first
            | (have hv9 : ([.string q.p, .slice q.hp q.a.length q.hc, .slice q.bp q.ls.length q.bc] : List Value) = [.string r9.p, .slice r9.hp r9.a.length r9.hc, .slice r9.bp r9.ls.length r9.bc] := hrc9.symm; refine f_retC (F' := (db, C [.int .u64 (x2)] 64) :: r9.E) hl hh rfl rfl agg57 (by repeat (first | exact find_head | apply find_tail | apply find_skip)) rfl (by repeat (first | exact keeps_nil | apply keeps_cons (by repeat (first | exact find_head | apply find_tail | apply find_skip)) (by first  | rfl) | exact keeps_self | exact keeps_left | apply keeps_app | apply keeps_mv | apply keeps_skip)) ?_; exact ⟨x2, r9, hr9, congrArg (fun z : List Value => Value.agg ⟨z⟩) hv9, rfl⟩)
            | (have hv9 : ([.string q.p, .slice q.hp q.a.length q.hc, .slice q.bp q.ls.length q.bc] : List Value) = [.string r9.p, .slice r9.hp r9.a.length r9.hc, .slice r9.bp r9.ls.length r9.bc] := hrc9.symm; refine f_retC (F' := (db, C [.int .u64 (x9)] 64) :: r9.E) hl hh rfl rfl agg57 (by repeat (first | exact find_head | apply find_tail | apply find_skip)) rfl (by repeat (first | exact keeps_nil | apply keeps_cons (by repeat (first | exact find_head | apply find_tail | apply find_skip)) (by first  | rfl) | exact keeps_self | exact keeps_left | apply keeps_app | apply keeps_mv | apply keeps_skip)) ?_; exact ⟨x9, r9, hr9, congrArg (fun z : List Value => Value.agg ⟨z⟩) hv9, rfl⟩)
          · intro hc7
            try simp only [decide_eq_true_eq, decide_eq_false_iff_not, Bool.not_eq_true', Bool.not_eq_false', Bool.not_eq_true, Bool.not_eq_false, Bool.and_eq_true, Bool.or_eq_true, Bool.and_eq_false_iff, Bool.or_eq_false_iff, Bool.not_not, ne_eq, Int.not_lt, Int.not_le, Decidable.not_not, beq_iff_eq, bne_iff_ne] at hc7
            obtain ⟨r9, hr9, hrc9, hrE9⟩ : ∃ r9 : RV, r9.ok ∧ r9.c3 = q.c3 ∧ r9.E = q.E := ⟨q, hq, rfl, rfl⟩
            rw [← hrE9] at hh
            refine wp_skip ?_
            refine then_normal ?_
            refine c_seq ?_
            refine c_region ?_
            first | refine wl (w_loadA hl hh rfl trivial agg57 rfl (by repeat (first | exact find_head | apply find_tail | apply find_skip)) (by first | exact hd1 | (simp only [List.getElem?_cons_zero, List.getElem?_cons_succ, Value.cells, List.take_zero, List.take_succ_cons, List.take_nil, List.drop_zero, List.drop_succ_cons, List.drop_nil, List.length_cons, List.length_nil, List.cons_append, List.nil_append, List.append_nil, Nat.zero_add, Nat.add_zero, Nat.reduceAdd, Nat.reduceBEq, Nat.reduceEqDiff, Nat.ble, BEq.rfl, Bool.and_true, Bool.and_self, cond_true, beq_self_eq_true]; rfl)) (by first | rfl | (simp; done)) ?_) | refine wl (wl_val hl rfl trivial (r_loadA hl rfl agg57 (hh.mem _ _ (show (b1, C (fl LV.c4 q.ls ++ j1) 48) ∈ _ by rw [hEq]; simp)) hd1 rfl) ?_)
            clear hl a; intro a hl
            refine wl (w_storeA hl hh trivial agg57 rfl rfl (by repeat (first | exact find_head | apply find_tail | apply find_skip)) (by first | rfl | (simp; done) | exact hd1) (by first | (simp; done) | (simp; omega) | (rw [List.length_append, fl_len tmc_len]; omega)) (by first | rfl | (simp; done)) (by first | exact fl_setZ tmc_len ts2 t j2 i2 hi2 | (simp only [setL, List.getElem?_cons_zero, List.getElem?_cons_succ, Value.cells, List.take_zero, List.take_succ_cons, List.take_nil, List.drop_zero, List.drop_succ_cons, List.drop_nil, List.length_cons, List.length_nil, List.cons_append, List.nil_append, List.append_nil, Nat.zero_add, Nat.add_zero, Nat.reduceAdd, Nat.reduceBEq, Nat.reduceEqDiff, Nat.ble, BEq.rfl, Bool.and_true, Bool.and_self, cond_true, beq_self_eq_true]; rfl) | (simp only [setL, List.getElem?_cons_zero, List.getElem?_cons_succ, Value.cells, List.take_zero, List.take_succ_cons, List.take_nil, List.drop_zero, List.drop_succ_cons, List.drop_nil, List.length_cons, List.length_nil, List.cons_append, List.nil_append, List.append_nil, Nat.zero_add, Nat.add_zero, Nat.reduceAdd, Nat.reduceBEq, Nat.reduceEqDiff, Nat.ble, BEq.rfl, Bool.and_true, Bool.and_self, cond_true, beq_self_eq_true]; rfl)) ?_)
            clear hh w; intro w hh
            refine w_nil ?_
            have hl2 := hl.add (t := 6) (hl.nil) rfl; clear hl; have hl := hl2; clear hl2
            refine then_normal ?_
            refine wp_ret ?_
            first
            | (have hv9 : ([.string q.p, .slice q.hp q.a.length q.hc, .slice q.bp q.ls.length q.bc] : List Value) = [.string r9.p, .slice r9.hp r9.a.length r9.hc, .slice r9.bp r9.ls.length r9.bc] := hrc9.symm; refine f_retC (F' := (db, C [.int .u64 (x2)] 64) :: r9.E) hl hh rfl rfl agg57 (by repeat (first | exact find_head | apply find_tail | apply find_skip)) rfl (by repeat (first | exact keeps_nil | apply keeps_cons (by repeat (first | exact find_head | apply find_tail | apply find_skip)) (by first  | rfl) | exact keeps_self | exact keeps_left | apply keeps_app | apply keeps_mv | apply keeps_skip)) ?_; exact ⟨x2, r9, hr9, congrArg (fun z : List Value => Value.agg ⟨z⟩) hv9, rfl⟩)
            | (have hv9 : ([.string q.p, .slice q.hp q.a.length q.hc, .slice q.bp q.ls.length q.bc] : List Value) = [.string r9.p, .slice r9.hp r9.a.length r9.hc, .slice r9.bp r9.ls.length r9.bc] := hrc9.symm; refine f_retC (F' := (db, C [.int .u64 (x9)] 64) :: r9.E) hl hh rfl rfl agg57 (by repeat (first | exact find_head | apply find_tail | apply find_skip)) rfl (by repeat (first | exact keeps_nil | apply keeps_cons (by repeat (first | exact find_head | apply find_tail | apply find_skip)) (by first  | rfl) | exact keeps_self | exact keeps_left | apply keeps_app | apply keeps_mv | apply keeps_skip)) ?_; exact ⟨x9, r9, hr9, congrArg (fun z : List Value => Value.agg ⟨z⟩) hv9, rfl⟩)
  · intro hg1; clear hl; intro hl
    try simp only [decide_eq_true_eq, decide_eq_false_iff_not, Bool.not_eq_true', Bool.not_eq_false', Bool.not_eq_true, Bool.not_eq_false, Bool.and_eq_true, Bool.or_eq_true, Bool.and_eq_false_iff, Bool.or_eq_false_iff, Bool.not_not, ne_eq, Int.not_lt, Int.not_le, Decidable.not_not, beq_iff_eq, bne_iff_ne] at hg1
    refine wl (wl_skip hl rfl ⟨_, _, rfl, rfl, rfl⟩ ?_)
    clear hl a; intro a hl
    refine wl (wl_skip hl rfl ⟨_, _, rfl, rfl, rfl⟩ ?_)
    clear hl a; intro a hl
    refine wl (wl_skip hl rfl ⟨_, _, rfl, rfl, rfl⟩ ?_)
    clear hl a; intro a hl
    refine wl (wl_val hl rfl trivial (r_pickF hl rfl rfl) ?_)
    clear hl a; intro a hl
    refine w_nil ?_
    have hl2 := hl.add (t := 1) (hl.add (t := 5) (hl.add (t := 6) (hl.add (t := 7) (hl.add (t := 24) (hl.nil) rfl) rfl) rfl) rfl) rfl; clear hl; have hl := hl2; clear hl2
    refine then_normal ?_
    refine c_condF hl rfl ?_
    first
    | (obtain ⟨x9, hx9⟩ : ∃ z, z = x1 := ⟨_, rfl⟩; rw [← hx9] at hh)
    | (obtain ⟨x9, hx9⟩ : ∃ z, z = x := ⟨_, rfl⟩; rw [← hx9] at hh)
    refine wp_skip ?_
    refine then_normal ?_
    refine c_seq ?_
    refine c_region ?_
    refine wl (w_buildSlice0 hl hh rfl trivial app108 ?_)
    clear hl hh a w; intro k59 a w hl hh
    refine wl (wl_val hl rfl trivial (r_assign hl rfl) ?_)
    clear hl a; intro a hl
    refine w_nil ?_
    have hl2 := hl.add (t := 1) (hl.add (t := 5) (hl.add (t := 6) (hl.add (t := 7) (hl.add (t := 9) (hl.nil) rfl) rfl) rfl) rfl) rfl; clear hl; have hl := hl2; clear hl2
    refine then_normal ?_
    refine c_seq ?_
    refine c_seq ?_
    refine c_region ?_
    refine wl (wl_val hl rfl trivial (r_field hl rfl fld57_0) ?_)
    clear hl a; intro a hl
    refine wl (wl_val hl rfl trivial (r_field hl rfl fld46_1) ?_)
    clear hl a; intro a hl
    refine wl (w_load hl hh rfl trivial one42 rfl (by repeat (first | exact find_head | apply find_tail | apply find_skip)) (by first | rfl) ?_)
    clear hl a; intro a hl
    refine wl (wl_val hl rfl trivial (r_lenS hl rfl slc42) ?_)
    clear hl a; intro a hl
    refine wl (wl_val hl rfl trivial (r_move hl rfl) ?_)
    clear hl a; intro a hl
    refine w_nil ?_
    have hl2 := hl.add (t := 1) (hl.add (t := 5) (hl.add (t := 6) (hl.add (t := 7) (hl.add (t := 9) (hl.add (t := 63) (hl.add (t := 64) (hl.nil) rfl) rfl) rfl) rfl) rfl) rfl) rfl; clear hl; have hl := hl2; clear hl2
    refine then_normal ?_
    refine wp_block ?_
    obtain ⟨KS0, hKS0, hk⟩ := (hl.add (t := 1) (hl.add (t := 5) (hl.add (t := 6) (hl.add (t := 7) (hl.add (t := 63) (hl.nil) rfl) rfl) rfl) rfl) rfl).name
    obtain ⟨HS0, hHS0, hh2⟩ := hh.nameT (A := []) (U := [(k59, C [] 109)]) ((keeps_cons (by repeat (first | exact find_head | apply find_tail | apply find_skip)) rfl keeps_nil))
    refine c_loop (α := PL) (fun s => q.a.length - s.i) (fun s a w => ((s.i ≤ q.a.length ∧ s.l.length = s.i) ∧ (Row s.v s.l.length (fl ptc s.l) 1 109 s.E ∧ ∀ z, z ∈ s.l → Slot q z)) ∧ Sl 113 ([(64, .int .i64 (s.i : Int)), (9, s.v)] ++ KS0) a ∧ Has _ w0 ([] ++ (HS0 ++ s.E)) w) ⟨0, [], .slice (some ⟨k59, 0, none⟩) 0 0, [(k59, C [] 109)]⟩ ⟨⟨⟨Nat.zero_le _, rfl⟩, .inr ⟨k59, 0, [], rfl, rfl, rfl, Nat.le_refl _, rfl⟩, fun z hz => (by cases hz)⟩, hl.addE (t := 64) (hl.addE (t := 9) (hk) rfl (by first | rfl)) rfl (by first | rfl), hh2⟩ ?_
    clear hk hh2 hl hh a w
    intro s a w hI
    obtain ⟨⟨⟨hi, hsi⟩, hrow, hsl⟩, hl, hh⟩ := hI
    subst hKS0; subst hHS0
    simp only [List.cons_append, List.nil_append, List.append_nil, List.append_assoc] at hl hh
    refine c_seq ?_
    refine c_region ?_
    refine wl (wl_val hl rfl trivial (r_lss hl rfl rfl) ?_)
    clear hl a; intro a hl
    refine w_nil ?_
    have hl2 := hl.add (t := 1) (hl.add (t := 5) (hl.add (t := 6) (hl.add (t := 7) (hl.add (t := 9) (hl.add (t := 63) (hl.add (t := 64) (hl.add (t := 65) (hl.nil) rfl) rfl) rfl) rfl) rfl) rfl) rfl) rfl; clear hl; have hl := hl2; clear hl2
    refine then_normal ?_
    refine c_seq ?_
    refine c_cond hl rfl ?_ ?_
    · intro hc4
      try simp only [decide_eq_true_eq, decide_eq_false_iff_not, Bool.not_eq_true', Bool.not_eq_false', Bool.not_eq_true, Bool.not_eq_false, Bool.and_eq_true, Bool.or_eq_true, Bool.and_eq_false_iff, Bool.or_eq_false_iff, Bool.not_not, ne_eq, Int.not_lt, Int.not_le, Decidable.not_not, beq_iff_eq, bne_iff_ne] at hc4
      obtain ⟨hb9, hqh, hslh⟩ := slot_head hq (i := s.i) (by omega)
      refine wp_skip ?_
      refine then_normal ?_
      refine c_seq ?_
      refine wp_block ?_
      refine c_seq ?_
      refine c_region ?_
      refine wl (wl_val hl rfl trivial (r_move hl rfl) ?_)
      clear hl a; intro a hl
      refine wl (wl_val hl rfl trivial (r_assign hl rfl) ?_)
      clear hl a; intro a hl
      refine w_nil ?_
      have hl2 := hl.add (t := 1) (hl.add (t := 5) (hl.add (t := 6) (hl.add (t := 7) (hl.add (t := 9) (hl.add (t := 10) (hl.add (t := 63) (hl.add (t := 64) (hl.nil) rfl) rfl) rfl) rfl) rfl) rfl) rfl) rfl; clear hl; have hl := hl2; clear hl2
      refine then_normal ?_
      refine c_region ?_
      refine wl (wl_val hl rfl trivial (r_move hl rfl) ?_)
      clear hl a; intro a hl
      refine wl (wl_val hl rfl trivial (r_field hl rfl fld57_0) ?_)
      clear hl a; intro a hl
      refine wl (wl_val hl rfl trivial (r_field hl rfl fld46_1) ?_)
      clear hl a; intro a hl
      refine wl (w_load hl hh rfl trivial one42 rfl (by repeat (first | exact find_head | apply find_tail | apply find_skip)) (by first | rfl) ?_)
      clear hl a; intro a hl
      rw [hqh] at hl
      refine wl (wl_val hl rfl trivial (r_move hl rfl) ?_)
      clear hl a; intro a hl
      refine wl (wl_val hl rfl trivial (r_indexS hl rfl rfl slc42 (by omega) (by omega) (by first | (simp only [Int.reduceToNat]; rfl) | exact toNat_add1 _ | exact toNat_add2 _ _ | exact toNat_emod _ _ | exact Int.toNat_natCast _ | rfl)) ?_)
      clear hl a; intro a hl
      refine wl (w_buildSlice hl hh rfl trivial app108 zero109 rfl rfl rfl rfl rfl (by simp only [fillL, arrPl, List.range_succ, List.range_zero, List.map_cons, List.map_nil, List.map_append, List.nil_append, List.replicate_succ, List.replicate_zero, List.flatten_cons, List.flatten_nil, Nat.zero_mul, Nat.mul_one, Nat.one_mul, Nat.reduceMul, setL, List.getElem?_cons_zero, List.getElem?_cons_succ, Value.cells, List.take_zero, List.take_succ_cons, List.take_nil, List.drop_zero, List.drop_succ_cons, List.drop_nil, List.length_cons, List.length_nil, List.cons_append, List.nil_append, List.append_nil, Nat.zero_add, Nat.add_zero, Nat.reduceAdd, Nat.reduceBEq, Nat.reduceEqDiff, Nat.ble, BEq.rfl, Bool.and_true, Bool.and_self, cond_true, beq_self_eq_true]; rfl) ?_)
      clear hl hh a w; intro k73 a w hl hh
      refine wl (w_append (news := (ptc ⟨hb9, s.i * 4, none⟩)) hl hh rfl trivial app108 rfl rfl rfl hrow (by repeat (first | exact keeps_nil | apply keeps_cons (by repeat (first | exact find_head | apply find_tail | apply find_skip)) (by first  | rfl) | exact keeps_self | exact keeps_left | apply keeps_app | apply keeps_mv | apply keeps_skip)) (hh.mem _ _ (Find.mem (by repeat (first | exact find_head | apply find_tail | apply find_skip)))) rfl rfl rfl (by omega) (by omega) (by omega) (by decide) ?_)
      clear hl hh a w; intro rv2 E2 a w hR2 hl hh
      have hh3 := hh.comm; clear hh; have hh := hh3; clear hh3
      try simp only [List.cons_append, List.nil_append, List.append_assoc, List.append_nil] at hh
      refine wl (wl_val hl rfl trivial (r_assign hl rfl) ?_)
      clear hl a; intro a hl
      refine w_nil ?_
      have hl2 := hl.add (t := 1) (hl.add (t := 5) (hl.add (t := 6) (hl.add (t := 7) (hl.add (t := 9) (hl.add (t := 63) (hl.add (t := 64) (hl.nil) rfl) rfl) rfl) rfl) rfl) rfl) rfl; clear hl; have hl := hl2; clear hl2
      refine blk_normal ?_
      refine then_normal ?_
      refine c_region ?_
      first | refine wl (wl_val hl rfl trivial (r_add hl rfl rfl (by simp only [Fits]; omega)) ?_) | refine wl (wl_val hl rfl trivial (r_addW hl rfl rfl) ?_)
      clear hl a; intro a hl
      refine wl (wl_val hl rfl trivial (r_move hl rfl) ?_)
      clear hl a; intro a hl
      refine w_nil ?_
      have hl2 := hl.add (t := 1) (hl.add (t := 5) (hl.add (t := 6) (hl.add (t := 7) (hl.add (t := 9) (hl.add (t := 63) (hl.add (t := 64) (hl.nil) rfl) rfl) rfl) rfl) rfl) rfl) rfl; clear hl; have hl := hl2; clear hl2
      refine then_normal ?_
      refine ⟨⟨s.i + 1, s.l ++ [⟨hb9, s.i * 4, none⟩], rv2, E2⟩, (by simp only; omega), ⟨⟨by simp only; omega, by simp [hsi]⟩, by simp only [List.length_append, List.length_singleton]; rw [fl_app, fl_sing]; exact hR2, fun z hz => by
            rcases List.mem_append.1 hz with h9 | h9
            · exact hsl z h9
            · rw [List.mem_singleton] at h9; rw [h9]; exact hslh⟩, hl.addE (t := 64) (hl.addE (t := 9) (hl.addE (t := 1) (hl.addE (t := 5) (hl.addE (t := 6) (hl.addE (t := 7) (hl.addE (t := 63) (hl.nil) rfl (by first | rfl | exact congrArg (Value.int .i64) (show (s.i : Int) + 1 = ((s.i + 1 : Nat) : Int) by omega))) rfl (by first | rfl | exact congrArg (Value.int .i64) (show (s.i : Int) + 1 = ((s.i + 1 : Nat) : Int) by omega))) rfl (by first | rfl | exact congrArg (Value.int .i64) (show (s.i : Int) + 1 = ((s.i + 1 : Nat) : Int) by omega))) rfl (by first | rfl | exact congrArg (Value.int .i64) (show (s.i : Int) + 1 = ((s.i + 1 : Nat) : Int) by omega))) rfl (by first | rfl | exact congrArg (Value.int .i64) (show (s.i : Int) + 1 = ((s.i + 1 : Nat) : Int) by omega))) rfl (by first | rfl | exact congrArg (Value.int .i64) (show (s.i : Int) + 1 = ((s.i + 1 : Nat) : Int) by omega))) rfl (by first | rfl | exact congrArg (Value.int .i64) (show (s.i : Int) + 1 = ((s.i + 1 : Nat) : Int) by omega)), hh.keep (by repeat (first | exact keeps_nil | apply keeps_cons (by repeat (first | exact find_head | apply find_tail | apply find_skip)) (by first  | rfl) | exact keeps_self | exact keeps_left | apply keeps_app | apply keeps_mv | apply keeps_skip))⟩
    · intro hc4
      try simp only [decide_eq_true_eq, decide_eq_false_iff_not, Bool.not_eq_true', Bool.not_eq_false', Bool.not_eq_true, Bool.not_eq_false, Bool.and_eq_true, Bool.or_eq_true, Bool.and_eq_false_iff, Bool.or_eq_false_iff, Bool.not_not, ne_eq, Int.not_lt, Int.not_le, Decidable.not_not, beq_iff_eq, bne_iff_ne] at hc4
      refine wp_exit ?_
      refine then_exit ?_
      refine then_exit ?_
      refine blk_exit ?_
      refine then_normal ?_
      refine c_seq ?_
      refine c_seq ?_
      refine c_region ?_
      refine wl (wl_val hl rfl trivial (r_field hl rfl fld57_1) ?_)
      clear hl a; intro a hl
      refine wl (w_load hl hh rfl trivial one55 rfl (by repeat (first | exact find_head | apply find_tail | apply find_skip)) (by first | rfl) ?_)
      clear hl a; intro a hl
      refine wl (wl_val hl rfl trivial (r_lenS hl rfl slc55) ?_)
      clear hl a; intro a hl
      refine wl (wl_val hl rfl trivial (r_move hl rfl) ?_)
      clear hl a; intro a hl
      refine w_nil ?_
      have hl2 := hl.add (t := 1) (hl.add (t := 5) (hl.add (t := 6) (hl.add (t := 7) (hl.add (t := 9) (hl.add (t := 77) (hl.add (t := 78) (hl.add (t := 79) (hl.nil) rfl) rfl) rfl) rfl) rfl) rfl) rfl) rfl; clear hl; have hl := hl2; clear hl2
      refine then_normal ?_
      refine wp_block ?_
      obtain ⟨KS1, hKS1, hk⟩ := (hl.add (t := 1) (hl.add (t := 5) (hl.add (t := 6) (hl.add (t := 7) (hl.add (t := 77) (hl.add (t := 78) (hl.nil) rfl) rfl) rfl) rfl) rfl) rfl).name
      obtain ⟨HS1, hHS1, hh2⟩ := hh.nameT (A := []) (U := s.E) ((by repeat (first | exact keeps_nil | exact keeps_self | exact keeps_left | apply keeps_app | apply keeps_mv | apply keeps_skip)))
      refine c_loop (α := PL) (fun g => q.ls.length - g.i) (fun g a w => ((g.i ≤ q.ls.length ∧ g.l.length ≤ 65536 + g.i * 65536) ∧ (Row g.v g.l.length (fl ptc g.l) 1 109 g.E ∧ ∀ z, z ∈ g.l → Slot q z)) ∧ Sl 113 ([(79, .int .i64 (g.i : Int)), (9, g.v)] ++ KS1) a ∧ Has _ w0 ([] ++ (HS1 ++ g.E)) w) ⟨0, s.l, s.v, s.E⟩ ⟨⟨⟨Nat.zero_le _, by simp only; omega⟩, hrow, hsl⟩, hl.addE (t := 79) (hl.addE (t := 9) (hk) rfl (by first | rfl)) rfl (by first | rfl), hh2⟩ ?_
      clear hk hh2 hl hh a w
      intro g a w hI
      obtain ⟨⟨⟨hgi, hgl⟩, hrowg, hslg⟩, hl, hh⟩ := hI
      subst hKS1; subst hHS1
      simp only [List.cons_append, List.nil_append, List.append_nil, List.append_assoc] at hl hh
      refine c_seq ?_
      refine c_region ?_
      refine wl (wl_val hl rfl trivial (r_lss hl rfl rfl) ?_)
      clear hl a; intro a hl
      refine w_nil ?_
      have hl2 := hl.add (t := 1) (hl.add (t := 5) (hl.add (t := 6) (hl.add (t := 7) (hl.add (t := 9) (hl.add (t := 77) (hl.add (t := 78) (hl.add (t := 79) (hl.add (t := 80) (hl.nil) rfl) rfl) rfl) rfl) rfl) rfl) rfl) rfl) rfl; clear hl; have hl := hl2; clear hl2
      refine then_normal ?_
      refine c_seq ?_
      refine c_cond hl rfl ?_ ?_
      · intro hc5
        try simp only [decide_eq_true_eq, decide_eq_false_iff_not, Bool.not_eq_true', Bool.not_eq_false', Bool.not_eq_true, Bool.not_eq_false, Bool.and_eq_true, Bool.or_eq_true, Bool.and_eq_false_iff, Bool.or_eq_false_iff, Bool.not_not, ne_eq, Int.not_lt, Int.not_le, Decidable.not_not, beq_iff_eq, bne_iff_ne] at hc5
        obtain ⟨y, hy⟩ : ∃ y, q.ls[g.i]? = some y := ⟨_, List.getElem?_eq_getElem (by omega)⟩
        have hyo := hq.ls y (List.mem_of_getElem? hy)
        have hya := hyo.ags.len
        obtain ⟨b1, j1, hq1, hjl1, hjc1, hE1⟩ := row_pos hq.bd (by omega)
        rw [hq1] at hl
        have hEq : q.E = q.hE ++ ((b1, C (fl LV.c4 q.ls ++ j1) 48) :: q.ls.flatMap LV.E) := by unfold RV.E; rw [hE1]; rfl
        have hd1 := fl_at c4_len hy j1
        simp only [LV.c4] at hd1
        refine wp_skip ?_
        refine then_normal ?_
        refine c_seq ?_
        refine wp_block ?_
        refine c_seq ?_
        refine c_region ?_
        refine wl (wl_val hl rfl trivial (r_indexS hl rfl rfl slc55 (by omega) (by omega) (by first | (simp only [Int.reduceToNat]; rfl) | exact toNat_add1 _ | exact toNat_add2 _ _ | exact toNat_emod _ _ | exact Int.toNat_natCast _ | rfl)) ?_)
        clear hl a; intro a hl
        first | refine wl (w_loadA hl hh rfl trivial agg48 rfl (by repeat (first | exact find_head | apply find_tail | apply find_skip)) (by first | exact hd1 | (simp only [List.getElem?_cons_zero, List.getElem?_cons_succ, Value.cells, List.take_zero, List.take_succ_cons, List.take_nil, List.drop_zero, List.drop_succ_cons, List.drop_nil, List.length_cons, List.length_nil, List.cons_append, List.nil_append, List.append_nil, Nat.zero_add, Nat.add_zero, Nat.reduceAdd, Nat.reduceBEq, Nat.reduceEqDiff, Nat.ble, BEq.rfl, Bool.and_true, Bool.and_self, cond_true, beq_self_eq_true]; rfl)) (by first | rfl | (simp; done)) ?_) | refine wl (wl_val hl rfl trivial (r_loadA hl rfl agg48 (hh.mem _ _ (show (b1, C (fl LV.c4 q.ls ++ j1) 48) ∈ _ by rw [hEq]; simp)) hd1 rfl) ?_)
        clear hl a; intro a hl
        refine wl (w_alloc hl hh rfl trivial zero48 rfl ?_)
        clear hl hh a w; intro k12 a w hl hh
        refine wl (w_storeA hl hh trivial agg48 rfl rfl (by repeat (first | exact find_head | apply find_tail | apply find_skip)) (by first | rfl | (simp; done) | exact hd1) (by first | (simp; done) | (simp; omega) | (rw [List.length_append, fl_len tmc_len]; omega)) (by first | rfl | (simp; done)) (by first | exact fl_setZ tmc_len ts2 t j2 i2 hi2 | (simp only [setL, List.getElem?_cons_zero, List.getElem?_cons_succ, Value.cells, List.take_zero, List.take_succ_cons, List.take_nil, List.drop_zero, List.drop_succ_cons, List.drop_nil, List.length_cons, List.length_nil, List.cons_append, List.nil_append, List.append_nil, Nat.zero_add, Nat.add_zero, Nat.reduceAdd, Nat.reduceBEq, Nat.reduceEqDiff, Nat.ble, BEq.rfl, Bool.and_true, Bool.and_self, cond_true, beq_self_eq_true]; rfl) | (simp only [setL, List.getElem?_cons_zero, List.getElem?_cons_succ, Value.cells, List.take_zero, List.take_succ_cons, List.take_nil, List.drop_zero, List.drop_succ_cons, List.drop_nil, List.length_cons, List.length_nil, List.cons_append, List.nil_append, List.append_nil, Nat.zero_add, Nat.add_zero, Nat.reduceAdd, Nat.reduceBEq, Nat.reduceEqDiff, Nat.ble, BEq.rfl, Bool.and_true, Bool.and_self, cond_true, beq_self_eq_true]; rfl)) ?_)
        clear hh w; intro w hh
        refine w_nil ?_
        have hl2 := hl.add (t := 1) (hl.add (t := 5) (hl.add (t := 6) (hl.add (t := 7) (hl.add (t := 9) (hl.add (t := 12) (hl.add (t := 77) (hl.add (t := 78) (hl.add (t := 79) (hl.nil) rfl) rfl) rfl) rfl) rfl) rfl) rfl) rfl) rfl; clear hl; have hl := hl2; clear hl2
        refine then_normal ?_
        refine c_seq ?_
        refine c_region ?_
        refine wl (wl_val hl rfl trivial (r_field hl rfl fld48_2) ?_)
        clear hl a; intro a hl
        refine wl (wl_val hl rfl trivial (r_field hl rfl fld46_1) ?_)
        clear hl a; intro a hl
        refine wl (w_load hl hh rfl trivial one42 rfl (by repeat (first | exact find_head | apply find_tail | apply find_skip)) (by first | rfl) ?_)
        clear hl a; intro a hl
        refine wl (wl_val hl rfl trivial (r_lenS hl rfl slc42) ?_)
        clear hl a; intro a hl
        refine wl (wl_val hl rfl trivial (r_move hl rfl) ?_)
        clear hl a; intro a hl
        refine w_nil ?_
        have hl2 := hl.add (t := 1) (hl.add (t := 5) (hl.add (t := 6) (hl.add (t := 7) (hl.add (t := 9) (hl.add (t := 12) (hl.add (t := 77) (hl.add (t := 78) (hl.add (t := 79) (hl.add (t := 86) (hl.add (t := 87) (hl.nil) rfl) rfl) rfl) rfl) rfl) rfl) rfl) rfl) rfl) rfl) rfl; clear hl; have hl := hl2; clear hl2
        refine then_normal ?_
        refine wp_block ?_
        obtain ⟨KS2, hKS2, hk⟩ := (hl.add (t := 1) (hl.add (t := 5) (hl.add (t := 6) (hl.add (t := 7) (hl.add (t := 12) (hl.add (t := 77) (hl.add (t := 78) (hl.add (t := 79) (hl.add (t := 86) (hl.nil) rfl) rfl) rfl) rfl) rfl) rfl) rfl) rfl) rfl).name
        obtain ⟨HS2, hHS2, hh2⟩ := hh.nameT (A := []) (U := g.E) ((by repeat (first | exact keeps_nil | exact keeps_self | exact keeps_left | apply keeps_app | apply keeps_mv | apply keeps_skip)))
        refine c_loop (α := PL) (fun u => y.l.a.length - u.i) (fun u a w => ((u.i ≤ y.l.a.length ∧ u.l.length ≤ g.l.length + u.i) ∧ (Row u.v u.l.length (fl ptc u.l) 1 109 u.E ∧ ∀ z, z ∈ u.l → Slot q z)) ∧ Sl 113 ([(87, .int .i64 (u.i : Int)), (9, u.v)] ++ KS2) a ∧ Has _ w0 ([] ++ (HS2 ++ u.E)) w) ⟨0, g.l, g.v, g.E⟩ ⟨⟨⟨Nat.zero_le _, by simp only; omega⟩, hrowg, hslg⟩, hl.addE (t := 87) (hl.addE (t := 9) (hk) rfl (by first | rfl)) rfl (by first | rfl), hh2⟩ ?_
        clear hk hh2 hl hh a w
        intro u a w hI
        obtain ⟨⟨⟨hui, hul⟩, hrowu, hslu⟩, hl, hh⟩ := hI
        subst hKS2; subst hHS2
        simp only [List.cons_append, List.nil_append, List.append_nil, List.append_assoc] at hl hh
        refine c_seq ?_
        refine c_region ?_
        refine wl (wl_val hl rfl trivial (r_lss hl rfl rfl) ?_)
        clear hl a; intro a hl
        refine w_nil ?_
        have hl2 := hl.add (t := 1) (hl.add (t := 5) (hl.add (t := 6) (hl.add (t := 7) (hl.add (t := 9) (hl.add (t := 12) (hl.add (t := 77) (hl.add (t := 78) (hl.add (t := 79) (hl.add (t := 86) (hl.add (t := 87) (hl.add (t := 88) (hl.nil) rfl) rfl) rfl) rfl) rfl) rfl) rfl) rfl) rfl) rfl) rfl) rfl; clear hl; have hl := hl2; clear hl2
        refine then_normal ?_
        refine c_seq ?_
        refine c_cond hl rfl ?_ ?_
        · intro hc6
          try simp only [decide_eq_true_eq, decide_eq_false_iff_not, Bool.not_eq_true', Bool.not_eq_false', Bool.not_eq_true, Bool.not_eq_false, Bool.and_eq_true, Bool.or_eq_true, Bool.and_eq_false_iff, Bool.or_eq_false_iff, Bool.not_not, ne_eq, Int.not_lt, Int.not_le, Decidable.not_not, beq_iff_eq, bne_iff_ne] at hc6
          obtain ⟨hb9, hqh, hslh⟩ := slot_lit hq hy (i := u.i) (by omega)
          refine wp_skip ?_
          refine then_normal ?_
          refine c_seq ?_
          refine wp_block ?_
          refine c_seq ?_
          refine c_region ?_
          refine wl (wl_val hl rfl trivial (r_move hl rfl) ?_)
          clear hl a; intro a hl
          refine wl (wl_val hl rfl trivial (r_assign hl rfl) ?_)
          clear hl a; intro a hl
          refine w_nil ?_
          have hl2 := hl.add (t := 1) (hl.add (t := 5) (hl.add (t := 6) (hl.add (t := 7) (hl.add (t := 9) (hl.add (t := 12) (hl.add (t := 13) (hl.add (t := 77) (hl.add (t := 78) (hl.add (t := 79) (hl.add (t := 86) (hl.add (t := 87) (hl.nil) rfl) rfl) rfl) rfl) rfl) rfl) rfl) rfl) rfl) rfl) rfl) rfl; clear hl; have hl := hl2; clear hl2
          refine then_normal ?_
          refine c_region ?_
          refine wl (wl_val hl rfl trivial (r_move hl rfl) ?_)
          clear hl a; intro a hl
          refine wl (wl_val hl rfl trivial (r_field hl rfl fld48_2) ?_)
          clear hl a; intro a hl
          refine wl (wl_val hl rfl trivial (r_field hl rfl fld46_1) ?_)
          clear hl a; intro a hl
          refine wl (w_load hl hh rfl trivial one42 rfl (by repeat (first | exact find_head | apply find_tail | apply find_skip)) (by first | rfl) ?_)
          clear hl a; intro a hl
          rw [hqh] at hl
          refine wl (wl_val hl rfl trivial (r_move hl rfl) ?_)
          clear hl a; intro a hl
          refine wl (wl_val hl rfl trivial (r_indexS hl rfl rfl slc42 (by omega) (by omega) (by first | (simp only [Int.reduceToNat]; rfl) | exact toNat_add1 _ | exact toNat_add2 _ _ | exact toNat_emod _ _ | exact Int.toNat_natCast _ | rfl)) ?_)
          clear hl a; intro a hl
          refine wl (w_buildSlice hl hh rfl trivial app108 zero109 rfl rfl rfl rfl rfl (by simp only [fillL, arrPl, List.range_succ, List.range_zero, List.map_cons, List.map_nil, List.map_append, List.nil_append, List.replicate_succ, List.replicate_zero, List.flatten_cons, List.flatten_nil, Nat.zero_mul, Nat.mul_one, Nat.one_mul, Nat.reduceMul, setL, List.getElem?_cons_zero, List.getElem?_cons_succ, Value.cells, List.take_zero, List.take_succ_cons, List.take_nil, List.drop_zero, List.drop_succ_cons, List.drop_nil, List.length_cons, List.length_nil, List.cons_append, List.nil_append, List.append_nil, Nat.zero_add, Nat.add_zero, Nat.reduceAdd, Nat.reduceBEq, Nat.reduceEqDiff, Nat.ble, BEq.rfl, Bool.and_true, Bool.and_self, cond_true, beq_self_eq_true]; rfl) ?_)
          clear hl hh a w; intro k96 a w hl hh
          refine wl (w_append (news := (ptc ⟨hb9, u.i * 4, none⟩)) hl hh rfl trivial app108 rfl rfl rfl hrowu (by repeat (first | exact keeps_nil | apply keeps_cons (by repeat (first | exact find_head | apply find_tail | apply find_skip)) (by first  | rfl) | exact keeps_self | exact keeps_left | apply keeps_app | apply keeps_mv | apply keeps_skip)) (hh.mem _ _ (Find.mem (by repeat (first | exact find_head | apply find_tail | apply find_skip)))) rfl rfl rfl (by omega) (by omega) (by omega) (by decide) ?_)
          clear hl hh a w; intro rv2 E2 a w hR2 hl hh
          have hh3 := hh.comm; clear hh; have hh := hh3; clear hh3
          try simp only [List.cons_append, List.nil_append, List.append_assoc, List.append_nil] at hh
          refine wl (wl_val hl rfl trivial (r_assign hl rfl) ?_)
          clear hl a; intro a hl
          refine w_nil ?_
          have hl2 := hl.add (t := 1) (hl.add (t := 5) (hl.add (t := 6) (hl.add (t := 7) (hl.add (t := 9) (hl.add (t := 12) (hl.add (t := 77) (hl.add (t := 78) (hl.add (t := 79) (hl.add (t := 86) (hl.add (t := 87) (hl.nil) rfl) rfl) rfl) rfl) rfl) rfl) rfl) rfl) rfl) rfl) rfl; clear hl; have hl := hl2; clear hl2
          refine blk_normal ?_
          refine then_normal ?_
          refine c_region ?_
          first | refine wl (wl_val hl rfl trivial (r_add hl rfl rfl (by simp only [Fits]; omega)) ?_) | refine wl (wl_val hl rfl trivial (r_addW hl rfl rfl) ?_)
          clear hl a; intro a hl
          refine wl (wl_val hl rfl trivial (r_move hl rfl) ?_)
          clear hl a; intro a hl
          refine w_nil ?_
          have hl2 := hl.add (t := 1) (hl.add (t := 5) (hl.add (t := 6) (hl.add (t := 7) (hl.add (t := 9) (hl.add (t := 12) (hl.add (t := 77) (hl.add (t := 78) (hl.add (t := 79) (hl.add (t := 86) (hl.add (t := 87) (hl.nil) rfl) rfl) rfl) rfl) rfl) rfl) rfl) rfl) rfl) rfl) rfl; clear hl; have hl := hl2; clear hl2
          refine then_normal ?_
          refine ⟨⟨u.i + 1, u.l ++ [⟨hb9, u.i * 4, none⟩], rv2, E2⟩, (by simp only; omega), ⟨⟨by simp only; omega, by simp only [List.length_append, List.length_singleton]; omega⟩, by simp only [List.length_append, List.length_singleton]; rw [fl_app, fl_sing]; exact hR2, fun z hz => by
                rcases List.mem_append.1 hz with h9 | h9
                · exact hslu z h9
                · rw [List.mem_singleton] at h9; rw [h9]; exact hslh⟩, hl.addE (t := 87) (hl.addE (t := 9) (hl.addE (t := 1) (hl.addE (t := 5) (hl.addE (t := 6) (hl.addE (t := 7) (hl.addE (t := 12) (hl.addE (t := 77) (hl.addE (t := 78) (hl.addE (t := 79) (hl.addE (t := 86) (hl.nil) rfl (by first | rfl | exact congrArg (Value.int .i64) (show (u.i : Int) + 1 = ((u.i + 1 : Nat) : Int) by omega))) rfl (by first | rfl | exact congrArg (Value.int .i64) (show (u.i : Int) + 1 = ((u.i + 1 : Nat) : Int) by omega))) rfl (by first | rfl | exact congrArg (Value.int .i64) (show (u.i : Int) + 1 = ((u.i + 1 : Nat) : Int) by omega))) rfl (by first | rfl | exact congrArg (Value.int .i64) (show (u.i : Int) + 1 = ((u.i + 1 : Nat) : Int) by omega))) rfl (by first | rfl | exact congrArg (Value.int .i64) (show (u.i : Int) + 1 = ((u.i + 1 : Nat) : Int) by omega))) rfl (by first | rfl | exact congrArg (Value.int .i64) (show (u.i : Int) + 1 = ((u.i + 1 : Nat) : Int) by omega))) rfl (by first | rfl | exact congrArg (Value.int .i64) (show (u.i : Int) + 1 = ((u.i + 1 : Nat) : Int) by omega))) rfl (by first | rfl | exact congrArg (Value.int .i64) (show (u.i : Int) + 1 = ((u.i + 1 : Nat) : Int) by omega))) rfl (by first | rfl | exact congrArg (Value.int .i64) (show (u.i : Int) + 1 = ((u.i + 1 : Nat) : Int) by omega))) rfl (by first | rfl | exact congrArg (Value.int .i64) (show (u.i : Int) + 1 = ((u.i + 1 : Nat) : Int) by omega))) rfl (by first | rfl | exact congrArg (Value.int .i64) (show (u.i : Int) + 1 = ((u.i + 1 : Nat) : Int) by omega)), hh.keep (by repeat (first | exact keeps_nil | apply keeps_cons (by repeat (first | exact find_head | apply find_tail | apply find_skip)) (by first  | rfl) | exact keeps_self | exact keeps_left | apply keeps_app | apply keeps_mv | apply keeps_skip))⟩
        · intro hc6
          try simp only [decide_eq_true_eq, decide_eq_false_iff_not, Bool.not_eq_true', Bool.not_eq_false', Bool.not_eq_true, Bool.not_eq_false, Bool.and_eq_true, Bool.or_eq_true, Bool.and_eq_false_iff, Bool.or_eq_false_iff, Bool.not_not, ne_eq, Int.not_lt, Int.not_le, Decidable.not_not, beq_iff_eq, bne_iff_ne] at hc6
          refine wp_exit ?_
          refine then_exit ?_
          refine then_exit ?_
          refine blk_exit ?_
          refine blk_normal ?_
          refine then_normal ?_
          refine c_region ?_
          first | refine wl (wl_val hl rfl trivial (r_add hl rfl rfl (by simp only [Fits]; omega)) ?_) | refine wl (wl_val hl rfl trivial (r_addW hl rfl rfl) ?_)
          clear hl a; intro a hl
          refine wl (wl_val hl rfl trivial (r_move hl rfl) ?_)
          clear hl a; intro a hl
          refine w_nil ?_
          have hl2 := hl.add (t := 1) (hl.add (t := 5) (hl.add (t := 6) (hl.add (t := 7) (hl.add (t := 9) (hl.add (t := 77) (hl.add (t := 78) (hl.add (t := 79) (hl.nil) rfl) rfl) rfl) rfl) rfl) rfl) rfl) rfl; clear hl; have hl := hl2; clear hl2
          refine then_normal ?_
          refine ⟨⟨g.i + 1, u.l, u.v, u.E⟩, (by simp only; omega), ⟨⟨by simp only; omega, by simp only; omega⟩, hrowu, hslu⟩, hl.addE (t := 79) (hl.addE (t := 9) (hl.addE (t := 1) (hl.addE (t := 5) (hl.addE (t := 6) (hl.addE (t := 7) (hl.addE (t := 77) (hl.addE (t := 78) (hl.nil) rfl (by first | rfl | exact congrArg (Value.int .i64) (show (g.i : Int) + 1 = ((g.i + 1 : Nat) : Int) by omega) | (rw [hq1]))) rfl (by first | rfl | exact congrArg (Value.int .i64) (show (g.i : Int) + 1 = ((g.i + 1 : Nat) : Int) by omega) | (rw [hq1]))) rfl (by first | rfl | exact congrArg (Value.int .i64) (show (g.i : Int) + 1 = ((g.i + 1 : Nat) : Int) by omega) | (rw [hq1]))) rfl (by first | rfl | exact congrArg (Value.int .i64) (show (g.i : Int) + 1 = ((g.i + 1 : Nat) : Int) by omega) | (rw [hq1]))) rfl (by first | rfl | exact congrArg (Value.int .i64) (show (g.i : Int) + 1 = ((g.i + 1 : Nat) : Int) by omega) | (rw [hq1]))) rfl (by first | rfl | exact congrArg (Value.int .i64) (show (g.i : Int) + 1 = ((g.i + 1 : Nat) : Int) by omega) | (rw [hq1]))) rfl (by first | rfl | exact congrArg (Value.int .i64) (show (g.i : Int) + 1 = ((g.i + 1 : Nat) : Int) by omega) | (rw [hq1]))) rfl (by first | rfl | exact congrArg (Value.int .i64) (show (g.i : Int) + 1 = ((g.i + 1 : Nat) : Int) by omega) | (rw [hq1])), hh.keep (by repeat (first | exact keeps_nil | apply keeps_cons (by repeat (first | exact find_head | apply find_tail | apply find_skip)) (by first  | rfl) | exact keeps_self | exact keeps_left | apply keeps_app | apply keeps_mv | apply keeps_skip))⟩
      · intro hc5
        try simp only [decide_eq_true_eq, decide_eq_false_iff_not, Bool.not_eq_true', Bool.not_eq_false', Bool.not_eq_true, Bool.not_eq_false, Bool.and_eq_true, Bool.or_eq_true, Bool.and_eq_false_iff, Bool.or_eq_false_iff, Bool.not_not, ne_eq, Int.not_lt, Int.not_le, Decidable.not_not, beq_iff_eq, bne_iff_ne] at hc5
        obtain ⟨gp9, gc9, hgv9⟩ := row_val hrowg
        rw [hgv9] at hl hrowg
        refine wp_exit ?_
        refine then_exit ?_
        refine then_exit ?_
        refine blk_exit ?_
        refine then_normal ?_
        refine c_seq ?_
        refine c_seq ?_
        refine c_region ?_
        refine wl (wl_val hl rfl trivial (r_move hl rfl) ?_)
        clear hl a; intro a hl
        refine wl (wl_val hl rfl trivial (r_lenS hl rfl slc108) ?_)
        clear hl a; intro a hl
        refine wl (wl_val hl rfl trivial (r_gtr hl rfl rfl) ?_)
        clear hl a; intro a hl
        refine w_nil ?_
        have hl2 := hl.add (t := 1) (hl.add (t := 5) (hl.add (t := 6) (hl.add (t := 7) (hl.add (t := 9) (hl.add (t := 102) (hl.nil) rfl) rfl) rfl) rfl) rfl) rfl; clear hl; have hl := hl2; clear hl2
        refine then_normal ?_
        refine c_cond hl rfl ?_ ?_
        · intro hc7
          try simp only [decide_eq_true_eq, decide_eq_false_iff_not, Bool.not_eq_true', Bool.not_eq_false', Bool.not_eq_true, Bool.not_eq_false, Bool.and_eq_true, Bool.or_eq_true, Bool.and_eq_false_iff, Bool.or_eq_false_iff, Bool.not_not, ne_eq, Int.not_lt, Int.not_le, Decidable.not_not, beq_iff_eq, bne_iff_ne] at hc7
          obtain ⟨bp9, jp9, hqp9, hjlp, hjcp, hEp⟩ := row_pos hrowg (by omega)
          rw [hqp9] at hl
          rw [hEp] at hh
          refine c_draw [(k5, C [.int .u8 t.k, .int .i64 t.v, .int .i64 t.i, .string t.s] 54), (bp9, C (fl ptc g.l ++ jp9) 109)] [8, 9] mixed hh ?_
          clear hh w; intro w hh
          have hM : Mem [(k5, C [.int .u8 t.k, .int .i64 t.v, .int .i64 t.i, .string t.s] 54), (bp9, C (fl ptc g.l ++ jp9) 109)] w := (memK hh (by repeat (first | exact keeps_nil | apply keeps_cons (by repeat (first | exact find_head | apply find_tail | apply find_skip)) (by first  | rfl) | exact keeps_self | exact keeps_left | apply keeps_app | apply keeps_mv | apply keeps_skip)))
          refine d_take (i := 0) hl rfl (by kernel_rfl) (by kernel_rfl) (by kernel_rfl) (by kernel_rfl) (by kernel_rfl) rfl trivial (fun _ _ _ h => h) hM (fun w hC => r_move hl rfl) rfl ?_
          clear hl a; intro a hl
          refine d_take (i := 1) hl rfl (by kernel_rfl) (by kernel_rfl) (by kernel_rfl) (by kernel_rfl) (by kernel_rfl) rfl trivial (fun _ _ _ h => h) hM (fun w hC => r_move hl rfl) rfl ?_
          clear hl a; intro a hl
          refine d_take (i := 2) hl rfl (by kernel_rfl) (by kernel_rfl) (by kernel_rfl) (by kernel_rfl) (by kernel_rfl) rfl trivial (fun _ _ _ h => h) hM (fun w hC => r_move hl rfl) rfl ?_
          clear hl a; intro a hl
          refine d_take (i := 3) hl rfl (by kernel_rfl) (by kernel_rfl) (by kernel_rfl) (by kernel_rfl) (by kernel_rfl) rfl trivial (fun _ _ _ h => h) hM (fun w hC => r_lenS hl rfl slc108) rfl ?_
          clear hl a; intro a hl
          refine d_take (i := 7) hl rfl (by kernel_rfl) (by kernel_rfl) (by kernel_rfl) (by kernel_rfl) (by kernel_rfl) rfl trivial (fun _ _ _ h => h) hM (fun w hC => r_loadCA hl rfl agg54 hC (by repeat (first | exact find_head | apply find_tail | apply find_skip)) (by first | exact hd1 | (simp only [List.getElem?_cons_zero, List.getElem?_cons_succ, Value.cells, List.take_zero, List.take_succ_cons, List.take_nil, List.drop_zero, List.drop_succ_cons, List.drop_nil, List.length_cons, List.length_nil, List.cons_append, List.nil_append, List.append_nil, Nat.zero_add, Nat.add_zero, Nat.reduceAdd, Nat.reduceBEq, Nat.reduceEqDiff, Nat.ble, BEq.rfl, Bool.and_true, Bool.and_self, cond_true, beq_self_eq_true]; rfl)) (by first | rfl | (simp; done))) rfl ?_
          clear hl a; intro a hl
          refine d_one (i := 4) (by kernel_rfl) rfl ?_
          try clear hM
          refine id (w_call hl hh rfl trivial rfl cal17 rfl (roll_spec db x9 g.l.length (by omega)) (by repeat (first | exact keeps_nil | apply keeps_cons (by repeat (first | exact find_head | apply find_tail | apply find_skip)) (by first  | rfl) | exact keeps_self | exact keeps_left | apply keeps_app | apply keeps_mv | apply keeps_skip)) trivial ?_)
          clear hl hh a w; intro vc Fc a w hR hl hh
          obtain ⟨x2, r2, hr2, rfl, rfl⟩ := hR
          try simp only [List.cons_append, List.nil_append, List.append_assoc, List.append_nil] at hh
          obtain ⟨q2, hq2⟩ : ∃ z, g.l[r2]? = some z := ⟨_, List.getElem?_eq_getElem (by omega)⟩
          obtain ⟨E1, E2, b2, i2, ts2, j2, hEq, hi2, hqe, hch⟩ := hslg q2 (List.mem_of_getElem? hq2)
          subst hqe
          have hdp := fl_cell1 (f := ptc) (g := fun z => Value.pointer (some z)) (fun _ => rfl) hq2 jp9
          rw [hEq, List.append_assoc, List.cons_append] at hh
          have hM : Mem [(k5, C [.int .u8 t.k, .int .i64 t.v, .int .i64 t.i, .string t.s] 54), (bp9, C (fl ptc g.l ++ jp9) 109)] w := (memK hh (by repeat (first | exact keeps_nil | apply keeps_cons (by repeat (first | exact find_head | apply find_tail | apply find_skip)) (by first  | rfl) | exact keeps_self | exact keeps_left | apply keeps_app | apply keeps_mv | apply keeps_skip)))
          refine d_step (fun _ => hM) ?_
          refine d_take (i := 5) hl rfl (by kernel_rfl) (by kernel_rfl) (by kernel_rfl) (by kernel_rfl) (by kernel_rfl) rfl trivial (fun _ _ _ h => h) hM (fun w hC => r_indexS hl rfl rfl slc108 (by omega) (by omega) (by first | (simp only [Int.reduceToNat]; rfl) | exact toNat_add1 _ | exact toNat_add2 _ _ | exact toNat_emod _ _ | exact Int.toNat_natCast _ | rfl)) rfl ?_
          clear hl a; intro a hl
          refine d_take (i := 6) hl rfl (by kernel_rfl) (by kernel_rfl) (by kernel_rfl) (by kernel_rfl) (by kernel_rfl) rfl trivial (fun _ _ _ h => h) hM (fun w hC => r_loadC hl rfl one109 hC (by repeat (first | exact find_head | apply find_tail | apply find_skip)) (by exact hdp)) rfl ?_
          clear hl a; intro a hl
          refine d_takeL (i := 8) hl rfl (by kernel_rfl) (by kernel_rfl) (by kernel_rfl) (by kernel_rfl) (by kernel_rfl) rfl trivial (fun _ _ _ h => h) (fun w => r_nilCheck hl rfl) rfl ?_
          clear hl a; intro a hl
          refine d_one (i := 9) (by kernel_rfl) rfl ?_
          try clear hM
          refine id (w_storeA hl hh trivial agg54 rfl rfl (by repeat (first | exact find_head | apply find_tail | apply find_skip)) (by first | rfl | (simp; done) | exact hd1) (by first | (simp; done) | (simp; omega) | (rw [List.length_append, fl_len tmc_len]; omega)) (by first | rfl | (simp; done)) (by first | exact fl_setZ tmc_len ts2 t j2 i2 hi2 | (simp only [setL, List.getElem?_cons_zero, List.getElem?_cons_succ, Value.cells, List.take_zero, List.take_succ_cons, List.take_nil, List.drop_zero, List.drop_succ_cons, List.drop_nil, List.length_cons, List.length_nil, List.cons_append, List.nil_append, List.append_nil, Nat.zero_add, Nat.add_zero, Nat.reduceAdd, Nat.reduceBEq, Nat.reduceEqDiff, Nat.ble, BEq.rfl, Bool.and_true, Bool.and_self, cond_true, beq_self_eq_true]; rfl) | (simp only [setL, List.getElem?_cons_zero, List.getElem?_cons_succ, Value.cells, List.take_zero, List.take_succ_cons, List.take_nil, List.drop_zero, List.drop_succ_cons, List.drop_nil, List.length_cons, List.length_nil, List.cons_append, List.nil_append, List.append_nil, Nat.zero_add, Nat.add_zero, Nat.reduceAdd, Nat.reduceBEq, Nat.reduceEqDiff, Nat.ble, BEq.rfl, Bool.and_true, Bool.and_self, cond_true, beq_self_eq_true]; rfl)) ?_)
          clear hh w; intro w hh
          refine d_step (fun h => absurd h (by decide)) ?_
          refine d_done (by kernel_rfl) ?_
          try clear hM
          have hl2 := hl.add (t := 6) (hl.add (t := 7) (hl.nil) rfl) rfl; clear hl; have hl := hl2; clear hl2
          obtain ⟨r9, hr9, hrc9, hrl9, hrE9⟩ := hch t ht
          replace hh := hh.keep (F' := (db, C [.int .u64 (x2)] 64) :: (k7, C [.string q.p, .slice q.hp q.a.length q.hc, .slice q.bp q.ls.length q.bc] 57) :: (k6, C [.string ⟨#[]⟩, .slice none 0 0, .slice none 0 0] 57) :: (E1 ++ ((b2, C (fl tmc (ts2.set i2 t) ++ j2) 54) :: E2))) (by repeat (first | exact keeps_nil | apply keeps_cons (by repeat (first | exact find_head | apply find_tail | apply find_skip)) (by first  | rfl) | exact keeps_self | exact keeps_left | apply keeps_app | apply keeps_mv | apply keeps_skip))
          rw [← hrE9] at hh
          refine then_normal ?_
          refine c_seq ?_
          refine c_region ?_
          first | refine wl (w_loadA hl hh rfl trivial agg57 rfl (by repeat (first | exact find_head | apply find_tail | apply find_skip)) (by first | exact hd1 | (simp only [List.getElem?_cons_zero, List.getElem?_cons_succ, Value.cells, List.take_zero, List.take_succ_cons, List.take_nil, List.drop_zero, List.drop_succ_cons, List.drop_nil, List.length_cons, List.length_nil, List.cons_append, List.nil_append, List.append_nil, Nat.zero_add, Nat.add_zero, Nat.reduceAdd, Nat.reduceBEq, Nat.reduceEqDiff, Nat.ble, BEq.rfl, Bool.and_true, Bool.and_self, cond_true, beq_self_eq_true]; rfl)) (by first | rfl | (simp; done)) ?_) | refine wl (wl_val hl rfl trivial (r_loadA hl rfl agg57 (hh.mem _ _ (show (b1, C (fl LV.c4 q.ls ++ j1) 48) ∈ _ by rw [hEq]; simp)) hd1 rfl) ?_)
          clear hl a; intro a hl
          refine wl (w_storeA hl hh trivial agg57 rfl rfl (by repeat (first | exact find_head | apply find_tail | apply find_skip)) (by first | rfl | (simp; done) | exact hd1) (by first | (simp; done) | (simp; omega) | (rw [List.length_append, fl_len tmc_len]; omega)) (by first | rfl | (simp; done)) (by first | exact fl_setZ tmc_len ts2 t j2 i2 hi2 | (simp only [setL, List.getElem?_cons_zero, List.getElem?_cons_succ, Value.cells, List.take_zero, List.take_succ_cons, List.take_nil, List.drop_zero, List.drop_succ_cons, List.drop_nil, List.length_cons, List.length_nil, List.cons_append, List.nil_append, List.append_nil, Nat.zero_add, Nat.add_zero, Nat.reduceAdd, Nat.reduceBEq, Nat.reduceEqDiff, Nat.ble, BEq.rfl, Bool.and_true, Bool.and_self, cond_true, beq_self_eq_true]; rfl) | (simp only [setL, List.getElem?_cons_zero, List.getElem?_cons_succ, Value.cells, List.take_zero, List.take_succ_cons, List.take_nil, List.drop_zero, List.drop_succ_cons, List.drop_nil, List.length_cons, List.length_nil, List.cons_append, List.nil_append, List.append_nil, Nat.zero_add, Nat.add_zero, Nat.reduceAdd, Nat.reduceBEq, Nat.reduceEqDiff, Nat.ble, BEq.rfl, Bool.and_true, Bool.and_self, cond_true, beq_self_eq_true]; rfl)) ?_)
          clear hh w; intro w hh
          refine w_nil ?_
          have hl2 := hl.add (t := 6) (hl.nil) rfl; clear hl; have hl := hl2; clear hl2
          refine then_normal ?_
          refine wp_ret ?_
          first
          | (have hv9 : ([.string q.p, .slice q.hp q.a.length q.hc, .slice q.bp q.ls.length q.bc] : List Value) = [.string r9.p, .slice r9.hp r9.a.length r9.hc, .slice r9.bp r9.ls.length r9.bc] := hrc9.symm; refine f_retC (F' := (db, C [.int .u64 (x2)] 64) :: r9.E) hl hh rfl rfl agg57 (by repeat (first | exact find_head | apply find_tail | apply find_skip)) rfl (by repeat (first | exact keeps_nil | apply keeps_cons (by repeat (first | exact find_head | apply find_tail | apply find_skip)) (by first  | rfl) | exact keeps_self | exact keeps_left | apply keeps_app | apply keeps_mv | apply keeps_skip)) ?_; exact ⟨x2, r9, hr9, congrArg (fun z : List Value => Value.agg ⟨z⟩) hv9, rfl⟩)
          | (have hv9 : ([.string q.p, .slice q.hp q.a.length q.hc, .slice q.bp q.ls.length q.bc] : List Value) = [.string r9.p, .slice r9.hp r9.a.length r9.hc, .slice r9.bp r9.ls.length r9.bc] := hrc9.symm; refine f_retC (F' := (db, C [.int .u64 (x9)] 64) :: r9.E) hl hh rfl rfl agg57 (by repeat (first | exact find_head | apply find_tail | apply find_skip)) rfl (by repeat (first | exact keeps_nil | apply keeps_cons (by repeat (first | exact find_head | apply find_tail | apply find_skip)) (by first  | rfl) | exact keeps_self | exact keeps_left | apply keeps_app | apply keeps_mv | apply keeps_skip)) ?_; exact ⟨x9, r9, hr9, congrArg (fun z : List Value => Value.agg ⟨z⟩) hv9, rfl⟩)
        · intro hc7
          try simp only [decide_eq_true_eq, decide_eq_false_iff_not, Bool.not_eq_true', Bool.not_eq_false', Bool.not_eq_true, Bool.not_eq_false, Bool.and_eq_true, Bool.or_eq_true, Bool.and_eq_false_iff, Bool.or_eq_false_iff, Bool.not_not, ne_eq, Int.not_lt, Int.not_le, Decidable.not_not, beq_iff_eq, bne_iff_ne] at hc7
          obtain ⟨r9, hr9, hrc9, hrE9⟩ : ∃ r9 : RV, r9.ok ∧ r9.c3 = q.c3 ∧ r9.E = q.E := ⟨q, hq, rfl, rfl⟩
          rw [← hrE9] at hh
          refine wp_skip ?_
          refine then_normal ?_
          refine c_seq ?_
          refine c_region ?_
          first | refine wl (w_loadA hl hh rfl trivial agg57 rfl (by repeat (first | exact find_head | apply find_tail | apply find_skip)) (by first | exact hd1 | (simp only [List.getElem?_cons_zero, List.getElem?_cons_succ, Value.cells, List.take_zero, List.take_succ_cons, List.take_nil, List.drop_zero, List.drop_succ_cons, List.drop_nil, List.length_cons, List.length_nil, List.cons_append, List.nil_append, List.append_nil, Nat.zero_add, Nat.add_zero, Nat.reduceAdd, Nat.reduceBEq, Nat.reduceEqDiff, Nat.ble, BEq.rfl, Bool.and_true, Bool.and_self, cond_true, beq_self_eq_true]; rfl)) (by first | rfl | (simp; done)) ?_) | refine wl (wl_val hl rfl trivial (r_loadA hl rfl agg57 (hh.mem _ _ (show (b1, C (fl LV.c4 q.ls ++ j1) 48) ∈ _ by rw [hEq]; simp)) hd1 rfl) ?_)
          clear hl a; intro a hl
          refine wl (w_storeA hl hh trivial agg57 rfl rfl (by repeat (first | exact find_head | apply find_tail | apply find_skip)) (by first | rfl | (simp; done) | exact hd1) (by first | (simp; done) | (simp; omega) | (rw [List.length_append, fl_len tmc_len]; omega)) (by first | rfl | (simp; done)) (by first | exact fl_setZ tmc_len ts2 t j2 i2 hi2 | (simp only [setL, List.getElem?_cons_zero, List.getElem?_cons_succ, Value.cells, List.take_zero, List.take_succ_cons, List.take_nil, List.drop_zero, List.drop_succ_cons, List.drop_nil, List.length_cons, List.length_nil, List.cons_append, List.nil_append, List.append_nil, Nat.zero_add, Nat.add_zero, Nat.reduceAdd, Nat.reduceBEq, Nat.reduceEqDiff, Nat.ble, BEq.rfl, Bool.and_true, Bool.and_self, cond_true, beq_self_eq_true]; rfl) | (simp only [setL, List.getElem?_cons_zero, List.getElem?_cons_succ, Value.cells, List.take_zero, List.take_succ_cons, List.take_nil, List.drop_zero, List.drop_succ_cons, List.drop_nil, List.length_cons, List.length_nil, List.cons_append, List.nil_append, List.append_nil, Nat.zero_add, Nat.add_zero, Nat.reduceAdd, Nat.reduceBEq, Nat.reduceEqDiff, Nat.ble, BEq.rfl, Bool.and_true, Bool.and_self, cond_true, beq_self_eq_true]; rfl)) ?_)
          clear hh w; intro w hh
          refine w_nil ?_
          have hl2 := hl.add (t := 6) (hl.nil) rfl; clear hl; have hl := hl2; clear hl2
          refine then_normal ?_
          refine wp_ret ?_
          first
          | (have hv9 : ([.string q.p, .slice q.hp q.a.length q.hc, .slice q.bp q.ls.length q.bc] : List Value) = [.string r9.p, .slice r9.hp r9.a.length r9.hc, .slice r9.bp r9.ls.length r9.bc] := hrc9.symm; refine f_retC (F' := (db, C [.int .u64 (x2)] 64) :: r9.E) hl hh rfl rfl agg57 (by repeat (first | exact find_head | apply find_tail | apply find_skip)) rfl (by repeat (first | exact keeps_nil | apply keeps_cons (by repeat (first | exact find_head | apply find_tail | apply find_skip)) (by first  | rfl) | exact keeps_self | exact keeps_left | apply keeps_app | apply keeps_mv | apply keeps_skip)) ?_; exact ⟨x2, r9, hr9, congrArg (fun z : List Value => Value.agg ⟨z⟩) hv9, rfl⟩)
          | (have hv9 : ([.string q.p, .slice q.hp q.a.length q.hc, .slice q.bp q.ls.length q.bc] : List Value) = [.string r9.p, .slice r9.hp r9.a.length r9.hc, .slice r9.bp r9.ls.length r9.bc] := hrc9.symm; refine f_retC (F' := (db, C [.int .u64 (x9)] 64) :: r9.E) hl hh rfl rfl agg57 (by repeat (first | exact find_head | apply find_tail | apply find_skip)) rfl (by repeat (first | exact keeps_nil | apply keeps_cons (by repeat (first | exact find_head | apply find_tail | apply find_skip)) (by first  | rfl) | exact keeps_self | exact keeps_left | apply keeps_app | apply keeps_mv | apply keeps_skip)) ?_; exact ⟨x9, r9, hr9, congrArg (fun z : List Value => Value.agg ⟨z⟩) hv9, rfl⟩)
end Go.Proofs.Qxb6500915aGreatDoor

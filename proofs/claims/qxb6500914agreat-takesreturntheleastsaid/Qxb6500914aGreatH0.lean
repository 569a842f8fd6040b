import Derived.Test.Qxb6500914aGreatN4
import Derived.Test.Qxb6500914aGreatMks
import Derived.Test.Qxb6500914aGreatCut
import Derived.Test.Qxb6500914aGreatRw
namespace Go.Proofs.Qxb6500914aGreat
open Go.Eng
set_option linter.unusedVariables false
set_option linter.unusedSimpArgs false
theorem zero29 : zeroOk Tryz.prog 29 (.agg #[(.slice none 0 0), (.slice none 0 0), (.slice none 0 0), (.slice none 0 0), (.slice none 0 0), (.slice none 0 0)]) := by unfold zeroOk; kernel_rfl
theorem agg103 : aggOk Tryz.prog 103 8 = true := by kernel_rfl
theorem fld103_0 : fieldOk Tryz.prog 103 0 0 = true := by kernel_rfl
theorem arr29 : arrOk Tryz.prog 29 6 1 = true := by kernel_rfl
theorem one27 : oneOk Tryz.prog 27 = true := by kernel_rfl
theorem fld103_2 : fieldOk Tryz.prog 103 2 2 = true := by kernel_rfl
theorem fld103_1 : fieldOk Tryz.prog 103 1 1 = true := by kernel_rfl
theorem zero95 : zeroOk Tryz.prog 95 (.agg #[(.int .u8 0), (.int .u64 0), (.int .u64 0), (.int .u8 0), (.int .u64 0), (.int .u64 0), (.bool false), (.int .i64 0), (.int .i64 0)]) := by unfold zeroOk; kernel_rfl
theorem bld95 : buildOk Tryz.prog 95 [(0, 3), (3, 3), (6, 1), (7, 1), (8, 1)] = true := by kernel_rfl
theorem app27 : appOk Tryz.prog 27 95 9 72 = true := by kernel_rfl
theorem slc27 : slcOk Tryz.prog 27 9 = true := by kernel_rfl
theorem fld95_1 : fieldOk Tryz.prog 95 1 3 = true := by kernel_rfl
theorem fld95_2 : fieldOk Tryz.prog 95 2 6 = true := by kernel_rfl
theorem fld95_4 : fieldOk Tryz.prog 95 4 8 = true := by kernel_rfl
theorem agg29 : aggOk Tryz.prog 29 6 = true := by kernel_rfl
/-! ## histories in memory -/
def recL (r : Rec) : List Value := [.int .u8 r.ck, .int .u64 r.cv, .int .u64 r.cp, .int .u8 r.ra, .int .u64 r.rv, .int .u64 r.rp, .bool r.ret, .int .i64 (r.iv : Int), .int .i64 (r.fn : Int)]
theorem recL_len (r : Rec) : (recL r).length = 9 := rfl
def HR (sv : Nat → Value) (H : Nat → List Rec) (ES : Nat → List (Nat × Obj)) : Prop := ∀ t, t < 6 → Row (sv t) (H t).length (fl recL (H t)) 9 95 (ES t)
def cat6 (ES : Nat → List (Nat × Obj)) : List (Nat × Obj) := (List.range 6).flatMap ES
def but6 (ES : Nat → List (Nat × Obj)) (t : Nat) : List (Nat × Obj) := (List.range 6).flatMap (fun s => if s = t then [] else ES s)
theorem cat_perm (ES : Nat → List (Nat × Obj)) {t : Nat} (h : t < 6) : (cat6 ES).Perm (ES t ++ but6 ES t) := flat_split _ t _ List.nodup_range (List.mem_range.2 h)
theorem but6_upd (ES : Nat → List (Nat × Obj)) (t : Nat) (E : List (Nat × Obj)) : but6 (updF ES t E) t = but6 ES t := by
  unfold but6
  congr 1
  funext s
  by_cases e : s = t
  · rw [if_pos e, if_pos e]
  · rw [if_neg e, if_neg e, updF_ne _ _ e]
theorem keeps_cat {ES : Nat → List (Nat × Obj)} {t : Nat} (h : t < 6) : Keeps (cat6 ES) (ES t) (but6 ES t) := ⟨cat_perm ES h⟩
theorem has_cat {D : List Nat} {w0 w : World} {A : List (Nat × Obj)} {ES : Nat → List (Nat × Obj)} {t : Nat} {E : List (Nat × Obj)} (ht : t < 6) (h : Has D w0 (A ++ (but6 ES t ++ E)) w) : Has D w0 (A ++ cat6 (updF ES t E)) w := by
  refine h.perm (List.Perm.append_left A ?_)
  refine List.perm_append_comm.trans ?_
  have := (cat_perm (updF ES t E) ht).symm
  rw [updF_same, but6_upd] at this
  exact this
theorem has_uncat {D : List Nat} {w0 w : World} {A : List (Nat × Obj)} {ES : Nat → List (Nat × Obj)} {t : Nat} (ht : t < 6) (h : Has D w0 (A ++ cat6 ES) w) : Has D w0 (ES t ++ (A ++ but6 ES t)) w := by
  refine h.perm ?_
  refine (List.Perm.append_left A (cat_perm ES ht)).trans ?_
  rw [← List.append_assoc, ← List.append_assoc]
  exact List.Perm.append_right _ List.perm_append_comm
theorem HR.upd {sv : Nat → Value} {H : Nat → List Rec} {ES : Nat → List (Nat × Obj)} (h : HR sv H ES) (t : Nat) (l : List Rec) (v : Value) (E : List (Nat × Obj)) (hR : Row v l.length (fl recL l) 9 95 E) : HR (updV sv t v) (updF H t l) (updF ES t E) := by
  intro s hs
  by_cases e : s = t
  · subst e; rw [show updV sv s v s = v from if_pos rfl, updF_same, updF_same]; exact hR
  · rw [show updV sv t v s = sv s from if_neg e, updF_ne _ _ e, updF_ne _ _ e]; exact h s hs
theorem HR.upd2 {sv : Nat → Value} {H : Nat → List Rec} {ES : Nat → List (Nat × Obj)} (h : HR sv H ES) (t : Nat) (l : List Rec) (E : List (Nat × Obj)) (hR : Row (sv t) l.length (fl recL l) 9 95 E) : HR sv (updF H t l) (updF ES t E) := by
  intro s hs
  by_cases e : s = t
  · subst e; rw [updF_same, updF_same]; exact hR
  · rw [updF_ne _ _ e, updF_ne _ _ e]; exact h s hs
theorem has_cat1 {D : List Nat} {w0 w : World} {A : List (Nat × Obj)} {ES : Nat → List (Nat × Obj)} {t : Nat} {x : Nat × Obj} (ht : t < 6) (h : Has D w0 (x :: (A ++ but6 ES t)) w) : Has D w0 (A ++ cat6 (updF ES t [x])) w :=
  has_cat ht (h.perm (by
    rw [← List.append_assoc]
    exact (List.perm_append_comm (l₁ := [x]))))
theorem arrL_one {n : Nat} {g : Nat → Value} (h : ∀ i, i < n → (g i).oneCell' = true) : (arrL n g).all (·.oneCell') = true := by
  rw [List.all_eq_true]
  intro x hx
  unfold arrL at hx
  rw [List.mem_map] at hx
  obtain ⟨i, hi, rfl⟩ := hx
  exact h i (List.mem_range.1 hi)
theorem get6 {sv : Nat → Value} {t : Nat} (h : t < 6) : (arrL 6 sv)[0 + t * 1]? = some (sv t) := by rw [Nat.zero_add, Nat.mul_one]; exact arrL_get h
theorem rec_set (B : List Rec) (r : Rec) (junk A N M T : List Value) (hr : recL r = A ++ M ++ T) (hn : N.length = M.length) : setL (fl recL (B ++ [r]) ++ junk) (0 + B.length * 9 + A.length) N = fl recL B ++ (A ++ N ++ T) ++ junk := by
  have e1 : fl recL (B ++ [r]) ++ junk = (fl recL B ++ A) ++ M ++ (T ++ junk) := by rw [fl_append]; simp only [fl, List.map_cons, List.map_nil, List.flatten_cons, List.flatten_nil, List.append_nil]; rw [hr]; simp
  have e2 : 0 + B.length * 9 + A.length = (fl recL B ++ A).length := by rw [List.length_append, fl_len recL_len]; omega
  rw [e1, e2, setL_mid _ _ _ _ hn]; simp
theorem fl_snoc (B : List Rec) (r : Rec) : fl recL (B ++ [r]) = fl recL B ++ recL r := by rw [fl_append]; simp [fl]
theorem rec_set3 (B : List Rec) (r : Rec) (junk : List Value) (x y z : Int) : setL (fl recL (B ++ [r]) ++ junk) (0 + B.length * 9 + 3) [.int .u8 x, .int .u64 y, .int .u64 z] = fl recL (B ++ [{ r with ra := x, rv := y, rp := z }]) ++ junk := by
  exact (rec_set B r junk [_, _, _] [.int .u8 x, .int .u64 y, .int .u64 z] [_, _, _] [_, _, _] rfl rfl).trans (by rw [fl_snoc]; rfl)
theorem rec_set6 (B : List Rec) (r : Rec) (junk : List Value) (x : Bool) : setL (fl recL (B ++ [r]) ++ junk) (0 + B.length * 9 + 6) [.bool x] = fl recL (B ++ [{ r with ret := x }]) ++ junk := by
  exact (rec_set B r junk [_, _, _, _, _, _] [.bool x] [_] [_, _] rfl rfl).trans (by rw [fl_snoc]; rfl)
theorem rec_set8 (B : List Rec) (r : Rec) (junk : List Value) (x : Nat) : setL (fl recL (B ++ [r]) ++ junk) (0 + B.length * 9 + 8) [.int .i64 (x : Int)] = fl recL (B ++ [{ r with fn := x }]) ++ junk := by
  exact (rec_set B r junk [_, _, _, _, _, _, _, _] [.int .i64 (x : Int)] [_] [] rfl rfl).trans (by rw [fl_snoc]; rfl)
def loK (k : Bool) : Int := if k then 4 else 0
def hiK (k : Bool) : Int := if k then 7 else 3
theorem inK_lohi {k : Bool} {ck : Int} : inK k ck ↔ loK k ≤ ck ∧ ck ≤ hiK k := by cases k <;> exact Iff.rfl
structure HSt where
  i : Nat
  sv : Nat → Value
  ES : Nat → List (Nat × Obj)
theorem hist_take {k : Bool} {log : List Ev} {i : Nat} {e : Ev} (h : log[i]? = some e) : hist k (log.take (i + 1)) = hStep k (hist k (log.take i)) i e := by
  obtain ⟨hi, rfl⟩ := List.getElem?_eq_some_iff.1 h
  rw [List.take_succ_eq_append_getElem hi, hist_snoc, List.length_take, Nat.min_eq_left (by omega)]
theorem i_succ (i : Nat) : (i : Int) + 1 = ((i + 1 : Nat) : Int) := by omega
theorem LogOk.take {log : List Ev} (h : LogOk log) (i : Nat) : LogOk (log.take i) := fun pre e post eq => h pre e (post ++ log.drop i) (by
  conv => lhs; rw [← List.take_append_drop i log]
  rw [eq]; simp)
theorem zero6 : C [Value.slice none 0 0, Value.slice none 0 0, Value.slice none 0 0, Value.slice none 0 0, Value.slice none 0 0, Value.slice none 0 0] 29 = C (arrL 6 fun _ => Value.slice none 0 0) 29 := by unfold arrL; rfl
theorem HR.app {sv : Nat → Value} {k : Bool} {log : List Ev} {i t : Nat} {ck cv cp ra rv rp : Int} {ES : Nat → List (Nat × Obj)} {v2 : Value} {E2 : List (Nat × Obj)} (h : HR sv (hist k (log.take i)) ES) (hst : hist k (log.take (i + 1)) = hStep k (hist k (log.take i)) i ⟨t, false, ck, cv, cp, ra, rv, rp⟩) (hin : inK k ck)
    (hR2 : Row v2 ((hist k (log.take i) t).length + 1) (fl recL (hist k (log.take i) t) ++ [.int .u8 ck, .int .u64 cv, .int .u64 cp, .int .u8 0, .int .u64 0, .int .u64 0, .bool false, .int .i64 (i : Int), .int .i64 9223372036854775807]) 9 95 E2) : HR (updV sv t v2) (hist k (log.take (i + 1))) (updF ES t E2) := by
  rw [hst]; unfold hStep
  rw [if_pos hin, if_neg (by simp)]
  refine h.upd t _ _ _ ?_
  rw [fl_snoc, List.length_append]
  exact hR2
theorem HR.ret {sv : Nat → Value} {k : Bool} {log : List Ev} {i t : Nat} {ck cv cp ra rv rp : Int} {ES : Nat → List (Nat × Obj)} {B : List Rec} {r : Rec} {b9 cap9 : Nat} {junk9 : List Value} (h : HR sv (hist k (log.take i)) ES) (hst : hist k (log.take (i + 1)) = hStep k (hist k (log.take i)) i ⟨t, true, ck, cv, cp, ra, rv, rp⟩) (hin : inK k ck)
    (hB : hist k (log.take i) t = B ++ [r]) (hsv : sv t = .slice (some ⟨b9, 0, none⟩) (B.length + 1) cap9) (hjl : (fl recL (B ++ [r]) ++ junk9).length = cap9 * 9) (hcc : B.length + 1 ≤ cap9) : HR sv (hist k (log.take (i + 1))) (updF ES t [(b9, C (fl recL (B ++ [{ { { r with ra := ra, rv := rv, rp := rp } with ret := true } with fn := i }]) ++ junk9) 95)]) := by
  rw [hst]; unfold hStep
  rw [if_pos hin, if_pos rfl]
  show HR sv (updF (hist k (log.take i)) t (endL (hist k (log.take i) t) ra rv rp i)) _
  rw [hB, endL_snoc]
  refine h.upd2 t _ _ (.inr ⟨b9, cap9, junk9, by rw [hsv]; simp, by rw [fl_len recL_len], ?_, by simpa using hcc, rfl⟩)
  rw [← hjl, List.length_append, List.length_append, fl_len recL_len, fl_len recL_len]; simp
theorem HR.zero (k : Bool) (log : List Ev) : HR (fun _ => .slice none 0 0) (hist k (log.take 0)) (fun _ => []) := fun _ _ => Row.nil _ _
theorem take6 (sv : Nat → Value) : ((arrL 6 sv).drop 0).take 6 = arrL 6 sv := by unfold arrL; rfl
theorem set6 (sv tv : Nat → Value) : setL (arrL 6 tv) 0 (arrL 6 sv) = arrL 6 sv := by unfold arrL; rfl
theorem set6z (sv : Nat → Value) : setL [Value.slice none 0 0, Value.slice none 0 0, Value.slice none 0 0, Value.slice none 0 0, Value.slice none 0 0, Value.slice none 0 0] 0 (arrL 6 sv) = arrL 6 sv := by unfold arrL; rfl
attribute [local irreducible] hist fl hStep recL


set_option maxHeartbeats 4000000 in
theorem historyOf_spec (k : Bool) (log : List Ev) (hok : LogOk log) (hlen : log.length ≤ 1000100) (p : Option Addr) (c : Nat) (E : List (Nat × Obj)) (hR : Row (.slice p log.length c) log.length (log.flatMap evL) 8 103 E) : SpK Tryz.prog 16 #[.slice p log.length c, .int .u8 (loK k), .int .u8 (hiK k)] (Mem E) [] (fun v F' => ∃ sv ES, v = .agg ⟨arrL 6 sv⟩ ∧ HR sv (hist k log) ES ∧ F' = cat6 ES) := by
  refine f_enter (args := [.slice p log.length c, .int .u8 (loK k), .int .u8 (hiK k)]) Tryz.func16 rfl Tryz.ntmps16 rfl ?_
  intro w0 w a hpre hl hh
  simp only [slotsFrom, Nat.reduceAdd] at hl
  refine c_seq ?_
  refine c_region ?_
  refine wl (w_alloc hl hh rfl trivial zero29 rfl ?_)
  clear hl hh a w; intro k6 a w hl hh
  refine w_nil ?_
  have hl2 := hl.add (t := 0) (hl.add (t := 1) (hl.add (t := 2) (hl.add (t := 6) (hl.nil) rfl) rfl) rfl) rfl; clear hl; have hl := hl2; clear hl2
  refine then_normal ?_
  refine c_seq ?_
  refine c_region ?_
  refine wl (w_alloc hl hh rfl trivial zero29 rfl ?_)
  clear hl hh a w; intro k7 a w hl hh
  refine w_nil ?_
  have hl2 := hl.add (t := 0) (hl.add (t := 1) (hl.add (t := 2) (hl.add (t := 6) (hl.add (t := 7) (hl.nil) rfl) rfl) rfl) rfl) rfl; clear hl; have hl := hl2; clear hl2
  refine then_normal ?_
  refine c_seq ?_
  refine c_seq ?_
  refine c_region ?_
  refine wl (wl_val hl rfl trivial (r_move hl rfl) ?_)
  clear hl a; intro a hl
  refine wl (wl_val hl rfl trivial (r_lenS hl rfl slc62) ?_)
  clear hl a; intro a hl
  refine wl (wl_val hl rfl trivial (r_move hl rfl) ?_)
  clear hl a; intro a hl
  refine w_nil ?_
  have hl2 := hl.add (t := 1) (hl.add (t := 2) (hl.add (t := 6) (hl.add (t := 7) (hl.add (t := 12) (hl.add (t := 13) (hl.add (t := 14) (hl.nil) rfl) rfl) rfl) rfl) rfl) rfl) rfl; clear hl; have hl := hl2; clear hl2
  refine then_normal ?_
  refine wp_block ?_
  obtain ⟨KS0, hKS0, hk⟩ := (hl.add (t := 1) (hl.add (t := 2) (hl.add (t := 6) (hl.add (t := 7) (hl.add (t := 12) (hl.add (t := 13) (hl.nil) rfl) rfl) rfl) rfl) rfl) rfl).name
  obtain ⟨HS0, hHS0, hh2⟩ := hh.nameT (A := [(k7, C (arrL 6 (fun _ => .slice none 0 0)) 29)]) (U := (cat6 (fun _ => []))) (keeps_cons (b := k7) (o' := C (arrL 6 (fun _ => .slice none 0 0)) 29) (by repeat (first | exact find_head | apply find_tail)) (by first | exact zero6 | rfl) ((show Keeps _ ([] : List (Nat × Obj)) _ from keeps_nil)))
  refine c_loop (α := HSt) (fun s => log.length - s.i) (fun s a w => (s.i ≤ log.length ∧ HR s.sv (hist k (log.take s.i)) s.ES) ∧ Sl 69 ([(14, .int .i64 (s.i : Int))] ++ KS0) a ∧ Has _ w0 ([(k7, C (arrL 6 s.sv) 29)] ++ (HS0 ++ cat6 s.ES)) w) ⟨0, fun _ => .slice none 0 0, fun _ => []⟩ ⟨⟨Nat.zero_le _, HR.zero k log⟩, hl.addE (t := 14) (hk) rfl (by first | rfl), hh2⟩ ?_
  clear hk hh2 hl hh a w
  intro s a w hI
  obtain ⟨⟨hi, hHR⟩, hl, hh⟩ := hI
  subst hKS0; subst hHS0
  simp only [List.cons_append, List.nil_append, List.append_nil] at hl hh
  obtain ⟨i, sv, ES⟩ := s
  simp only at hi hHR hl hh
  refine c_seq ?_
  refine c_region ?_
  refine wl (wl_val hl rfl trivial (r_lss hl rfl rfl) ?_)
  clear hl a; intro a hl
  refine w_nil ?_
  have hl2 := hl.add (t := 1) (hl.add (t := 2) (hl.add (t := 6) (hl.add (t := 7) (hl.add (t := 12) (hl.add (t := 13) (hl.add (t := 14) (hl.add (t := 15) (hl.nil) rfl) rfl) rfl) rfl) rfl) rfl) rfl) rfl; clear hl; have hl := hl2; clear hl2
  refine then_normal ?_
  refine c_seq ?_
  refine c_cond hl rfl ?_ ?_
  · intro hc0
    try simp only [decide_eq_true_eq, decide_eq_false_iff_not, Bool.not_eq_true', Bool.not_eq_false', Bool.not_eq_true, Bool.not_eq_false, Bool.and_eq_true, Bool.or_eq_true, Bool.and_eq_false_iff, Bool.or_eq_false_iff, Bool.not_not, ne_eq, Int.not_lt, Int.not_le, Decidable.not_not, beq_iff_eq, bne_iff_ne] at hc0
    obtain ⟨lb, junk, rfl, hjl, hcc9, rfl⟩ := row_pos hR (by omega)
    have hm : w0.heap[lb]? = some (C (log.flatMap evL ++ junk) 103) := hpre lb _ (by simp)
    obtain ⟨e, he⟩ : ∃ e, log[i]? = some e := ⟨_, List.getElem?_eq_getElem (by omega)⟩
    have hev := ev_at _ junk _ _ he
    have heo := hok.at he
    have hho := hist_ok k (log.take i) (hok.take i)
    have hcl9 : (hist k (log.take i) e.t).length ≤ 1000100 := Nat.le_trans (hho.each heo.t) (by rw [List.length_take]; omega)
    have hst := hist_take (k := k) he
    obtain ⟨et, er, eck, ecv, ecp, era, erv, erp⟩ := e
    simp only [evL] at hev
    have het : et < 6 := heo.t
    have hcl : (hist k (log.take i) et).length ≤ 1000100 := hcl9
    clear hcl9 hho
    refine wp_skip ?_
    refine then_normal ?_
    refine c_seq ?_
    refine wp_block ?_
    refine c_seq ?_
    refine c_region ?_
    refine wl (wl_val hl rfl trivial (r_move hl rfl) ?_)
    clear hl a; intro a hl
    refine wl (wl_val hl rfl trivial (r_indexS hl rfl rfl slc62 (by omega) (by omega) (by first | (simp only [Int.reduceToNat]; rfl) | exact toNat_add1 _ | exact toNat_add2 _ _ | exact toNat_emod _ _ | exact Int.toNat_natCast _ | rfl)) ?_)
    clear hl a; intro a hl
    first | refine wl (w_loadA hl hh rfl trivial agg103 rfl (by repeat (first | exact find_head | apply find_tail)) (by first | (simp only [List.getElem?_cons_zero, List.getElem?_cons_succ, Value.cells, List.take_zero, List.take_succ_cons, List.take_nil, List.drop_zero, List.drop_succ_cons, List.drop_nil, List.length_cons, List.length_nil, List.cons_append, List.nil_append, List.append_nil, Nat.zero_add, Nat.add_zero, Nat.reduceAdd, Nat.reduceBEq, Nat.reduceEqDiff, Nat.ble, BEq.rfl, Bool.and_true, Bool.and_self, cond_true, beq_self_eq_true]; rfl)) (by first | rfl | (simp; done)) ?_) | refine wl (w_loadRA hl hh rfl trivial agg103 rfl hm (by simp) hev rfl ?_)
    clear hl a; intro a hl
    refine wl (w_alloc hl hh rfl trivial zero103 rfl ?_)
    clear hl hh a w; intro k9 a w hl hh
    refine wl (wl_val hl rfl trivial (r_assign hl rfl) ?_)
    clear hl a; intro a hl
    refine wl (w_storeA hl hh trivial agg103 rfl rfl (by repeat (first | exact find_head | apply find_tail)) (by first | rfl | (simp; done)) (by first | (simp; done) | (simp; omega) | (rw [List.length_append, fl_len recL_len, List.length_append, List.length_singleton]; omega)) (by first | rfl | (simp; done)) (by first | (simp only [setL, List.getElem?_cons_zero, List.getElem?_cons_succ, Value.cells, List.take_zero, List.take_succ_cons, List.take_nil, List.drop_zero, List.drop_succ_cons, List.drop_nil, List.length_cons, List.length_nil, List.cons_append, List.nil_append, List.append_nil, Nat.zero_add, Nat.add_zero, Nat.reduceAdd, Nat.reduceBEq, Nat.reduceEqDiff, Nat.ble, BEq.rfl, Bool.and_true, Bool.and_self, cond_true, beq_self_eq_true]; rfl)) ?_)
    clear hh w; intro w hh
    refine w_nil ?_
    have hl2 := hl.add (t := 1) (hl.add (t := 2) (hl.add (t := 6) (hl.add (t := 7) (hl.add (t := 8) (hl.add (t := 9) (hl.add (t := 12) (hl.add (t := 13) (hl.add (t := 14) (hl.nil) rfl) rfl) rfl) rfl) rfl) rfl) rfl) rfl) rfl; clear hl; have hl := hl2; clear hl2
    refine then_normal ?_
    refine c_seq ?_
    refine c_region ?_
    refine wl (wl_val hl rfl trivial (r_field hl rfl fld103_0) ?_)
    clear hl a; intro a hl
    refine wl (w_load hl hh rfl trivial one3 rfl (by repeat (first | exact find_head | apply find_tail)) (by first | rfl) ?_)
    clear hl a; intro a hl
    refine wl (wl_val hl rfl trivial (r_indexA hl rfl rfl arr29 (by omega) (by omega) (by first | (simp only [Int.reduceToNat]; rfl) | exact toNat_add1 _ | exact toNat_add2 _ _ | exact toNat_emod _ _ | exact Int.toNat_natCast _ | rfl)) ?_)
    clear hl a; intro a hl
    refine wl (w_load hl hh rfl trivial one27 rfl (by repeat (first | exact find_head | apply find_tail)) (by exact get6 het) ?_)
    clear hl a; intro a hl
    refine wl (wl_val hl rfl trivial (r_assign hl rfl) ?_)
    clear hl a; intro a hl
    refine w_nil ?_
    have hl2 := hl.add (t := 1) (hl.add (t := 2) (hl.add (t := 6) (hl.add (t := 7) (hl.add (t := 8) (hl.add (t := 9) (hl.add (t := 10) (hl.add (t := 12) (hl.add (t := 13) (hl.add (t := 14) (hl.nil) rfl) rfl) rfl) rfl) rfl) rfl) rfl) rfl) rfl) rfl; clear hl; have hl := hl2; clear hl2
    refine then_normal ?_
    refine wp_block ?_
    refine c_seq ?_
    refine c_region ?_
    refine wl (wl_val hl rfl trivial (r_field hl rfl fld103_2) ?_)
    clear hl a; intro a hl
    refine wl (wl_val hl rfl trivial (r_field hl rfl fld60_0) ?_)
    clear hl a; intro a hl
    refine wl (w_load hl hh rfl trivial one35 rfl (by repeat (first | exact find_head | apply find_tail)) (by first | rfl) ?_)
    clear hl a; intro a hl
    refine wl (wl_val hl rfl trivial (r_move hl rfl) ?_)
    clear hl a; intro a hl
    refine wl (wl_val hl rfl trivial (r_lss hl rfl rfl) ?_)
    clear hl a; intro a hl
    refine wl (wl_val hl rfl trivial (r_move hl rfl) ?_)
    clear hl a; intro a hl
    refine sl_split (t := 46) hl rfl ?_ ?_
    · intro hg1; clear hl; intro hl
      try simp only [decide_eq_true_eq, decide_eq_false_iff_not, Bool.not_eq_true', Bool.not_eq_false', Bool.not_eq_true, Bool.not_eq_false, Bool.and_eq_true, Bool.or_eq_true, Bool.and_eq_false_iff, Bool.or_eq_false_iff, Bool.not_not, ne_eq, Int.not_lt, Int.not_le, Decidable.not_not, beq_iff_eq, bne_iff_ne] at hg1
      refine wl (wl_skip hl rfl ⟨_, _, rfl, rfl, rfl⟩ ?_)
      clear hl a; intro a hl
      refine wl (wl_skip hl rfl ⟨_, _, rfl, rfl, rfl⟩ ?_)
      clear hl a; intro a hl
      refine wl (wl_skip hl rfl ⟨_, _, rfl, rfl, rfl⟩ ?_)
      clear hl a; intro a hl
      refine wl (wl_skip hl rfl ⟨_, _, rfl, rfl, rfl⟩ ?_)
      clear hl a; intro a hl
      refine wl (wl_skip hl rfl ⟨_, _, rfl, rfl, rfl⟩ ?_)
      clear hl a; intro a hl
      refine wl (wl_val hl rfl trivial (r_pickT hl rfl rfl) ?_)
      clear hl a; intro a hl
      refine wl (wl_val hl rfl trivial (r_assign hl rfl) ?_)
      clear hl a; intro a hl
      refine w_nil ?_
      have hl2 := hl.add (t := 1) (hl.add (t := 2) (hl.add (t := 6) (hl.add (t := 7) (hl.add (t := 8) (hl.add (t := 9) (hl.add (t := 10) (hl.add (t := 12) (hl.add (t := 13) (hl.add (t := 14) (hl.add (t := 40) (hl.nil) rfl) rfl) rfl) rfl) rfl) rfl) rfl) rfl) rfl) rfl) rfl; clear hl; have hl := hl2; clear hl2
      refine then_normal ?_
      refine c_condT hl rfl ?_
      have hN1 : HR sv (hist k (log.take (i + 1))) ES := by
        rw [hst]; unfold hStep
        rw [if_neg (by rw [inK_lohi]; show ¬ (loK k ≤ eck ∧ eck ≤ hiK k); omega)]; exact hHR
      refine wp_skip ?_
      refine blk_normal ?_
      refine blk_normal ?_
      refine then_normal ?_
      refine c_region ?_
      first | refine wl (wl_val hl rfl trivial (r_add hl rfl rfl (by simp only [Fits]; omega)) ?_) | refine wl (wl_val hl rfl trivial (r_addW hl rfl rfl) ?_)
      clear hl a; intro a hl
      refine wl (wl_val hl rfl trivial (r_move hl rfl) ?_)
      clear hl a; intro a hl
      refine w_nil ?_
      have hl2 := hl.add (t := 1) (hl.add (t := 2) (hl.add (t := 6) (hl.add (t := 7) (hl.add (t := 12) (hl.add (t := 13) (hl.add (t := 14) (hl.nil) rfl) rfl) rfl) rfl) rfl) rfl) rfl; clear hl; have hl := hl2; clear hl2
      refine then_normal ?_
      first | refine ⟨⟨i + 1, sv, ES⟩, (by simp only; omega), ⟨by simp only; omega, hN1⟩, hl.addE (t := 14) (hl.addE (t := 1) (hl.addE (t := 2) (hl.addE (t := 6) (hl.addE (t := 7) (hl.addE (t := 12) (hl.addE (t := 13) (hl.nil) rfl (by first | rfl | exact congrArg (Value.int .i64) (i_succ i))) rfl (by first | rfl | exact congrArg (Value.int .i64) (i_succ i))) rfl (by first | rfl | exact congrArg (Value.int .i64) (i_succ i))) rfl (by first | rfl | exact congrArg (Value.int .i64) (i_succ i))) rfl (by first | rfl | exact congrArg (Value.int .i64) (i_succ i))) rfl (by first | rfl | exact congrArg (Value.int .i64) (i_succ i))) rfl (by first | rfl | exact congrArg (Value.int .i64) (i_succ i)), hh.keep (by repeat (first | exact keeps_nil | apply keeps_cons (by repeat (first | exact find_head | apply find_tail)) (by first  | rfl) | exact keeps_self | exact keeps_left | exact keeps_right | exact keeps_swap | apply keeps_mv))⟩ | refine ⟨⟨i + 1, updV sv et rv2, updF ES et E2⟩, (by simp only; omega), ⟨by simp only; omega, hN2⟩, hl.addE (t := 14) (hl.addE (t := 1) (hl.addE (t := 2) (hl.addE (t := 6) (hl.addE (t := 7) (hl.addE (t := 12) (hl.addE (t := 13) (hl.nil) rfl (by first | rfl | exact congrArg (Value.int .i64) (i_succ i))) rfl (by first | rfl | exact congrArg (Value.int .i64) (i_succ i))) rfl (by first | rfl | exact congrArg (Value.int .i64) (i_succ i))) rfl (by first | rfl | exact congrArg (Value.int .i64) (i_succ i))) rfl (by first | rfl | exact congrArg (Value.int .i64) (i_succ i))) rfl (by first | rfl | exact congrArg (Value.int .i64) (i_succ i))) rfl (by first | rfl | exact congrArg (Value.int .i64) (i_succ i)), hh.keep (by repeat (first | exact keeps_nil | apply keeps_cons (by repeat (first | exact find_head | apply find_tail)) (by first  | rfl) | exact keeps_self | exact keeps_left | exact keeps_right | exact keeps_swap | apply keeps_mv))⟩ | refine ⟨⟨i + 1, sv, updF ES et [(b9, C (fl recL (B ++ [{ { { r with ra := era, rv := erv, rp := erp } with ret := true } with fn := i }]) ++ junk9) 95)]⟩, (by simp only; omega), ⟨by simp only; omega, hN3⟩, hl.addE (t := 14) (hl.addE (t := 1) (hl.addE (t := 2) (hl.addE (t := 6) (hl.addE (t := 7) (hl.addE (t := 12) (hl.addE (t := 13) (hl.nil) rfl (by first | rfl | exact congrArg (Value.int .i64) (i_succ i))) rfl (by first | rfl | exact congrArg (Value.int .i64) (i_succ i))) rfl (by first | rfl | exact congrArg (Value.int .i64) (i_succ i))) rfl (by first | rfl | exact congrArg (Value.int .i64) (i_succ i))) rfl (by first | rfl | exact congrArg (Value.int .i64) (i_succ i))) rfl (by first | rfl | exact congrArg (Value.int .i64) (i_succ i))) rfl (by first | rfl | exact congrArg (Value.int .i64) (i_succ i)), hh.keep (by repeat (first | exact keeps_nil | apply keeps_cons (by repeat (first | exact find_head | apply find_tail)) (by first  | rfl) | exact keeps_self | exact keeps_left | exact keeps_right | exact keeps_swap | apply keeps_mv))⟩
    · intro hg1; clear hl; intro hl
      try simp only [decide_eq_true_eq, decide_eq_false_iff_not, Bool.not_eq_true', Bool.not_eq_false', Bool.not_eq_true, Bool.not_eq_false, Bool.and_eq_true, Bool.or_eq_true, Bool.and_eq_false_iff, Bool.or_eq_false_iff, Bool.not_not, ne_eq, Int.not_lt, Int.not_le, Decidable.not_not, beq_iff_eq, bne_iff_ne] at hg1
      refine wl (wl_val hl rfl ⟨_, _, rfl, rfl, rfl⟩ (r_field hl rfl fld103_2) ?_)
      clear hl a; intro a hl
      refine wl (wl_val hl rfl ⟨_, _, rfl, rfl, rfl⟩ (r_field hl rfl fld60_0) ?_)
      clear hl a; intro a hl
      refine wl (w_load hl hh rfl ⟨_, _, rfl, rfl, rfl⟩ one35 rfl (by repeat (first | exact find_head | apply find_tail)) (by first | rfl) ?_)
      clear hl a; intro a hl
      refine wl (wl_val hl rfl ⟨_, _, rfl, rfl, rfl⟩ (r_move hl rfl) ?_)
      clear hl a; intro a hl
      refine wl (wl_val hl rfl ⟨_, _, rfl, rfl, rfl⟩ (r_gtr hl rfl rfl) ?_)
      clear hl a; intro a hl
      refine wl (wl_val hl rfl trivial (r_pickF hl rfl rfl) ?_)
      clear hl a; intro a hl
      refine wl (wl_val hl rfl trivial (r_assign hl rfl) ?_)
      clear hl a; intro a hl
      refine w_nil ?_
      have hl2 := hl.add (t := 1) (hl.add (t := 2) (hl.add (t := 6) (hl.add (t := 7) (hl.add (t := 8) (hl.add (t := 9) (hl.add (t := 10) (hl.add (t := 12) (hl.add (t := 13) (hl.add (t := 14) (hl.add (t := 40) (hl.nil) rfl) rfl) rfl) rfl) rfl) rfl) rfl) rfl) rfl) rfl) rfl; clear hl; have hl := hl2; clear hl2
      refine then_normal ?_
      refine c_cond hl rfl ?_ ?_
      · intro hc1
        try simp only [decide_eq_true_eq, decide_eq_false_iff_not, Bool.not_eq_true', Bool.not_eq_false', Bool.not_eq_true, Bool.not_eq_false, Bool.and_eq_true, Bool.or_eq_true, Bool.and_eq_false_iff, Bool.or_eq_false_iff, Bool.not_not, ne_eq, Int.not_lt, Int.not_le, Decidable.not_not, beq_iff_eq, bne_iff_ne] at hc1
        have hN1 : HR sv (hist k (log.take (i + 1))) ES := by
          rw [hst]; unfold hStep
          rw [if_neg (by rw [inK_lohi]; show ¬ (loK k ≤ eck ∧ eck ≤ hiK k); omega)]; exact hHR
        refine wp_skip ?_
        refine blk_normal ?_
        refine blk_normal ?_
        refine then_normal ?_
        refine c_region ?_
        first | refine wl (wl_val hl rfl trivial (r_add hl rfl rfl (by simp only [Fits]; omega)) ?_) | refine wl (wl_val hl rfl trivial (r_addW hl rfl rfl) ?_)
        clear hl a; intro a hl
        refine wl (wl_val hl rfl trivial (r_move hl rfl) ?_)
        clear hl a; intro a hl
        refine w_nil ?_
        have hl2 := hl.add (t := 1) (hl.add (t := 2) (hl.add (t := 6) (hl.add (t := 7) (hl.add (t := 12) (hl.add (t := 13) (hl.add (t := 14) (hl.nil) rfl) rfl) rfl) rfl) rfl) rfl) rfl; clear hl; have hl := hl2; clear hl2
        refine then_normal ?_
        first | refine ⟨⟨i + 1, sv, ES⟩, (by simp only; omega), ⟨by simp only; omega, hN1⟩, hl.addE (t := 14) (hl.addE (t := 1) (hl.addE (t := 2) (hl.addE (t := 6) (hl.addE (t := 7) (hl.addE (t := 12) (hl.addE (t := 13) (hl.nil) rfl (by first | rfl | exact congrArg (Value.int .i64) (i_succ i))) rfl (by first | rfl | exact congrArg (Value.int .i64) (i_succ i))) rfl (by first | rfl | exact congrArg (Value.int .i64) (i_succ i))) rfl (by first | rfl | exact congrArg (Value.int .i64) (i_succ i))) rfl (by first | rfl | exact congrArg (Value.int .i64) (i_succ i))) rfl (by first | rfl | exact congrArg (Value.int .i64) (i_succ i))) rfl (by first | rfl | exact congrArg (Value.int .i64) (i_succ i)), hh.keep (by repeat (first | exact keeps_nil | apply keeps_cons (by repeat (first | exact find_head | apply find_tail)) (by first  | rfl) | exact keeps_self | exact keeps_left | exact keeps_right | exact keeps_swap | apply keeps_mv))⟩ | refine ⟨⟨i + 1, updV sv et rv2, updF ES et E2⟩, (by simp only; omega), ⟨by simp only; omega, hN2⟩, hl.addE (t := 14) (hl.addE (t := 1) (hl.addE (t := 2) (hl.addE (t := 6) (hl.addE (t := 7) (hl.addE (t := 12) (hl.addE (t := 13) (hl.nil) rfl (by first | rfl | exact congrArg (Value.int .i64) (i_succ i))) rfl (by first | rfl | exact congrArg (Value.int .i64) (i_succ i))) rfl (by first | rfl | exact congrArg (Value.int .i64) (i_succ i))) rfl (by first | rfl | exact congrArg (Value.int .i64) (i_succ i))) rfl (by first | rfl | exact congrArg (Value.int .i64) (i_succ i))) rfl (by first | rfl | exact congrArg (Value.int .i64) (i_succ i))) rfl (by first | rfl | exact congrArg (Value.int .i64) (i_succ i)), hh.keep (by repeat (first | exact keeps_nil | apply keeps_cons (by repeat (first | exact find_head | apply find_tail)) (by first  | rfl) | exact keeps_self | exact keeps_left | exact keeps_right | exact keeps_swap | apply keeps_mv))⟩ | refine ⟨⟨i + 1, sv, updF ES et [(b9, C (fl recL (B ++ [{ { { r with ra := era, rv := erv, rp := erp } with ret := true } with fn := i }]) ++ junk9) 95)]⟩, (by simp only; omega), ⟨by simp only; omega, hN3⟩, hl.addE (t := 14) (hl.addE (t := 1) (hl.addE (t := 2) (hl.addE (t := 6) (hl.addE (t := 7) (hl.addE (t := 12) (hl.addE (t := 13) (hl.nil) rfl (by first | rfl | exact congrArg (Value.int .i64) (i_succ i))) rfl (by first | rfl | exact congrArg (Value.int .i64) (i_succ i))) rfl (by first | rfl | exact congrArg (Value.int .i64) (i_succ i))) rfl (by first | rfl | exact congrArg (Value.int .i64) (i_succ i))) rfl (by first | rfl | exact congrArg (Value.int .i64) (i_succ i))) rfl (by first | rfl | exact congrArg (Value.int .i64) (i_succ i))) rfl (by first | rfl | exact congrArg (Value.int .i64) (i_succ i)), hh.keep (by repeat (first | exact keeps_nil | apply keeps_cons (by repeat (first | exact find_head | apply find_tail)) (by first  | rfl) | exact keeps_self | exact keeps_left | exact keeps_right | exact keeps_swap | apply keeps_mv))⟩
      · intro hc1
        try simp only [decide_eq_true_eq, decide_eq_false_iff_not, Bool.not_eq_true', Bool.not_eq_false', Bool.not_eq_true, Bool.not_eq_false, Bool.and_eq_true, Bool.or_eq_true, Bool.and_eq_false_iff, Bool.or_eq_false_iff, Bool.not_not, ne_eq, Int.not_lt, Int.not_le, Decidable.not_not, beq_iff_eq, bne_iff_ne] at hc1
        have hin : inK k eck := inK_lohi.2 ⟨by omega, by omega⟩
        refine c_seq ?_
        refine c_region ?_
        refine wl (wl_val hl rfl trivial (r_field hl rfl fld103_1) ?_)
        clear hl a; intro a hl
        refine wl (w_load hl hh rfl trivial one4 rfl (by repeat (first | exact find_head | apply find_tail)) (by first | rfl) ?_)
        clear hl a; intro a hl
        refine wl (wl_val hl rfl trivial (r_not hl rfl) ?_)
        clear hl a; intro a hl
        refine wl (wl_val hl rfl trivial (r_assign hl rfl) ?_)
        clear hl a; intro a hl
        refine w_nil ?_
        have hl2 := hl.add (t := 1) (hl.add (t := 2) (hl.add (t := 6) (hl.add (t := 7) (hl.add (t := 8) (hl.add (t := 9) (hl.add (t := 10) (hl.add (t := 12) (hl.add (t := 13) (hl.add (t := 14) (hl.add (t := 53) (hl.nil) rfl) rfl) rfl) rfl) rfl) rfl) rfl) rfl) rfl) rfl) rfl; clear hl; have hl := hl2; clear hl2
        refine then_normal ?_
        refine c_cond hl rfl ?_ ?_
        · intro hc2
          try simp only [decide_eq_true_eq, decide_eq_false_iff_not, Bool.not_eq_true', Bool.not_eq_false', Bool.not_eq_true, Bool.not_eq_false, Bool.and_eq_true, Bool.or_eq_true, Bool.and_eq_false_iff, Bool.or_eq_false_iff, Bool.not_not, ne_eq, Int.not_lt, Int.not_le, Decidable.not_not, beq_iff_eq, bne_iff_ne] at hc2
          refine c_draw [(k9, C [.int .i64 (et : Int), .bool er, .int .u8 eck, .int .u64 ecv, .int .u64 ecp, .int .u8 era, .int .u64 erv, .int .u64 erp] 103)] [9, 10] mixed hh ?_
          clear hh w; intro w hh
          have hM : Mem [(k9, C [.int .i64 (et : Int), .bool er, .int .u8 eck, .int .u64 ecv, .int .u64 ecp, .int .u8 era, .int .u64 erv, .int .u64 erp] 103)] w := (by (repeat (first | exact Mem.nil | refine Mem.cons hh.mem (by (repeat (first | exact find_head | apply find_tail)); done) ?_ | refine Mem.consR hh (by assumption) (by simp) ?_ | fail)); done)
          refine d_take (i := 0) hl rfl (by kernel_rfl) (by kernel_rfl) (by kernel_rfl) (by kernel_rfl) (by kernel_rfl) rfl trivial (fun _ _ _ h => h) hM (fun w hC => r_field hl rfl fld103_0) rfl ?_
          clear hl a; intro a hl
          refine d_take (i := 1) hl rfl (by kernel_rfl) (by kernel_rfl) (by kernel_rfl) (by kernel_rfl) (by kernel_rfl) rfl trivial (fun _ _ _ h => h) hM (fun w hC => r_loadC hl rfl one3 hC (by repeat (first | exact find_head | apply find_tail)) (by first | rfl)) rfl ?_
          clear hl a; intro a hl
          refine d_take (i := 2) hl rfl (by kernel_rfl) (by kernel_rfl) (by kernel_rfl) (by kernel_rfl) (by kernel_rfl) rfl trivial (fun _ _ _ h => h) hM (fun w hC => r_move hl rfl) rfl ?_
          clear hl a; intro a hl
          refine d_take (i := 3) hl rfl (by kernel_rfl) (by kernel_rfl) (by kernel_rfl) (by kernel_rfl) (by kernel_rfl) rfl trivial (fun _ _ _ h => h) hM (fun w hC => r_field hl rfl fld103_2) rfl ?_
          clear hl a; intro a hl
          refine d_take (i := 4) hl rfl (by kernel_rfl) (by kernel_rfl) (by kernel_rfl) (by kernel_rfl) (by kernel_rfl) rfl trivial (fun _ _ _ h => h) hM (fun w hC => r_loadCA hl rfl agg60 hC (by repeat (first | exact find_head | apply find_tail)) (by first | (simp only [List.getElem?_cons_zero, List.getElem?_cons_succ, Value.cells, List.take_zero, List.take_succ_cons, List.take_nil, List.drop_zero, List.drop_succ_cons, List.drop_nil, List.length_cons, List.length_nil, List.cons_append, List.nil_append, List.append_nil, Nat.zero_add, Nat.add_zero, Nat.reduceAdd, Nat.reduceBEq, Nat.reduceEqDiff, Nat.ble, BEq.rfl, Bool.and_true, Bool.and_self, cond_true, beq_self_eq_true]; rfl)) (by first | rfl | (simp; done))) rfl ?_
          clear hl a; intro a hl
          refine d_take (i := 5) hl rfl (by kernel_rfl) (by kernel_rfl) (by kernel_rfl) (by kernel_rfl) (by kernel_rfl) rfl trivial (fun _ _ _ h => h) hM (fun w hC => r_move hl rfl) rfl ?_
          clear hl a; intro a hl
          refine d_take (i := 6) hl rfl (by kernel_rfl) (by kernel_rfl) (by kernel_rfl) (by kernel_rfl) (by kernel_rfl) rfl trivial (fun _ _ _ h => h) hM (fun w hC => r_build hl rfl zero95 bld95 (by simp only [fillL, setL, List.getElem?_cons_zero, List.getElem?_cons_succ, Value.cells, List.take_zero, List.take_succ_cons, List.take_nil, List.drop_zero, List.drop_succ_cons, List.drop_nil, List.length_cons, List.length_nil, List.cons_append, List.nil_append, List.append_nil, Nat.zero_add, Nat.add_zero, Nat.reduceAdd, Nat.reduceBEq, Nat.reduceEqDiff, Nat.ble, BEq.rfl, Bool.and_true, Bool.and_self, cond_true, beq_self_eq_true]; rfl)) rfl ?_
          clear hl a; intro a hl
          refine d_one (i := 7) (by kernel_rfl) rfl ?_
          try clear hM
          refine id (w_buildSlice hl hh rfl trivial app27 zero95 rfl rfl rfl rfl rfl (by simp only [fillL, arrPl, List.range_succ, List.range_zero, List.map_cons, List.map_nil, List.map_append, List.nil_append, List.replicate_succ, List.replicate_zero, List.flatten_cons, List.flatten_nil, Nat.zero_mul, Nat.mul_one, Nat.one_mul, Nat.reduceMul, setL, List.getElem?_cons_zero, List.getElem?_cons_succ, Value.cells, List.take_zero, List.take_succ_cons, List.take_nil, List.drop_zero, List.drop_succ_cons, List.drop_nil, List.length_cons, List.length_nil, List.cons_append, List.nil_append, List.append_nil, Nat.zero_add, Nat.add_zero, Nat.reduceAdd, Nat.reduceBEq, Nat.reduceEqDiff, Nat.ble, BEq.rfl, Bool.and_true, Bool.and_self, cond_true, beq_self_eq_true]; rfl) ?_)
          clear hl hh a w; intro k64 a w hl hh
          have hM : Mem [(k9, C [.int .i64 (et : Int), .bool er, .int .u8 eck, .int .u64 ecv, .int .u64 ecp, .int .u8 era, .int .u64 erv, .int .u64 erp] 103)] w := (by (repeat (first | exact Mem.nil | refine Mem.cons hh.mem (by (repeat (first | exact find_head | apply find_tail)); done) ?_ | refine Mem.consR hh (by assumption) (by simp) ?_ | fail)); done)
          refine d_step (fun _ => hM) ?_
          refine d_one (i := 8) (by kernel_rfl) rfl ?_
          try clear hM
          refine id (w_append (news := [.int .u8 eck, .int .u64 ecv, .int .u64 ecp, .int .u8 0, .int .u64 0, .int .u64 0, .bool false, .int .i64 (i : Int), .int .i64 9223372036854775807]) hl hh rfl trivial app27 rfl rfl rfl (hHR et het) (by repeat (first | exact keeps_cat het | apply keeps_mv)) (hh.mem _ _ (Find.mem (by repeat (first | exact find_head | apply find_tail)))) rfl rfl rfl (by omega) (by omega) (by omega) (by decide) ?_)
          clear hl hh a w; intro rv2 E2 a w hR2 hl hh
          have hh3 := hh.comm; clear hh; have hh := hh3; clear hh3
          simp only [List.cons_append, List.nil_append] at hh
          have hM : Mem [(k9, C [.int .i64 (et : Int), .bool er, .int .u8 eck, .int .u64 ecv, .int .u64 ecp, .int .u8 era, .int .u64 erv, .int .u64 erp] 103)] w := (by (repeat (first | exact Mem.nil | refine Mem.cons hh.mem (by (repeat (first | exact find_head | apply find_tail)); done) ?_ | refine Mem.consR hh (by assumption) (by simp) ?_ | fail)); done)
          refine d_step (fun _ => hM) ?_
          refine d_takeL (i := 9) hl rfl (by kernel_rfl) (by kernel_rfl) (by kernel_rfl) (by kernel_rfl) (by kernel_rfl) rfl trivial (fun _ _ _ h => h) (fun w => r_indexA hl rfl rfl arr29 (by omega) (by omega) (by first | (simp only [Int.reduceToNat]; rfl) | exact toNat_add1 _ | exact toNat_add2 _ _ | exact toNat_emod _ _ | exact Int.toNat_natCast _ | rfl)) rfl ?_
          clear hl a; intro a hl
          refine d_one (i := 10) (by kernel_rfl) rfl ?_
          try clear hM
          refine id (w_store hl hh trivial one27 rfl rfl (by repeat (first | exact find_head | apply find_tail)) (by rw [arrL_length]; simp; omega) (by first | rfl | assumption | (apply Row.one; assumption)) (by exact arr_store het) ?_)
          clear hh w; intro w hh
          refine d_step (fun h => absurd h (by decide)) ?_
          refine d_done (by kernel_rfl) ?_
          try clear hM
          have hl2 := hl.add (t := 1) (hl.add (t := 2) (hl.add (t := 6) (hl.add (t := 7) (hl.add (t := 12) (hl.add (t := 13) (hl.add (t := 14) (hl.nil) rfl) rfl) rfl) rfl) rfl) rfl) rfl; clear hl; have hl := hl2; clear hl2
          replace hh := has_cat (A := [_, _, _, _]) het hh
          simp only [List.cons_append, List.nil_append] at hh
          subst hc2
          have hN2 := hHR.app hst hin hR2
          refine blk_normal ?_
          refine blk_normal ?_
          refine then_normal ?_
          refine c_region ?_
          first | refine wl (wl_val hl rfl trivial (r_add hl rfl rfl (by simp only [Fits]; omega)) ?_) | refine wl (wl_val hl rfl trivial (r_addW hl rfl rfl) ?_)
          clear hl a; intro a hl
          refine wl (wl_val hl rfl trivial (r_move hl rfl) ?_)
          clear hl a; intro a hl
          refine w_nil ?_
          have hl2 := hl.add (t := 1) (hl.add (t := 2) (hl.add (t := 6) (hl.add (t := 7) (hl.add (t := 12) (hl.add (t := 13) (hl.add (t := 14) (hl.nil) rfl) rfl) rfl) rfl) rfl) rfl) rfl; clear hl; have hl := hl2; clear hl2
          refine then_normal ?_
          first | refine ⟨⟨i + 1, sv, ES⟩, (by simp only; omega), ⟨by simp only; omega, hN1⟩, hl.addE (t := 14) (hl.addE (t := 1) (hl.addE (t := 2) (hl.addE (t := 6) (hl.addE (t := 7) (hl.addE (t := 12) (hl.addE (t := 13) (hl.nil) rfl (by first | rfl | exact congrArg (Value.int .i64) (i_succ i))) rfl (by first | rfl | exact congrArg (Value.int .i64) (i_succ i))) rfl (by first | rfl | exact congrArg (Value.int .i64) (i_succ i))) rfl (by first | rfl | exact congrArg (Value.int .i64) (i_succ i))) rfl (by first | rfl | exact congrArg (Value.int .i64) (i_succ i))) rfl (by first | rfl | exact congrArg (Value.int .i64) (i_succ i))) rfl (by first | rfl | exact congrArg (Value.int .i64) (i_succ i)), hh.keep (by repeat (first | exact keeps_nil | apply keeps_cons (by repeat (first | exact find_head | apply find_tail)) (by first  | rfl) | exact keeps_self | exact keeps_left | exact keeps_right | exact keeps_swap | apply keeps_mv))⟩ | refine ⟨⟨i + 1, updV sv et rv2, updF ES et E2⟩, (by simp only; omega), ⟨by simp only; omega, hN2⟩, hl.addE (t := 14) (hl.addE (t := 1) (hl.addE (t := 2) (hl.addE (t := 6) (hl.addE (t := 7) (hl.addE (t := 12) (hl.addE (t := 13) (hl.nil) rfl (by first | rfl | exact congrArg (Value.int .i64) (i_succ i))) rfl (by first | rfl | exact congrArg (Value.int .i64) (i_succ i))) rfl (by first | rfl | exact congrArg (Value.int .i64) (i_succ i))) rfl (by first | rfl | exact congrArg (Value.int .i64) (i_succ i))) rfl (by first | rfl | exact congrArg (Value.int .i64) (i_succ i))) rfl (by first | rfl | exact congrArg (Value.int .i64) (i_succ i))) rfl (by first | rfl | exact congrArg (Value.int .i64) (i_succ i)), hh.keep (by repeat (first | exact keeps_nil | apply keeps_cons (by repeat (first | exact find_head | apply find_tail)) (by first  | rfl) | exact keeps_self | exact keeps_left | exact keeps_right | exact keeps_swap | apply keeps_mv))⟩ | refine ⟨⟨i + 1, sv, updF ES et [(b9, C (fl recL (B ++ [{ { { r with ra := era, rv := erv, rp := erp } with ret := true } with fn := i }]) ++ junk9) 95)]⟩, (by simp only; omega), ⟨by simp only; omega, hN3⟩, hl.addE (t := 14) (hl.addE (t := 1) (hl.addE (t := 2) (hl.addE (t := 6) (hl.addE (t := 7) (hl.addE (t := 12) (hl.addE (t := 13) (hl.nil) rfl (by first | rfl | exact congrArg (Value.int .i64) (i_succ i))) rfl (by first | rfl | exact congrArg (Value.int .i64) (i_succ i))) rfl (by first | rfl | exact congrArg (Value.int .i64) (i_succ i))) rfl (by first | rfl | exact congrArg (Value.int .i64) (i_succ i))) rfl (by first | rfl | exact congrArg (Value.int .i64) (i_succ i))) rfl (by first | rfl | exact congrArg (Value.int .i64) (i_succ i))) rfl (by first | rfl | exact congrArg (Value.int .i64) (i_succ i)), hh.keep (by repeat (first | exact keeps_nil | apply keeps_cons (by repeat (first | exact find_head | apply find_tail)) (by first  | rfl) | exact keeps_self | exact keeps_left | exact keeps_right | exact keeps_swap | apply keeps_mv))⟩
        · intro hc2
          try simp only [decide_eq_true_eq, decide_eq_false_iff_not, Bool.not_eq_true', Bool.not_eq_false', Bool.not_eq_true, Bool.not_eq_false, Bool.and_eq_true, Bool.or_eq_true, Bool.and_eq_false_iff, Bool.or_eq_false_iff, Bool.not_not, ne_eq, Int.not_lt, Int.not_le, Decidable.not_not, beq_iff_eq, bne_iff_ne] at hc2
          subst hc2
          obtain ⟨B, r, hB⟩ : ∃ B r, hist k (log.take i) et = B ++ [r] := ⟨_, _, (List.dropLast_concat_getLast (heo.ret rfl k hin)).symm⟩
          have hrow := hHR et het
          rw [hB] at hrow
          obtain ⟨b9, cap9, junk9, hsv, hjl9, hcc8, hES⟩ := row_blk3 hrow (by simp)
          rw [show (B ++ [r]).length = B.length + 1 by simp] at hsv hcc8
          have hBl : B.length + 1 ≤ 1000100 := by rw [hB] at hcl; simpa using hcl
          have hJ : (fl recL (B ++ [r]) ++ junk9).length = (B.length + 1) * 9 + junk9.length := by rw [List.length_append, fl_len recL_len]; simp
          rw [hsv] at hl
          replace hh := has_uncat (A := [_, _, _]) het hh
          rw [hES] at hh
          simp only [List.cons_append, List.nil_append] at hh
          refine c_seq ?_
          refine c_region ?_
          refine wl (wl_val hl rfl trivial (r_move hl rfl) ?_)
          clear hl a; intro a hl
          refine wl (wl_val hl rfl trivial (r_move hl rfl) ?_)
          clear hl a; intro a hl
          refine wl (wl_val hl rfl trivial (r_lenS hl rfl slc27) ?_)
          clear hl a; intro a hl
          first | refine wl (wl_val hl rfl trivial (r_sub hl rfl rfl (by simp only [Fits]; omega)) ?_) | refine wl (wl_val hl rfl trivial (r_subW hl rfl rfl) ?_)
          clear hl a; intro a hl
          rw [show (((B.length + 1 : Nat) : Int) - 1) = ((B.length : Nat) : Int) by omega] at hl
          refine wl (wl_val hl rfl trivial (r_indexS hl rfl rfl slc27 (by omega) (by omega) (by first | (simp only [Int.reduceToNat]; rfl) | exact toNat_add1 _ | exact toNat_add2 _ _ | exact toNat_emod _ _ | exact Int.toNat_natCast _ | rfl)) ?_)
          clear hl a; intro a hl
          refine wl (wl_val hl rfl trivial (r_assign hl rfl) ?_)
          clear hl a; intro a hl
          refine w_nil ?_
          have hl2 := hl.add (t := 1) (hl.add (t := 2) (hl.add (t := 6) (hl.add (t := 7) (hl.add (t := 8) (hl.add (t := 9) (hl.add (t := 11) (hl.add (t := 12) (hl.add (t := 13) (hl.add (t := 14) (hl.nil) rfl) rfl) rfl) rfl) rfl) rfl) rfl) rfl) rfl) rfl; clear hl; have hl := hl2; clear hl2
          refine then_normal ?_
          refine c_region ?_
          refine wl (wl_val hl rfl trivial (r_move hl rfl) ?_)
          clear hl a; intro a hl
          refine wl (wl_val hl rfl trivial (r_move hl rfl) ?_)
          clear hl a; intro a hl
          refine wl (wl_val hl rfl trivial (r_move hl rfl) ?_)
          clear hl a; intro a hl
          refine wl (wl_val hl rfl trivial (r_field hl rfl fld103_3) ?_)
          clear hl a; intro a hl
          first | refine wl (w_loadA hl hh rfl trivial agg39 rfl (by repeat (first | exact find_head | apply find_tail)) (by first | (simp only [List.getElem?_cons_zero, List.getElem?_cons_succ, Value.cells, List.take_zero, List.take_succ_cons, List.take_nil, List.drop_zero, List.drop_succ_cons, List.drop_nil, List.length_cons, List.length_nil, List.cons_append, List.nil_append, List.append_nil, Nat.zero_add, Nat.add_zero, Nat.reduceAdd, Nat.reduceBEq, Nat.reduceEqDiff, Nat.ble, BEq.rfl, Bool.and_true, Bool.and_self, cond_true, beq_self_eq_true]; rfl)) (by first | rfl | (simp; done)) ?_) | refine wl (w_loadRA hl hh rfl trivial agg39 rfl hm (by simp) hev rfl ?_)
          clear hl a; intro a hl
          refine wl (wl_val hl rfl trivial (r_move hl rfl) ?_)
          clear hl a; intro a hl
          refine wl (wl_val hl rfl trivial (r_nilCheck hl rfl) ?_)
          clear hl a; intro a hl
          refine wl (wl_val hl rfl trivial (r_field hl rfl fld95_1) ?_)
          clear hl a; intro a hl
          refine wl (w_storeA hl hh trivial agg39 rfl rfl (by repeat (first | exact find_head | apply find_tail)) (by first | rfl | (simp; done)) (by first | (simp; done) | (simp; omega) | (rw [List.length_append, fl_len recL_len, List.length_append, List.length_singleton]; omega)) (by first | rfl | (simp; done)) (by exact rec_set3 _ _ _ _ _ _) ?_)
          clear hh w; intro w hh
          refine wl (wl_val hl rfl trivial (r_nilCheck hl rfl) ?_)
          clear hl a; intro a hl
          refine wl (wl_val hl rfl trivial (r_field hl rfl fld95_2) ?_)
          clear hl a; intro a hl
          refine wl (w_store hl hh trivial one4 rfl rfl (by repeat (first | exact find_head | apply find_tail)) (by first | (simp; done) | (simp; omega) | (rw [List.length_append, fl_len recL_len, List.length_append, List.length_singleton]; omega)) (by first | rfl | assumption | (apply Row.one; assumption)) (by exact rec_set6 _ _ _ _) ?_)
          clear hh w; intro w hh
          refine wl (wl_val hl rfl trivial (r_nilCheck hl rfl) ?_)
          clear hl a; intro a hl
          refine wl (wl_val hl rfl trivial (r_field hl rfl fld95_4) ?_)
          clear hl a; intro a hl
          refine wl (w_store hl hh trivial one3 rfl rfl (by repeat (first | exact find_head | apply find_tail)) (by first | (simp; done) | (simp; omega) | (rw [List.length_append, fl_len recL_len, List.length_append, List.length_singleton]; omega)) (by first | rfl | assumption | (apply Row.one; assumption)) (by exact rec_set8 _ _ _ _) ?_)
          clear hh w; intro w hh
          refine w_nil ?_
          have hl2 := hl.add (t := 1) (hl.add (t := 2) (hl.add (t := 6) (hl.add (t := 7) (hl.add (t := 12) (hl.add (t := 13) (hl.add (t := 14) (hl.nil) rfl) rfl) rfl) rfl) rfl) rfl) rfl; clear hl; have hl := hl2; clear hl2
          replace hh := has_cat1 (A := [_, _, _]) het hh
          simp only [List.cons_append, List.nil_append] at hh
          have hN3 := hHR.ret hst hin hB hsv hjl9 hcc8
          refine blk_normal ?_
          refine blk_normal ?_
          refine then_normal ?_
          refine c_region ?_
          first | refine wl (wl_val hl rfl trivial (r_add hl rfl rfl (by simp only [Fits]; omega)) ?_) | refine wl (wl_val hl rfl trivial (r_addW hl rfl rfl) ?_)
          clear hl a; intro a hl
          refine wl (wl_val hl rfl trivial (r_move hl rfl) ?_)
          clear hl a; intro a hl
          refine w_nil ?_
          have hl2 := hl.add (t := 1) (hl.add (t := 2) (hl.add (t := 6) (hl.add (t := 7) (hl.add (t := 12) (hl.add (t := 13) (hl.add (t := 14) (hl.nil) rfl) rfl) rfl) rfl) rfl) rfl) rfl; clear hl; have hl := hl2; clear hl2
          refine then_normal ?_
          first | refine ⟨⟨i + 1, sv, ES⟩, (by simp only; omega), ⟨by simp only; omega, hN1⟩, hl.addE (t := 14) (hl.addE (t := 1) (hl.addE (t := 2) (hl.addE (t := 6) (hl.addE (t := 7) (hl.addE (t := 12) (hl.addE (t := 13) (hl.nil) rfl (by first | rfl | exact congrArg (Value.int .i64) (i_succ i))) rfl (by first | rfl | exact congrArg (Value.int .i64) (i_succ i))) rfl (by first | rfl | exact congrArg (Value.int .i64) (i_succ i))) rfl (by first | rfl | exact congrArg (Value.int .i64) (i_succ i))) rfl (by first | rfl | exact congrArg (Value.int .i64) (i_succ i))) rfl (by first | rfl | exact congrArg (Value.int .i64) (i_succ i))) rfl (by first | rfl | exact congrArg (Value.int .i64) (i_succ i)), hh.keep (by repeat (first | exact keeps_nil | apply keeps_cons (by repeat (first | exact find_head | apply find_tail)) (by first  | rfl) | exact keeps_self | exact keeps_left | exact keeps_right | exact keeps_swap | apply keeps_mv))⟩ | refine ⟨⟨i + 1, updV sv et rv2, updF ES et E2⟩, (by simp only; omega), ⟨by simp only; omega, hN2⟩, hl.addE (t := 14) (hl.addE (t := 1) (hl.addE (t := 2) (hl.addE (t := 6) (hl.addE (t := 7) (hl.addE (t := 12) (hl.addE (t := 13) (hl.nil) rfl (by first | rfl | exact congrArg (Value.int .i64) (i_succ i))) rfl (by first | rfl | exact congrArg (Value.int .i64) (i_succ i))) rfl (by first | rfl | exact congrArg (Value.int .i64) (i_succ i))) rfl (by first | rfl | exact congrArg (Value.int .i64) (i_succ i))) rfl (by first | rfl | exact congrArg (Value.int .i64) (i_succ i))) rfl (by first | rfl | exact congrArg (Value.int .i64) (i_succ i))) rfl (by first | rfl | exact congrArg (Value.int .i64) (i_succ i)), hh.keep (by repeat (first | exact keeps_nil | apply keeps_cons (by repeat (first | exact find_head | apply find_tail)) (by first  | rfl) | exact keeps_self | exact keeps_left | exact keeps_right | exact keeps_swap | apply keeps_mv))⟩ | refine ⟨⟨i + 1, sv, updF ES et [(b9, C (fl recL (B ++ [{ { { r with ra := era, rv := erv, rp := erp } with ret := true } with fn := i }]) ++ junk9) 95)]⟩, (by simp only; omega), ⟨by simp only; omega, hN3⟩, hl.addE (t := 14) (hl.addE (t := 1) (hl.addE (t := 2) (hl.addE (t := 6) (hl.addE (t := 7) (hl.addE (t := 12) (hl.addE (t := 13) (hl.nil) rfl (by first | rfl | exact congrArg (Value.int .i64) (i_succ i))) rfl (by first | rfl | exact congrArg (Value.int .i64) (i_succ i))) rfl (by first | rfl | exact congrArg (Value.int .i64) (i_succ i))) rfl (by first | rfl | exact congrArg (Value.int .i64) (i_succ i))) rfl (by first | rfl | exact congrArg (Value.int .i64) (i_succ i))) rfl (by first | rfl | exact congrArg (Value.int .i64) (i_succ i))) rfl (by first | rfl | exact congrArg (Value.int .i64) (i_succ i)), hh.keep (by repeat (first | exact keeps_nil | apply keeps_cons (by repeat (first | exact find_head | apply find_tail)) (by first  | rfl) | exact keeps_self | exact keeps_left | exact keeps_right | exact keeps_swap | apply keeps_mv))⟩
  · intro hc0
    try simp only [decide_eq_true_eq, decide_eq_false_iff_not, Bool.not_eq_true', Bool.not_eq_false', Bool.not_eq_true, Bool.not_eq_false, Bool.and_eq_true, Bool.or_eq_true, Bool.and_eq_false_iff, Bool.or_eq_false_iff, Bool.not_not, ne_eq, Int.not_lt, Int.not_le, Decidable.not_not, beq_iff_eq, bne_iff_ne] at hc0
    have hie : i = log.length := by omega
    rw [hie, List.take_length] at hHR
    refine wp_exit ?_
    refine then_exit ?_
    refine then_exit ?_
    refine blk_exit ?_
    refine then_normal ?_
    refine c_seq ?_
    refine c_region ?_
    first | refine wl (w_loadA hl hh rfl trivial agg29 rfl (by repeat (first | exact find_head | apply find_tail)) (by exact take6 _) (by rw [arrL_length]) ?_) | refine wl (w_loadRA hl hh rfl trivial agg29 rfl hm (by simp) hev rfl ?_)
    clear hl a; intro a hl
    refine wl (w_storeA hl hh trivial agg29 rfl rfl (by repeat (first | exact find_head | apply find_tail)) (by rw [arrL_length]) (by simp) (by exact arrL_one (fun t ht => (hHR t ht).one)) (by exact set6z _) ?_)
    clear hh w; intro w hh
    refine w_nil ?_
    have hl2 := hl.add (t := 6) (hl.nil) rfl; clear hl; have hl := hl2; clear hl2
    refine then_normal ?_
    refine wp_ret ?_
    refine f_retC (F' := cat6 ES) hl hh rfl rfl agg29 (by repeat (first | exact find_head | apply find_tail)) (by first | rfl | exact arrL_length _ _ | (simp; done)) (by repeat (first | exact keeps_nil | apply keeps_cons (by repeat (first | exact find_head | apply find_tail)) (by first  | rfl) | exact keeps_self | exact keeps_left | exact keeps_right | exact keeps_swap | apply keeps_mv)) ?_
    exact ⟨sv, ES, rfl, hHR, rfl⟩
end Go.Proofs.Qxb6500914aGreat

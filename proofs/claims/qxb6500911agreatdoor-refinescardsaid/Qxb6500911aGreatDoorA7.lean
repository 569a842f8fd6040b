import Derived.Test.Qxb6500911aGreatDoorA6
namespace Go.Proofs.Qxb6500911aGreatDoor
open Go.Eng
set_option linter.unusedVariables false
set_option linter.unusedSimpArgs false
theorem fld130_1 : fieldOk Tryz.prog 130 1 1 = true := by kernel_rfl
theorem cal68 : callable Tryz.prog 68 = true := by kernel_rfl
theorem cal92 : callable Tryz.prog 92 = true := by kernel_rfl
theorem cal74 : callable Tryz.prog 74 = true := by kernel_rfl
/-! ## one resource: what is held, who waits -/
structure RowT (f : Nat → Value) (r : Nat) (h : Nat → Int) (l : List Rq) (E : List (Nat × Obj)) : Prop where
  held : ∀ t, t < 16 → f (16 * r + t) = .int .i64 (h t)
  row : Row (f (320 + r)) l.length (fl rqc l) 2 130 E
theorem sumN_ext {f g : Nat → Int} : ∀ n, (∀ i, i < n → f i = g i) → sumN f n = sumN g n
  | 0, _ => rfl
  | n + 1, h => by unfold sumN; rw [sumN_ext n (fun i hi => h i (by omega)), h n (by omega)]
theorem sumN_upd {f : Nat → Int} {i : Nat} {v : Int} : ∀ {n : Nat}, i < n → sumN (fun j => if j = i then v else f j) n = sumN f n + (v - f i)
  | 0, h => absurd h (by omega)
  | n + 1, h => by
    unfold sumN
    by_cases c : n = i
    · subst c
      rw [if_pos rfl, sumN_ext n (g := f) (fun j hj => if_neg (by omega))]; omega
    · rw [if_neg c, sumN_upd (show i < n by omega)]; omega
def giveH (h : Nat → Int) (x : Rq) : Nat → Int := fun t => if t = x.t then h x.t + x.u else h t
def wakeP (tot : Int) : List Rq → (Nat → Int) → (Nat → Int) × List Rq × List Nat
  | [], h => (h, [], [])
  | x :: q, h => if x.u ≤ tot - sumN h 16 then ((wakeP tot q (giveH h x)).1, (wakeP tot q (giveH h x)).2.1, x.t :: (wakeP tot q (giveH h x)).2.2) else (h, x :: q, [])
theorem HB.give {h : Nat → Int} {x : Rq} {l : List Rq} {tot : Int} (hb : HB h (x :: l)) (ht : tot ≤ 16) (hu : x.u ≤ tot - sumN h 16) : HB (giveH h x) l := by
  have hx := hb.q x (.head _)
  refine ⟨fun t htt => ?_, ?_, fun y hy => hb.q y (.tail _ hy), (List.nodup_cons.1 hb.nd).2⟩
  · unfold giveH
    have := hb.nn t htt
    have := hb.nn x.t hx.1
    split <;> omega
  · unfold giveH
    rw [sumN_upd hx.1]; omega
structure WK where
  h : Nat → Int
  l : List Rq
  f : Nat → Value
  E : List (Nat × Obj)
  v : Value
  Ew : List (Nat × Obj)
  wk : List Nat
/-- what the loop holds -/
structure WKI (tot : Int) (f0 : Nat → Value) (h0 : Nat → Int) (l0 : List Rq) (r : Nat) (z : WK) (E : List (Nat × Obj)) : Prop where
  rt : RowT z.f r z.h z.l E
  hb : HB z.h z.l
  fr : ∀ j, (j < 16 * r ∨ 16 * r + 16 ≤ j) → j ≠ 320 + r → z.f j = f0 j
  rw_ : Row z.v z.wk.length (fl tkc z.wk) 1 57 z.Ew
  cnt : z.wk.length + z.l.length ≤ 16
  eq : wakeP tot l0 h0 = ((wakeP tot z.l z.h).1, (wakeP tot z.l z.h).2.1, z.wk ++ (wakeP tot z.l z.h).2.2)
theorem low_q {f : Nat → Value} {r : Nat} (hr : r < 20) : (arrL 340 f)[0 + 320 + r * 1]? = some (f (320 + r)) := tab_q hr
theorem low_held {f : Nat → Value} {r t : Nat} {h : Nat → Int} (hf : ∀ t, t < 16 → f (16 * r + t) = .int .i64 (h t)) (hr : r < 20) (ht : t < 16) : (arrL 340 f)[0 + 0 + r * 16 + t * 1]? = some (.int .i64 (h t)) := by
  rw [show 0 + 0 + r * 16 + t * 1 = 16 * r + t by omega, arrL_get (by omega), hf t ht]
theorem low_row {f : Nat → Value} {r : Nat} {h : Nat → Int} (hf : ∀ t, t < 16 → f (16 * r + t) = .int .i64 (h t)) (hr : r < 20) : ((arrL 340 f).drop (0 + 0 + r * 16)).take 16 = arrL 16 (fun t => .int .i64 (h t)) := by
  rw [arrL_cut (by omega)]
  exact arrL_congr fun t ht => by rw [show 0 + 0 + r * 16 + t = 16 * r + t by omega, hf t ht]
theorem set_q {f : Nat → Value} {r : Nat} {v : Value} (hr : r < 20) : setL (arrL 340 f) (0 + 320 + r * 1) [v] = arrL 340 (updV f (320 + r) v) := by
  rw [show 0 + 320 + r * 1 = 320 + r by omega]; exact arrL_set (by omega)
theorem set_held {f : Nat → Value} {r t : Nat} {v : Value} (hr : r < 20) (ht : t < 16) : setL (arrL 340 f) (0 + 0 + r * 16 + t * 1) [v] = arrL 340 (updV f (16 * r + t) v) := by
  rw [show 0 + 0 + r * 16 + t * 1 = 16 * r + t by omega]; exact arrL_set (by omega)
theorem updV_self (f : Nat → Value) (i : Nat) (v : Value) : updV f i v i = v := if_pos rfl
theorem updV_ne (f : Nat → Value) {i j : Nat} (v : Value) (h : j ≠ i) : updV f i v j = f j := if_neg h
theorem rt_held2 {f : Nat → Value} {r : Nat} {h : Nat → Int} {l : List Rq} {E : List (Nat × Obj)} (h0 : RowT f r h l E) (hr : r < 20) (v : Value) : ∀ t, t < 16 → updV f (320 + r) v (16 * r + t) = .int .i64 (h t) := fun t ht => by rw [updV_ne _ _ (by omega)]; exact h0.held t ht
theorem WKI.next {tot : Int} {f0 : Nat → Value} {h0 : Nat → Int} {l0 : List Rq} {r : Nat} {z : WK} {E E1 E2 : List (Nat × Obj)} {x : Rq} {l : List Rq} {v1 v2 : Value} (I : WKI tot f0 h0 l0 r z E) (hr : r < 20) (ht : tot ≤ 16) (hzl : z.l = x :: l) (hu : x.u ≤ tot - sumN z.h 16)
    (h1 : Row v1 l.length (fl rqc l) 2 130 E1) (h2 : Row v2 (z.wk.length + 1) (fl tkc z.wk ++ [.int .i64 (x.t : Int)]) 1 57 E2) {e1 : Int} (he : e1 = z.h x.t + x.u) :
    WKI tot f0 h0 l0 r ⟨giveH z.h x, l, updV (updV z.f (320 + r) v1) (16 * r + x.t) (.int .i64 e1), E1, v2, E2, z.wk ++ [x.t]⟩ E1 := by
  have hb := I.hb
  rw [hzl] at hb
  have hx := hb.q x (.head _)
  refine ⟨⟨fun t htt => ?_, ?_⟩, hb.give ht hu, fun j hj hj2 => ?_, row_snoc h2, ?_, ?_⟩
  · simp only [giveH]
    by_cases c : t = x.t
    · subst c; rw [updV_self, if_pos rfl, he]
    · rw [updV_ne _ _ (by omega), if_neg c, updV_ne _ _ (by omega)]; exact I.rt.held t htt
  · simp only
    rw [updV_ne _ _ (by omega), updV_self]; exact h1
  · simp only
    rw [updV_ne _ _ (by omega), updV_ne _ _ (by omega)]; exact I.fr j hj hj2
  · have := I.cnt; rw [hzl] at this; simp only [List.length_append, List.length_cons, List.length_nil] at this ⊢; omega
  · have he2 := I.eq
    rw [hzl, wakeP, if_pos hu] at he2
    rw [he2]; simp
theorem wake_stop {tot : Int} {l : List Rq} {h : Nat → Int} (hn : ∀ x, l[0]? = some x → ¬ x.u ≤ tot - sumN h 16) : wakeP tot l h = (h, l, []) := by
  cases l with
  | nil => rfl
  | cons x q => rw [wakeP, if_neg (hn x rfl)]
/-! the tables as a whole -/
def tbU (tb : Tab) (r : Nat) (h : Nat → Int) (l : List Rq) : Tab := ⟨fun j => if j = r then h else tb.held j, fun j => if j = r then l else tb.q j⟩
theorem TabF.rt {tb : Tab} {f : Nat → Value} {E : Nat → List (Nat × Obj)} (h : TabF tb f E) {r : Nat} (hr : r < 20) : RowT f r (tb.held r) (tb.q r) (E r) := ⟨fun t ht => h.held r t hr ht, h.row r hr⟩
theorem TabF.upd {tb : Tab} {f f' : Nat → Value} {E : Nat → List (Nat × Obj)} {r : Nat} {h : Nat → Int} {l : List Rq} {E' : List (Nat × Obj)} (hT : TabF tb f E) (hr : r < 20) (h1 : RowT f' r h l E') (h2 : ∀ j, (j < 16 * r ∨ 16 * r + 16 ≤ j) → j ≠ 320 + r → f' j = f j) : TabF (tbU tb r h l) f' (updE E r E') := by
  refine ⟨fun r' t hr' ht => ?_, fun r' hr' => ?_⟩
  · simp only [tbU]
    by_cases c : r' = r
    · subst c; rw [if_pos rfl]; exact h1.held t ht
    · rw [if_neg c, h2 _ (by omega) (by omega)]; exact hT.held r' t hr' ht
  · simp only [tbU]
    by_cases c : r' = r
    · subst c; rw [if_pos rfl, updE_self]; exact h1.row
    · rw [if_neg c, updE_ne _ _ c, h2 _ (by omega) (by omega)]; exact hT.row r' hr'
/-- a contract of one resource, for all tables -/
theorem tab_lift {P : Program} {fid : FuncId} {args : Array Value} {Pre : World → Prop} {bt r : Nat} {tb : Tab} {f : Nat → Value} {E : Nat → List (Nat × Obj)} {h : Nat → Int} {l : List Rq} {Rv : Value → List (Nat × Obj) → Prop} (hT : TabF tb f E) (hr : r < 20)
    (hs : SpK P fid args Pre ((bt, C (arrL 340 f) 111) :: E r) (fun v F' => ∃ f' E' Ew, F' = (bt, C (arrL 340 f') 111) :: (E' ++ Ew) ∧ RowT f' r h l E' ∧ (∀ j, (j < 16 * r ∨ 16 * r + 16 ≤ j) → j ≠ 320 + r → f' j = f j) ∧ Rv v Ew)) :
    SpK P fid args Pre (tbL bt f E) (fun v F' => ∃ f' E' Ew, F' = tbL bt f' E' ++ Ew ∧ TabF (tbU tb r h l) f' E' ∧ Rv v Ew) := by
  refine spk_lift (G := famX E r 20) hs ⟨List.Perm.cons _ (fam_perm hr)⟩ ?_
  rintro v F' ⟨f', E', Ew, rfl, h1, h2, h3⟩
  refine ⟨_, [], ⟨f', updE E r E', Ew, rfl, hT.upd hr h1 h2, h3⟩, ?_⟩
  rw [List.append_nil]
  unfold tbL
  rw [List.cons_append, List.cons_append]
  refine List.Perm.cons _ ?_
  rw [List.append_assoc]
  have e1 := (fam_upd (E := E) hr E').append_right Ew
  refine List.Perm.trans ?_ e1.symm
  rw [List.append_assoc]
  exact List.Perm.append_left _ List.perm_append_comm
theorem wakeP_hb {tot : Int} (ht : tot ≤ 16) : ∀ {l : List Rq} {h : Nat → Int}, HB h l → HB (wakeP tot l h).1 (wakeP tot l h).2.1
  | [], h, hb => hb
  | x :: q, h, hb => by
    rw [wakeP]
    split
    · rename_i hu
      exact wakeP_hb ht (hb.give ht hu)
    · exact hb
theorem wakeP_suf (tot : Int) : ∀ (l : List Rq) (h : Nat → Int), l.map (·.t) = (wakeP tot l h).2.2 ++ (wakeP tot l h).2.1.map (·.t) ∧ ∀ x, x ∈ (wakeP tot l h).2.1 → x ∈ l
  | [], h => ⟨rfl, fun _ h => h⟩
  | x :: q, h => by
    rw [wakeP]
    split
    · obtain ⟨h1, h2⟩ := wakeP_suf tot q (giveH h x)
      exact ⟨by simp only [List.map_cons, List.cons_append]; rw [h1], fun y hy => .tail _ (h2 y hy)⟩
    · exact ⟨rfl, fun _ h => h⟩
theorem TI.upd {tb : Tab} {r : Nat} {h : Nat → Int} {l : List Rq} (hI : TI tb) (hb : HB h l) (hr : r < 20) (hs : ∀ x, x ∈ l → x ∈ tb.q r) : TI (tbU tb r h l) := by
  refine ⟨fun r' hr' => ?_, fun r1 r2 h1 h2 x hx y hy e => ?_⟩
  · simp only [tbU]
    by_cases c : r' = r
    · rw [if_pos c, if_pos c]; exact hb
    · rw [if_neg c, if_neg c]; exact hI.hb r' hr'
  · simp only [tbU] at hx hy
    refine hI.dis r1 r2 h1 h2 x ?_ y ?_ e
    · split at hx
      · rename_i c; rw [c]; exact hs x hx
      · exact hx
    · split at hy
      · rename_i c; rw [c]; exact hs y hy
      · exact hy
def zeroH (h : Nat → Int) (t : Nat) : Nat → Int := fun j => if j = t then 0 else h j
theorem HB.zero {h : Nat → Int} {l : List Rq} (hb : HB h l) {t : Nat} (ht : t < 16) : HB (zeroH h t) l := by
  refine ⟨fun j hj => ?_, ?_, hb.q, hb.nd⟩
  · unfold zeroH; split; exact Int.le_refl _; exact hb.nn j hj
  · unfold zeroH
    rw [sumN_upd ht]
    have := hb.sum; have := hb.nn t ht; omega
theorem rt_zero {f : Nat → Value} {r t : Nat} {h : Nat → Int} {l : List Rq} {E : List (Nat × Obj)} (hT : RowT f r h l E) (hr : r < 20) (ht : t < 16) : RowT (updV f (16 * r + t) (.int .i64 0)) r (zeroH h t) l E := by
  refine ⟨fun j hj => ?_, ?_⟩
  · unfold zeroH
    by_cases c : j = t
    · subst c; rw [updV_self, if_pos rfl]
    · rw [updV_ne _ _ (by omega), if_neg c]; exact hT.held j hj
  · rw [updV_ne _ _ (by omega)]; exact hT.row
/-- the requests of other tasks -/
def othQ (t : Nat) (l : List Rq) : List Rq := l.filter (fun x => decide (x.t ≠ t))
theorem HB.oth {h : Nat → Int} {l : List Rq} (hb : HB h l) (t : Nat) : HB h (othQ t l) := by
  refine ⟨hb.nn, hb.sum, fun x hx => hb.q x (List.mem_filter.1 hx).1, ?_⟩
  have : ((othQ t l).map (·.t)).Sublist (l.map (·.t)) := List.Sublist.map _ List.filter_sublist
  exact this.nodup hb.nd


set_option maxHeartbeats 1000000 in
theorem free_low {f : Nat → Value} {r : Nat} {h : Nat → Int} (hf : ∀ t, t < 16 → f (16 * r + t) = .int .i64 (h t)) (hr : r < 20) (bt : Nat) (h16 : ∀ t, t < 16 → 0 ≤ h t ∧ h t ≤ 16) : SpK Tryz.prog 68 #[.pointer (some ⟨bt, 0, none⟩), .int .i64 (r : Int)] (fun w => w.heap[bt]? = some (C (arrL 340 f) 111)) [] (fun v F' => v = .int .i64 (totP r - sumN h 16) ∧ F' = []) := by
  refine f_enter (args := [.pointer (some ⟨bt, 0, none⟩), .int .i64 (r : Int)]) Tryz.func68 rfl Tryz.ntmps68 rfl ?_
  intro w0 w a hpre hl hh
  have ht0 := tot_rng r
  simp only [slotsFrom, Nat.reduceAdd] at hl
  refine c_seq ?_
  refine c_region ?_
  refine wl (wl_val hl rfl trivial (r_assign hl rfl) ?_)
  clear hl a; intro a hl
  refine w_nil ?_
  have hl2 := hl.add (t := 0) (hl.add (t := 1) (hl.nil) rfl) rfl; clear hl; have hl := hl2; clear hl2
  refine then_normal ?_
  refine c_seq ?_
  refine c_region ?_
  refine wl (wl_val hl rfl trivial (r_move hl rfl) ?_)
  clear hl a; intro a hl
  refine wl (w_call hl hh rfl trivial rfl cal67 rfl (total_spec r hr) (by repeat (first | exact keeps_nil | apply keeps_cons (by repeat (first | exact find_head | apply find_tail)) (by first  | rfl) | exact keeps_self | apply keeps_mv)) trivial ?_)
  clear hl hh a w; intro vc Fc a w hR hl hh
  obtain ⟨rfl, rfl⟩ := hR
  try simp only [List.cons_append, List.nil_append] at hh
  refine wl (wl_val hl rfl trivial (r_assign hl rfl) ?_)
  clear hl a; intro a hl
  refine w_nil ?_
  have hl2 := hl.add (t := 0) (hl.add (t := 1) (hl.add (t := 5) (hl.nil) rfl) rfl) rfl; clear hl; have hl := hl2; clear hl2
  refine then_normal ?_
  refine c_seq ?_
  refine c_seq ?_
  refine c_region ?_
  refine wl (wl_val hl rfl trivial (r_move hl rfl) ?_)
  clear hl a; intro a hl
  refine wl (wl_val hl rfl trivial (r_move hl rfl) ?_)
  clear hl a; intro a hl
  refine wl (wl_val hl rfl trivial (r_nilCheck hl rfl) ?_)
  clear hl a; intro a hl
  refine wl (wl_val hl rfl trivial (r_field hl rfl fld111_0) ?_)
  clear hl a; intro a hl
  refine wl (wl_val hl rfl trivial (r_indexA hl rfl rfl arr107 (by omega) (by omega) (by first | (simp only [Int.reduceToNat]; rfl) | exact toNat_add1 _ | exact toNat_add2 _ _ | exact toNat_emod _ _ | exact Int.toNat_natCast _ | rfl)) ?_)
  clear hl a; intro a hl
  first | refine wl (w_loadA hl hh rfl trivial agg106 rfl (by repeat (first | exact find_head | apply find_tail)) (by first | (simp only [List.getElem?_cons_zero, List.getElem?_cons_succ, Value.cells, List.take_zero, List.take_succ_cons, List.take_nil, List.drop_zero, List.drop_succ_cons, List.drop_nil, List.length_cons, List.length_nil, List.cons_append, List.nil_append, List.append_nil, Nat.zero_add, Nat.add_zero, Nat.reduceAdd, Nat.reduceBEq, Nat.reduceEqDiff, Nat.ble, BEq.rfl, Bool.and_true, Bool.and_self, cond_true, beq_self_eq_true]; rfl)) (by first | rfl | (simp; done)) ?_) | refine wl (w_loadRA hl hh rfl trivial agg106 rfl hpre (by simp) (low_row hf hr) (arrL_length _ _) ?_)
  clear hl a; intro a hl
  refine wl (wl_val hl rfl trivial (r_move hl rfl) ?_)
  clear hl a; intro a hl
  refine w_nil ?_
  have hl2 := hl.add (t := 5) (hl.add (t := 15) (hl.add (t := 16) (hl.nil) rfl) rfl) rfl; clear hl; have hl := hl2; clear hl2
  refine then_normal ?_
  refine wp_block ?_
  obtain ⟨KS0, hKS0, hk⟩ := (hl.add (t := 15) (hl.nil) rfl).name
  obtain ⟨HS0, hHS0, hh2⟩ := hh.name (keeps_nil)
  refine c_loop (α := Nat) (fun i => 16 - i) (fun i a w => (i ≤ 16) ∧ Sl 24 ([(16, .int .i64 (i : Int)), (5, .int .i64 (totP r - sumN h i))] ++ KS0) a ∧ Has _ w0 ([] ++ HS0) w) 0 ⟨(by omega), hl.addE (t := 16) (hl.addE (t := 5) (hk) rfl (by first | (simp [sumN]; done) | rfl)) rfl (by first | (simp [sumN]; done) | rfl), hh2⟩ ?_
  clear hk hh2 hl hh a w
  intro i a w hI
  obtain ⟨hi, hl, hh⟩ := hI
  subst hKS0; subst hHS0
  simp only [List.cons_append, List.nil_append, List.append_nil] at hl hh
  have hsm := sumN_rng (f := h) (b := 16) (n := i) (fun j hj => h16 j (by omega))
  refine c_seq ?_
  refine c_region ?_
  refine wl (wl_val hl rfl trivial (r_lss hl rfl rfl) ?_)
  clear hl a; intro a hl
  refine w_nil ?_
  have hl2 := hl.add (t := 5) (hl.add (t := 15) (hl.add (t := 16) (hl.add (t := 17) (hl.nil) rfl) rfl) rfl) rfl; clear hl; have hl := hl2; clear hl2
  refine then_normal ?_
  refine c_seq ?_
  refine c_cond hl rfl ?_ ?_
  · intro hc0
    try simp only [decide_eq_true_eq, decide_eq_false_iff_not, Bool.not_eq_true', Bool.not_eq_false', Bool.not_eq_true, Bool.not_eq_false, Bool.and_eq_true, Bool.or_eq_true, Bool.and_eq_false_iff, Bool.or_eq_false_iff, Bool.not_not, ne_eq, Int.not_lt, Int.not_le, Decidable.not_not, beq_iff_eq, bne_iff_ne] at hc0
    have hb1 := h16 i (by omega)
    refine wp_skip ?_
    refine then_normal ?_
    refine c_seq ?_
    refine wp_block ?_
    refine c_seq ?_
    refine c_region ?_
    refine wl (wl_val hl rfl trivial (r_indexAgg hl rfl rfl arrT106 one3 (by omega) (by omega) (by first | (simp only [Int.reduceToNat]; rfl) | exact toNat_add1 _ | exact toNat_add2 _ _ | exact toNat_emod _ _ | exact Int.toNat_natCast _ | rfl) (by exact arr1 (by omega))) ?_)
    clear hl a; intro a hl
    refine wl (wl_val hl rfl trivial (r_assign hl rfl) ?_)
    clear hl a; intro a hl
    refine w_nil ?_
    have hl2 := hl.add (t := 5) (hl.add (t := 7) (hl.add (t := 15) (hl.add (t := 16) (hl.nil) rfl) rfl) rfl) rfl; clear hl; have hl := hl2; clear hl2
    refine then_normal ?_
    refine c_region ?_
    refine wl (wl_val hl rfl trivial (r_move hl rfl) ?_)
    clear hl a; intro a hl
    refine wl (wl_val hl rfl trivial (r_move hl rfl) ?_)
    clear hl a; intro a hl
    first | refine wl (wl_val hl rfl trivial (r_sub hl rfl rfl (by simp only [Fits]; omega)) ?_) | refine wl (wl_val hl rfl trivial (r_subW hl rfl rfl) ?_)
    clear hl a; intro a hl
    refine wl (wl_val hl rfl trivial (r_assign hl rfl) ?_)
    clear hl a; intro a hl
    refine w_nil ?_
    have hl2 := hl.add (t := 5) (hl.add (t := 15) (hl.add (t := 16) (hl.nil) rfl) rfl) rfl; clear hl; have hl := hl2; clear hl2
    refine blk_normal ?_
    refine then_normal ?_
    refine c_region ?_
    first | refine wl (wl_val hl rfl trivial (r_add hl rfl rfl (by simp only [Fits]; omega)) ?_) | refine wl (wl_val hl rfl trivial (r_addW hl rfl rfl) ?_)
    clear hl a; intro a hl
    refine wl (wl_val hl rfl trivial (r_move hl rfl) ?_)
    clear hl a; intro a hl
    refine w_nil ?_
    have hl2 := hl.add (t := 5) (hl.add (t := 15) (hl.add (t := 16) (hl.nil) rfl) rfl) rfl; clear hl; have hl := hl2; clear hl2
    refine then_normal ?_
    refine ⟨(i + 1), (by omega), (by omega), hl.addE (t := 16) (hl.addE (t := 5) (hl.addE (t := 15) (hl.nil) rfl (by first | rfl | exact congrArg (Value.int .i64) (by simp only [sumN]; omega))) rfl (by first | rfl | exact congrArg (Value.int .i64) (by simp only [sumN]; omega))) rfl (by first | rfl | exact congrArg (Value.int .i64) (by simp only [sumN]; omega)), hh.keep (by repeat (first | exact keeps_nil | apply keeps_cons (by repeat (first | exact find_head | apply find_tail)) (by first  | rfl) | exact keeps_self | apply keeps_mv))⟩
  · intro hc0
    try simp only [decide_eq_true_eq, decide_eq_false_iff_not, Bool.not_eq_true', Bool.not_eq_false', Bool.not_eq_true, Bool.not_eq_false, Bool.and_eq_true, Bool.or_eq_true, Bool.and_eq_false_iff, Bool.or_eq_false_iff, Bool.not_not, ne_eq, Int.not_lt, Int.not_le, Decidable.not_not, beq_iff_eq, bne_iff_ne] at hc0
    have hi16 : i = 16 := by omega
    subst hi16
    refine wp_exit ?_
    refine then_exit ?_
    refine then_exit ?_
    refine blk_exit ?_
    refine then_normal ?_
    refine c_seq ?_
    refine c_region ?_
    refine wl (wl_val hl rfl trivial (r_move hl rfl) ?_)
    clear hl a; intro a hl
    refine wl (wl_val hl rfl trivial (r_assign hl rfl) ?_)
    clear hl a; intro a hl
    refine w_nil ?_
    have hl2 := hl.add (t := 4) (hl.nil) rfl; clear hl; have hl := hl2; clear hl2
    refine then_normal ?_
    refine wp_ret ?_
    refine f_ret1 (F' := []) hl hh rfl rfl (by repeat (first | exact keeps_nil | apply keeps_cons (by repeat (first | exact find_head | apply find_tail)) (by first  | rfl) | exact keeps_self | apply keeps_mv)) ?_
    exact ⟨rfl, rfl⟩

set_option maxHeartbeats 4000000 in
theorem wake_low {f : Nat → Value} {r : Nat} {h : Nat → Int} {l : List Rq} {E : List (Nat × Obj)} (hT : RowT f r h l E) (hB : HB h l) (hr : r < 20) (bt : Nat) : Sp Tryz.prog 74 #[.pointer (some ⟨bt, 0, none⟩), .int .i64 (r : Int)] ((bt, C (arrL 340 f) 111) :: E) (fun v F' => ∃ f' E' Ew, F' = (bt, C (arrL 340 f') 111) :: (E' ++ Ew) ∧ RowT f' r (wakeP (totP r) l h).1 (wakeP (totP r) l h).2.1 E' ∧ (∀ j, (j < 16 * r ∨ 16 * r + 16 ≤ j) → j ≠ 320 + r → f' j = f j) ∧ Row v (wakeP (totP r) l h).2.2.length (fl tkc (wakeP (totP r) l h).2.2) 1 57 Ew) := by
  refine f_enter (args := [.pointer (some ⟨bt, 0, none⟩), .int .i64 (r : Int)]) Tryz.func74 rfl Tryz.ntmps74 rfl ?_
  intro w0 w a hpre hl hh
  have ht0 := tot_rng r
  simp only [slotsFrom, Nat.reduceAdd] at hl
  refine c_seq ?_
  refine c_region ?_
  refine wl (wl_val hl rfl trivial (r_assign hl rfl) ?_)
  clear hl a; intro a hl
  refine w_nil ?_
  have hl2 := hl.add (t := 0) (hl.add (t := 1) (hl.nil) rfl) rfl; clear hl; have hl := hl2; clear hl2
  refine then_normal ?_
  refine c_seq ?_
  refine c_region ?_
  refine wl (wl_val hl rfl trivial (r_assign hl rfl) ?_)
  clear hl a; intro a hl
  refine w_nil ?_
  have hl2 := hl.add (t := 0) (hl.add (t := 1) (hl.add (t := 5) (hl.nil) rfl) rfl) rfl; clear hl; have hl := hl2; clear hl2
  refine then_normal ?_
  refine c_seq ?_
  refine wp_block ?_
  obtain ⟨KS0, hKS0, hk⟩ := (hl.add (t := 0) (hl.add (t := 1) (hl.nil) rfl) rfl).name
  obtain ⟨HS0, hHS0, hh2⟩ := hh.nameT (A := [(bt, C (arrL 340 f) 111)]) (U := (E ++ [])) (keeps_cons (b := bt) (o' := C (arrL 340 f) 111) (by repeat (first | exact find_head | apply find_tail | apply find_skip)) (by first | rfl) ((by repeat (first | exact keeps_nil | exact keeps_self | exact keeps_left | apply keeps_app | apply keeps_mv | apply keeps_skip))))
  refine c_loop (α := WK) (fun z => z.l.length) (fun z a w => (WKI (totP r) f h l r z z.E) ∧ Sl 72 ([(5, z.v)] ++ KS0) a ∧ Has _ w0 ([(bt, C (arrL 340 z.f) 111)] ++ (HS0 ++ (z.E ++ z.Ew))) w) ⟨h, l, f, E, .slice none 0 0, [], []⟩ ⟨⟨hT, hB, fun _ _ _ => rfl, Row.nil _ _, by have := hB.len; simp only [List.length_nil]; omega, by simp⟩, hl.addE (t := 5) (hk) rfl (by first | rfl), hh2⟩ ?_
  clear hk hh2 hl hh a w
  intro z a w hI
  obtain ⟨hI, hl, hh⟩ := hI
  subst hKS0; subst hHS0
  simp only [List.cons_append, List.nil_append, List.append_nil, List.append_assoc] at hl hh
  have hcn := hI.cnt
  generalize hze : z.E = E2_ at hh hI
  have h16 := fun t ht => hI.hb.le (t := t) ht
  refine c_seq ?_
  refine c_seq ?_
  first | (refine c_draw ((bt, C (arrL 340 z.f) 111) :: E2_) [21, 22] mixed hh ?_; clear hh w; intro w hh; have hM : Mem ((bt, C (arrL 340 z.f) 111) :: E2_) w := (memK hh (by repeat (first | exact keeps_nil | apply keeps_cons (by repeat (first | exact find_head | apply find_tail | apply find_skip)) (by first  | rfl) | exact keeps_self | exact keeps_left | apply keeps_app | apply keeps_mv | apply keeps_skip)))) | (refine c_draw [(bt, C (arrL 340 z.f) 111), (b, C (fl rqc z.l ++ junk) 130)] [21, 22] mixed hh ?_; clear hh w; intro w hh; have hM : Mem [(bt, C (arrL 340 z.f) 111), (b, C (fl rqc z.l ++ junk) 130)] w := (memK hh (by repeat (first | exact keeps_nil | apply keeps_cons (by repeat (first | exact find_head | apply find_tail | apply find_skip)) (by first  | rfl) | exact keeps_self | exact keeps_left | apply keeps_app | apply keeps_mv | apply keeps_skip))))
  refine d_take (i := 0) hl rfl (by kernel_rfl) (by kernel_rfl) (by kernel_rfl) (by kernel_rfl) (by kernel_rfl) rfl trivial (fun _ _ _ h => h) hM (fun w hC => r_move hl rfl) rfl ?_
  clear hl a; intro a hl
  refine d_take (i := 1) hl rfl (by kernel_rfl) (by kernel_rfl) (by kernel_rfl) (by kernel_rfl) (by kernel_rfl) rfl trivial (fun _ _ _ h => h) hM (fun w hC => r_move hl rfl) rfl ?_
  clear hl a; intro a hl
  refine d_take (i := 2) hl rfl (by kernel_rfl) (by kernel_rfl) (by kernel_rfl) (by kernel_rfl) (by kernel_rfl) rfl trivial (fun _ _ _ h => h) hM (fun w hC => r_nilCheck hl rfl) rfl ?_
  clear hl a; intro a hl
  refine d_take (i := 3) hl rfl (by kernel_rfl) (by kernel_rfl) (by kernel_rfl) (by kernel_rfl) (by kernel_rfl) rfl trivial (fun _ _ _ h => h) hM (fun w hC => r_field hl rfl fld111_1) rfl ?_
  clear hl a; intro a hl
  refine d_take (i := 4) hl rfl (by kernel_rfl) (by kernel_rfl) (by kernel_rfl) (by kernel_rfl) (by kernel_rfl) rfl trivial (fun _ _ _ h => h) hM (fun w hC => r_indexA hl rfl rfl arr109 (by omega) (by omega) (by first | (simp only [Int.reduceToNat]; rfl) | exact toNat_add1 _ | exact toNat_add2 _ _ | exact toNat_emod _ _ | exact Int.toNat_natCast _ | rfl)) rfl ?_
  clear hl a; intro a hl
  refine d_take (i := 5) hl rfl (by kernel_rfl) (by kernel_rfl) (by kernel_rfl) (by kernel_rfl) (by kernel_rfl) rfl trivial (fun _ _ _ h => h) hM (fun w hC => r_loadC hl rfl one108 hC (by repeat (first | exact find_head | apply find_tail | apply find_skip)) (by first | exact low_q hr | exact low_held hI.rt.held hr hxt.1 | exact low_held (rt_held2 hI.rt hr _) hr hxt.1 | exact fl_cell rqc_len hx0 rfl junk | rfl)) rfl ?_
  clear hl a; intro a hl
  obtain ⟨p9, c9, hpc⟩ := row_val hI.rt.row
  rw [hpc] at hl
  refine d_take (i := 6) hl rfl (by kernel_rfl) (by kernel_rfl) (by kernel_rfl) (by kernel_rfl) (by kernel_rfl) rfl trivial (fun _ _ _ h => h) hM (fun w hC => r_lenS hl rfl slc108) rfl ?_
  clear hl a; intro a hl
  refine d_take (i := 7) hl rfl (by kernel_rfl) (by kernel_rfl) (by kernel_rfl) (by kernel_rfl) (by kernel_rfl) rfl trivial (fun _ _ _ h => h) hM (fun w hC => r_gtr hl rfl rfl) rfl ?_
  clear hl a; intro a hl
  refine d_take (i := 8) hl rfl (by kernel_rfl) (by kernel_rfl) (by kernel_rfl) (by kernel_rfl) (by kernel_rfl) rfl trivial (fun _ _ _ h => h) hM (fun w hC => r_move hl rfl) rfl ?_
  clear hl a; intro a hl
  refine sl_split (t := 15) hl rfl ?_ ?_
  · intro hg1; clear hl; intro hl
    try simp only [decide_eq_true_eq, decide_eq_false_iff_not, Bool.not_eq_true', Bool.not_eq_false', Bool.not_eq_true, Bool.not_eq_false, Bool.and_eq_true, Bool.or_eq_true, Bool.and_eq_false_iff, Bool.or_eq_false_iff, Bool.not_not, ne_eq, Int.not_lt, Int.not_le, Decidable.not_not, beq_iff_eq, bne_iff_ne] at hg1
    refine d_take (i := 9) hl rfl (by kernel_rfl) (by kernel_rfl) (by kernel_rfl) (by kernel_rfl) (by kernel_rfl) rfl ⟨_, _, rfl, rfl, rfl⟩ (fun _ _ _ h => h) hM (fun w hC => r_move hl rfl) rfl ?_
    clear hl a; intro a hl
    refine d_take (i := 10) hl rfl (by kernel_rfl) (by kernel_rfl) (by kernel_rfl) (by kernel_rfl) (by kernel_rfl) rfl ⟨_, _, rfl, rfl, rfl⟩ (fun _ _ _ h => h) hM (fun w hC => r_move hl rfl) rfl ?_
    clear hl a; intro a hl
    refine d_take (i := 11) hl rfl (by kernel_rfl) (by kernel_rfl) (by kernel_rfl) (by kernel_rfl) (by kernel_rfl) rfl ⟨_, _, rfl, rfl, rfl⟩ (fun _ _ _ h => h) hM (fun w hC => r_nilCheck hl rfl) rfl ?_
    clear hl a; intro a hl
    refine d_take (i := 12) hl rfl (by kernel_rfl) (by kernel_rfl) (by kernel_rfl) (by kernel_rfl) (by kernel_rfl) rfl ⟨_, _, rfl, rfl, rfl⟩ (fun _ _ _ h => h) hM (fun w hC => r_field hl rfl fld111_1) rfl ?_
    clear hl a; intro a hl
    refine d_take (i := 13) hl rfl (by kernel_rfl) (by kernel_rfl) (by kernel_rfl) (by kernel_rfl) (by kernel_rfl) rfl ⟨_, _, rfl, rfl, rfl⟩ (fun _ _ _ h => h) hM (fun w hC => r_indexA hl rfl rfl arr109 (by omega) (by omega) (by first | (simp only [Int.reduceToNat]; rfl) | exact toNat_add1 _ | exact toNat_add2 _ _ | exact toNat_emod _ _ | exact Int.toNat_natCast _ | rfl)) rfl ?_
    clear hl a; intro a hl
    refine d_take (i := 14) hl rfl (by kernel_rfl) (by kernel_rfl) (by kernel_rfl) (by kernel_rfl) (by kernel_rfl) rfl ⟨_, _, rfl, rfl, rfl⟩ (fun _ _ _ h => h) hM (fun w hC => r_loadC hl rfl one108 hC (by repeat (first | exact find_head | apply find_tail | apply find_skip)) (by first | exact low_q hr | exact low_held hI.rt.held hr hxt.1 | exact low_held (rt_held2 hI.rt hr _) hr hxt.1 | exact fl_cell rqc_len hx0 rfl junk | rfl)) rfl ?_
    clear hl a; intro a hl
    rw [hpc] at hl
    obtain ⟨b, junk, hpb, hjl, hjc, hE2⟩ := row_pos (hpc ▸ hI.rt.row) (by omega)
    subst hpb
    subst hE2
    obtain ⟨x, lt, hlt⟩ : ∃ x lt, z.l = x :: lt := by
      cases hz : z.l with
      | nil => rw [hz] at hg1; simp at hg1
      | cons x lt => exact ⟨x, lt, rfl⟩
    have hx0 : z.l[0]? = some x := by rw [hlt]; rfl
    have hxt := hI.hb.q x (by rw [hlt]; exact .head _)
    have hxh := h16 x.t hxt.1
    refine d_take (i := 15) hl rfl (by kernel_rfl) (by kernel_rfl) (by kernel_rfl) (by kernel_rfl) (by kernel_rfl) rfl ⟨_, _, rfl, rfl, rfl⟩ (fun _ _ _ h => h) hM (fun w hC => r_indexS hl rfl rfl slc108 (by omega) (by omega) (by first | (simp only [Int.reduceToNat]; rfl) | exact toNat_add1 _ | exact toNat_add2 _ _ | exact toNat_emod _ _ | exact Int.toNat_natCast _ | rfl)) rfl ?_
    clear hl a; intro a hl
    refine d_take (i := 16) hl rfl (by kernel_rfl) (by kernel_rfl) (by kernel_rfl) (by kernel_rfl) (by kernel_rfl) rfl ⟨_, _, rfl, rfl, rfl⟩ (fun _ _ _ h => h) hM (fun w hC => r_field hl rfl fld130_1) rfl ?_
    clear hl a; intro a hl
    refine d_take (i := 17) hl rfl (by kernel_rfl) (by kernel_rfl) (by kernel_rfl) (by kernel_rfl) (by kernel_rfl) rfl ⟨_, _, rfl, rfl, rfl⟩ (fun _ _ _ h => h) hM (fun w hC => r_loadC hl rfl one3 hC (by repeat (first | exact find_head | apply find_tail | apply find_skip)) (by first | exact low_q hr | exact low_held hI.rt.held hr hxt.1 | exact low_held (rt_held2 hI.rt hr _) hr hxt.1 | exact fl_cell rqc_len hx0 rfl junk | rfl)) rfl ?_
    clear hl a; intro a hl
    refine d_take (i := 18) hl rfl (by kernel_rfl) (by kernel_rfl) (by kernel_rfl) (by kernel_rfl) (by kernel_rfl) rfl ⟨_, _, rfl, rfl, rfl⟩ (fun _ _ _ h => h) hM (fun w hC => r_move hl rfl) rfl ?_
    clear hl a; intro a hl
    refine d_take (i := 19) hl rfl (by kernel_rfl) (by kernel_rfl) (by kernel_rfl) (by kernel_rfl) (by kernel_rfl) rfl ⟨_, _, rfl, rfl, rfl⟩ (fun _ _ _ h => h) hM (fun w hC => r_move hl rfl) rfl ?_
    clear hl a; intro a hl
    refine d_one (i := 20) (by kernel_rfl) rfl ?_
    try clear hM
    refine id (w_call hl hh rfl ⟨_, _, rfl, rfl, rfl⟩ rfl cal68 rfl (free_low hI.rt.held hr bt h16) (by repeat (first | exact keeps_nil | apply keeps_cons (by repeat (first | exact find_head | apply find_tail | apply find_skip)) (by first  | rfl) | exact keeps_self | exact keeps_left | apply keeps_app | apply keeps_mv | apply keeps_skip)) (hh.mem _ _ (Find.mem (by repeat (first | exact find_head | apply find_tail | apply find_skip)))) ?_)
    clear hl hh a w; intro vc Fc a w hR hl hh
    obtain ⟨rfl, rfl⟩ := hR
    try simp only [List.cons_append, List.nil_append, List.append_assoc, List.append_nil] at hh
    first | (have hM : Mem ((bt, C (arrL 340 z.f) 111) :: E2_) w := (memK hh (by repeat (first | exact keeps_nil | apply keeps_cons (by repeat (first | exact find_head | apply find_tail | apply find_skip)) (by first  | rfl) | exact keeps_self | exact keeps_left | apply keeps_app | apply keeps_mv | apply keeps_skip))); refine d_step (fun _ => hM) ?_) | (have hM : Mem [(bt, C (arrL 340 z.f) 111), (b, C (fl rqc z.l ++ junk) 130)] w := (memK hh (by repeat (first | exact keeps_nil | apply keeps_cons (by repeat (first | exact find_head | apply find_tail | apply find_skip)) (by first  | rfl) | exact keeps_self | exact keeps_left | apply keeps_app | apply keeps_mv | apply keeps_skip))); refine d_step (fun _ => hM) ?_)
    refine d_takeL (i := 21) hl rfl (by kernel_rfl) (by kernel_rfl) (by kernel_rfl) (by kernel_rfl) (by kernel_rfl) rfl ⟨_, _, rfl, rfl, rfl⟩ (fun _ _ _ h => h) (fun w => r_leq hl rfl rfl) rfl ?_
    clear hl a; intro a hl
    refine d_takeL (i := 22) hl rfl (by kernel_rfl) (by kernel_rfl) (by kernel_rfl) (by kernel_rfl) (by kernel_rfl) rfl trivial (fun _ _ _ h => h) (fun w => r_pickT hl rfl rfl) rfl ?_
    clear hl a; intro a hl
    refine d_done (by kernel_rfl) ?_
    try clear hM
    have hl2 := hl.add (t := 0) (hl.add (t := 1) (hl.add (t := 5) (hl.add (t := 29) (hl.nil) rfl) rfl) rfl) rfl; clear hl; have hl := hl2; clear hl2
    refine then_normal ?_
    refine c_cond hl rfl ?_ ?_
    · intro hc0
      try simp only [decide_eq_true_eq, decide_eq_false_iff_not, Bool.not_eq_true', Bool.not_eq_false', Bool.not_eq_true, Bool.not_eq_false, Bool.and_eq_true, Bool.or_eq_true, Bool.and_eq_false_iff, Bool.or_eq_false_iff, Bool.not_not, ne_eq, Int.not_lt, Int.not_le, Decidable.not_not, beq_iff_eq, bne_iff_ne] at hc0
      refine wp_skip ?_
      refine then_normal ?_
      refine wp_block ?_
      refine c_seq ?_
      refine c_region ?_
      refine wl (wl_val hl rfl trivial (r_move hl rfl) ?_)
      clear hl a; intro a hl
      refine wl (wl_val hl rfl trivial (r_move hl rfl) ?_)
      clear hl a; intro a hl
      refine wl (wl_val hl rfl trivial (r_nilCheck hl rfl) ?_)
      clear hl a; intro a hl
      refine wl (wl_val hl rfl trivial (r_field hl rfl fld111_1) ?_)
      clear hl a; intro a hl
      refine wl (wl_val hl rfl trivial (r_indexA hl rfl rfl arr109 (by omega) (by omega) (by first | (simp only [Int.reduceToNat]; rfl) | exact toNat_add1 _ | exact toNat_add2 _ _ | exact toNat_emod _ _ | exact Int.toNat_natCast _ | rfl)) ?_)
      clear hl a; intro a hl
      refine wl (w_load hl hh rfl trivial one108 rfl (by repeat (first | exact find_head | apply find_tail | apply find_skip)) (by first | exact low_q hr | exact low_held hI.rt.held hr hxt.1 | exact low_held (rt_held2 hI.rt hr _) hr hxt.1 | exact fl_cell rqc_len hx0 rfl junk | rfl) ?_)
      clear hl a; intro a hl
      rw [hpc] at hl
      refine wl (wl_val hl rfl trivial (r_indexS hl rfl rfl slc108 (by omega) (by omega) (by first | (simp only [Int.reduceToNat]; rfl) | exact toNat_add1 _ | exact toNat_add2 _ _ | exact toNat_emod _ _ | exact Int.toNat_natCast _ | rfl)) ?_)
      clear hl a; intro a hl
      refine wl (w_loadA hl hh rfl trivial agg130 rfl (by repeat (first | exact find_head | apply find_tail | apply find_skip)) (by first | exact fl_at rqc_len hx0 junk | (simp only [List.getElem?_cons_zero, List.getElem?_cons_succ, Value.cells, List.take_zero, List.take_succ_cons, List.take_nil, List.drop_zero, List.drop_succ_cons, List.drop_nil, List.length_cons, List.length_nil, List.cons_append, List.nil_append, List.append_nil, Nat.zero_add, Nat.add_zero, Nat.reduceAdd, Nat.reduceBEq, Nat.reduceEqDiff, Nat.ble, BEq.rfl, Bool.and_true, Bool.and_self, cond_true, beq_self_eq_true]; rfl)) (by first | rfl | (simp; done)) ?_)
      clear hl a; intro a hl
      refine wl (w_alloc hl hh rfl trivial zero130 rfl ?_)
      clear hl hh a w; intro k6 a w hl hh
      refine wl (w_storeA hl hh trivial agg130 rfl rfl (by repeat (first | exact find_head | apply find_tail | apply find_skip)) (by first | rfl | (simp; done) | exact fl_at rqc_len hx0 junk) (by first | (simp; done) | (simp; omega) | (rw [arrL_length]; omega)) (by first | rfl | (simp; done)) (by first | exact set_q hr | exact set_held hr hxt.1 | (simp only [setL, List.getElem?_cons_zero, List.getElem?_cons_succ, Value.cells, List.take_zero, List.take_succ_cons, List.take_nil, List.drop_zero, List.drop_succ_cons, List.drop_nil, List.length_cons, List.length_nil, List.cons_append, List.nil_append, List.append_nil, Nat.zero_add, Nat.add_zero, Nat.reduceAdd, Nat.reduceBEq, Nat.reduceEqDiff, Nat.ble, BEq.rfl, Bool.and_true, Bool.and_self, cond_true, beq_self_eq_true]; rfl)) ?_)
      clear hh w; intro w hh
      refine w_nil ?_
      have hl2 := hl.add (t := 0) (hl.add (t := 1) (hl.add (t := 5) (hl.add (t := 6) (hl.nil) rfl) rfl) rfl) rfl; clear hl; have hl := hl2; clear hl2
      refine then_normal ?_
      refine c_seq ?_
      refine c_draw [(bt, C (arrL 340 z.f) 111)] [11, 12] mixed hh ?_
      clear hh w; intro w hh
      have hM : Mem [(bt, C (arrL 340 z.f) 111)] w := (memK hh (by repeat (first | exact keeps_nil | apply keeps_cons (by repeat (first | exact find_head | apply find_tail | apply find_skip)) (by first  | rfl) | exact keeps_self | exact keeps_left | apply keeps_app | apply keeps_mv | apply keeps_skip)))
      refine d_take (i := 0) hl rfl (by kernel_rfl) (by kernel_rfl) (by kernel_rfl) (by kernel_rfl) (by kernel_rfl) rfl trivial (fun _ _ _ h => h) hM (fun w hC => r_move hl rfl) rfl ?_
      clear hl a; intro a hl
      refine d_take (i := 1) hl rfl (by kernel_rfl) (by kernel_rfl) (by kernel_rfl) (by kernel_rfl) (by kernel_rfl) rfl trivial (fun _ _ _ h => h) hM (fun w hC => r_move hl rfl) rfl ?_
      clear hl a; intro a hl
      refine d_take (i := 2) hl rfl (by kernel_rfl) (by kernel_rfl) (by kernel_rfl) (by kernel_rfl) (by kernel_rfl) rfl trivial (fun _ _ _ h => h) hM (fun w hC => r_move hl rfl) rfl ?_
      clear hl a; intro a hl
      refine d_take (i := 3) hl rfl (by kernel_rfl) (by kernel_rfl) (by kernel_rfl) (by kernel_rfl) (by kernel_rfl) rfl trivial (fun _ _ _ h => h) hM (fun w hC => r_move hl rfl) rfl ?_
      clear hl a; intro a hl
      refine d_take (i := 4) hl rfl (by kernel_rfl) (by kernel_rfl) (by kernel_rfl) (by kernel_rfl) (by kernel_rfl) rfl trivial (fun _ _ _ h => h) hM (fun w hC => r_nilCheck hl rfl) rfl ?_
      clear hl a; intro a hl
      refine d_take (i := 5) hl rfl (by kernel_rfl) (by kernel_rfl) (by kernel_rfl) (by kernel_rfl) (by kernel_rfl) rfl trivial (fun _ _ _ h => h) hM (fun w hC => r_field hl rfl fld111_1) rfl ?_
      clear hl a; intro a hl
      refine d_take (i := 6) hl rfl (by kernel_rfl) (by kernel_rfl) (by kernel_rfl) (by kernel_rfl) (by kernel_rfl) rfl trivial (fun _ _ _ h => h) hM (fun w hC => r_indexA hl rfl rfl arr109 (by omega) (by omega) (by first | (simp only [Int.reduceToNat]; rfl) | exact toNat_add1 _ | exact toNat_add2 _ _ | exact toNat_emod _ _ | exact Int.toNat_natCast _ | rfl)) rfl ?_
      clear hl a; intro a hl
      refine d_take (i := 7) hl rfl (by kernel_rfl) (by kernel_rfl) (by kernel_rfl) (by kernel_rfl) (by kernel_rfl) rfl trivial (fun _ _ _ h => h) hM (fun w hC => r_loadC hl rfl one108 hC (by repeat (first | exact find_head | apply find_tail | apply find_skip)) (by first | exact low_q hr | exact low_held hI.rt.held hr hxt.1 | exact low_held (rt_held2 hI.rt hr _) hr hxt.1 | exact fl_cell rqc_len hx0 rfl junk | rfl)) rfl ?_
      clear hl a; intro a hl
      rw [hpc] at hl
      refine d_take (i := 9) hl rfl (by kernel_rfl) (by kernel_rfl) (by kernel_rfl) (by kernel_rfl) (by kernel_rfl) rfl trivial (fun _ _ _ h => h) hM (fun w hC => r_nilCheck hl rfl) rfl ?_
      clear hl a; intro a hl
      refine d_take (i := 10) hl rfl (by kernel_rfl) (by kernel_rfl) (by kernel_rfl) (by kernel_rfl) (by kernel_rfl) rfl trivial (fun _ _ _ h => h) hM (fun w hC => r_field hl rfl fld111_1) rfl ?_
      clear hl a; intro a hl
      refine d_one (i := 8) (by kernel_rfl) rfl ?_
      try clear hM
      refine id (w_call hl hh rfl trivial rfl cal92 rfl (delQ_spec z.l (some ⟨b, 0, none⟩) c9 _ (hpc ▸ hI.rt.row) (by omega) 0 1 (by omega) (by omega)) (by repeat (first | exact keeps_nil | apply keeps_cons (by repeat (first | exact find_head | apply find_tail | apply find_skip)) (by first  | rfl) | exact keeps_self | exact keeps_left | apply keeps_app | apply keeps_mv | apply keeps_skip)) trivial ?_)
      clear hl hh a w; intro vc Fc a w hR hl hh
      try simp only [List.cons_append, List.nil_append, List.append_assoc, List.append_nil] at hh
      rw [hlt] at hR
      simp only [List.take_zero, List.nil_append, List.drop_succ_cons, List.drop_zero] at hR
      have hRd := hR
      clear hR
      generalize Fc = Ed at hh hRd
      generalize vc = vd at hl hRd
      have hM : Mem [(bt, C (arrL 340 z.f) 111)] w := (memK hh (by repeat (first | exact keeps_nil | apply keeps_cons (by repeat (first | exact find_head | apply find_tail | apply find_skip)) (by first  | rfl) | exact keeps_self | exact keeps_left | apply keeps_app | apply keeps_mv | apply keeps_skip)))
      refine d_step (fun _ => hM) ?_
      refine d_takeL (i := 11) hl rfl (by kernel_rfl) (by kernel_rfl) (by kernel_rfl) (by kernel_rfl) (by kernel_rfl) rfl trivial (fun _ _ _ h => h) (fun w => r_indexA hl rfl rfl arr109 (by omega) (by omega) (by first | (simp only [Int.reduceToNat]; rfl) | exact toNat_add1 _ | exact toNat_add2 _ _ | exact toNat_emod _ _ | exact Int.toNat_natCast _ | rfl)) rfl ?_
      clear hl a; intro a hl
      refine d_one (i := 12) (by kernel_rfl) rfl ?_
      try clear hM
      refine id (w_store hl hh trivial one108 rfl rfl (by repeat (first | exact find_head | apply find_tail | apply find_skip)) (by first | (simp; done) | (simp; omega) | (rw [arrL_length]; omega)) (by first | rfl | assumption | (apply Row.one; assumption)) (by first | exact set_q hr | exact set_held hr hxt.1 | (simp only [setL, List.getElem?_cons_zero, List.getElem?_cons_succ, Value.cells, List.take_zero, List.take_succ_cons, List.take_nil, List.drop_zero, List.drop_succ_cons, List.drop_nil, List.length_cons, List.length_nil, List.cons_append, List.nil_append, List.append_nil, Nat.zero_add, Nat.add_zero, Nat.reduceAdd, Nat.reduceBEq, Nat.reduceEqDiff, Nat.ble, BEq.rfl, Bool.and_true, Bool.and_self, cond_true, beq_self_eq_true]; rfl)) ?_)
      clear hh w; intro w hh
      refine d_step (fun h => absurd h (by decide)) ?_
      refine d_done (by kernel_rfl) ?_
      try clear hM
      have hl2 := hl.add (t := 0) (hl.add (t := 1) (hl.add (t := 5) (hl.add (t := 6) (hl.nil) rfl) rfl) rfl) rfl; clear hl; have hl := hl2; clear hl2
      refine then_normal ?_
      refine c_seq ?_
      refine c_draw [(bt, C (arrL 340 (updV z.f (320 + r) vd)) 111), (k6, C (rqc x) 130)] [15, 16] mixed hh ?_
      clear hh w; intro w hh
      have hM : Mem [(bt, C (arrL 340 (updV z.f (320 + r) vd)) 111), (k6, C (rqc x) 130)] w := (memK hh (by repeat (first | exact keeps_nil | apply keeps_cons (by repeat (first | exact find_head | apply find_tail | apply find_skip)) (by first  | rfl) | exact keeps_self | exact keeps_left | apply keeps_app | apply keeps_mv | apply keeps_skip)))
      refine d_take (i := 0) hl rfl (by kernel_rfl) (by kernel_rfl) (by kernel_rfl) (by kernel_rfl) (by kernel_rfl) rfl trivial (fun _ _ _ h => h) hM (fun w hC => r_move hl rfl) rfl ?_
      clear hl a; intro a hl
      refine d_take (i := 1) hl rfl (by kernel_rfl) (by kernel_rfl) (by kernel_rfl) (by kernel_rfl) (by kernel_rfl) rfl trivial (fun _ _ _ h => h) hM (fun w hC => r_move hl rfl) rfl ?_
      clear hl a; intro a hl
      refine d_take (i := 2) hl rfl (by kernel_rfl) (by kernel_rfl) (by kernel_rfl) (by kernel_rfl) (by kernel_rfl) rfl trivial (fun _ _ _ h => h) hM (fun w hC => r_field hl rfl fld130_0) rfl ?_
      clear hl a; intro a hl
      refine d_take (i := 3) hl rfl (by kernel_rfl) (by kernel_rfl) (by kernel_rfl) (by kernel_rfl) (by kernel_rfl) rfl trivial (fun _ _ _ h => h) hM (fun w hC => r_loadC hl rfl one57 hC (by repeat (first | exact find_head | apply find_tail | apply find_skip)) (by first | exact low_q hr | exact low_held hI.rt.held hr hxt.1 | exact low_held (rt_held2 hI.rt hr _) hr hxt.1 | exact fl_cell rqc_len hx0 rfl junk | rfl)) rfl ?_
      clear hl a; intro a hl
      refine d_take (i := 4) hl rfl (by kernel_rfl) (by kernel_rfl) (by kernel_rfl) (by kernel_rfl) (by kernel_rfl) rfl trivial (fun _ _ _ h => h) hM (fun w hC => r_nilCheck hl rfl) rfl ?_
      clear hl a; intro a hl
      refine d_take (i := 5) hl rfl (by kernel_rfl) (by kernel_rfl) (by kernel_rfl) (by kernel_rfl) (by kernel_rfl) rfl trivial (fun _ _ _ h => h) hM (fun w hC => r_field hl rfl fld111_0) rfl ?_
      clear hl a; intro a hl
      refine d_take (i := 6) hl rfl (by kernel_rfl) (by kernel_rfl) (by kernel_rfl) (by kernel_rfl) (by kernel_rfl) rfl trivial (fun _ _ _ h => h) hM (fun w hC => r_indexA hl rfl rfl arr107 (by omega) (by omega) (by first | (simp only [Int.reduceToNat]; rfl) | exact toNat_add1 _ | exact toNat_add2 _ _ | exact toNat_emod _ _ | exact Int.toNat_natCast _ | rfl)) rfl ?_
      clear hl a; intro a hl
      refine d_take (i := 7) hl rfl (by kernel_rfl) (by kernel_rfl) (by kernel_rfl) (by kernel_rfl) (by kernel_rfl) rfl trivial (fun _ _ _ h => h) hM (fun w hC => r_indexA hl rfl rfl arr106 (by omega) (by omega) (by first | (simp only [Int.reduceToNat]; rfl) | exact toNat_add1 _ | exact toNat_add2 _ _ | exact toNat_emod _ _ | exact Int.toNat_natCast _ | rfl)) rfl ?_
      clear hl a; intro a hl
      refine d_take (i := 8) hl rfl (by kernel_rfl) (by kernel_rfl) (by kernel_rfl) (by kernel_rfl) (by kernel_rfl) rfl trivial (fun _ _ _ h => h) hM (fun w hC => r_loadC hl rfl one3 hC (by repeat (first | exact find_head | apply find_tail | apply find_skip)) (by first | exact low_q hr | exact low_held hI.rt.held hr hxt.1 | exact low_held (rt_held2 hI.rt hr _) hr hxt.1 | exact fl_cell rqc_len hx0 rfl junk | rfl)) rfl ?_
      clear hl a; intro a hl
      refine d_take (i := 9) hl rfl (by kernel_rfl) (by kernel_rfl) (by kernel_rfl) (by kernel_rfl) (by kernel_rfl) rfl trivial (fun _ _ _ h => h) hM (fun w hC => r_field hl rfl fld130_1) rfl ?_
      clear hl a; intro a hl
      refine d_take (i := 10) hl rfl (by kernel_rfl) (by kernel_rfl) (by kernel_rfl) (by kernel_rfl) (by kernel_rfl) rfl trivial (fun _ _ _ h => h) hM (fun w hC => r_loadC hl rfl one3 hC (by repeat (first | exact find_head | apply find_tail | apply find_skip)) (by first | exact low_q hr | exact low_held hI.rt.held hr hxt.1 | exact low_held (rt_held2 hI.rt hr _) hr hxt.1 | exact fl_cell rqc_len hx0 rfl junk | rfl)) rfl ?_
      clear hl a; intro a hl
      first | refine d_take (i := 11) hl rfl (by kernel_rfl) (by kernel_rfl) (by kernel_rfl) (by kernel_rfl) (by kernel_rfl) rfl trivial (fun _ _ _ h => h) hM (fun w hC => r_add hl rfl rfl (by simp only [Fits]; omega)) rfl ?_ | refine d_take (i := 11) hl rfl (by kernel_rfl) (by kernel_rfl) (by kernel_rfl) (by kernel_rfl) (by kernel_rfl) rfl trivial (fun _ _ _ h => h) hM (fun w hC => r_addW hl rfl rfl) rfl ?_
      clear hl a; intro a hl
      refine d_take (i := 12) hl rfl (by kernel_rfl) (by kernel_rfl) (by kernel_rfl) (by kernel_rfl) (by kernel_rfl) rfl trivial (fun _ _ _ h => h) hM (fun w hC => r_nilCheck hl rfl) rfl ?_
      clear hl a; intro a hl
      refine d_take (i := 13) hl rfl (by kernel_rfl) (by kernel_rfl) (by kernel_rfl) (by kernel_rfl) (by kernel_rfl) rfl trivial (fun _ _ _ h => h) hM (fun w hC => r_field hl rfl fld111_0) rfl ?_
      clear hl a; intro a hl
      refine d_take (i := 14) hl rfl (by kernel_rfl) (by kernel_rfl) (by kernel_rfl) (by kernel_rfl) (by kernel_rfl) rfl trivial (fun _ _ _ h => h) hM (fun w hC => r_indexA hl rfl rfl arr107 (by omega) (by omega) (by first | (simp only [Int.reduceToNat]; rfl) | exact toNat_add1 _ | exact toNat_add2 _ _ | exact toNat_emod _ _ | exact Int.toNat_natCast _ | rfl)) rfl ?_
      clear hl a; intro a hl
      refine d_takeL (i := 15) hl rfl (by kernel_rfl) (by kernel_rfl) (by kernel_rfl) (by kernel_rfl) (by kernel_rfl) rfl trivial (fun _ _ _ h => h) (fun w => r_indexA hl rfl rfl arr106 (by omega) (by omega) (by first | (simp only [Int.reduceToNat]; rfl) | exact toNat_add1 _ | exact toNat_add2 _ _ | exact toNat_emod _ _ | exact Int.toNat_natCast _ | rfl)) rfl ?_
      clear hl a; intro a hl
      refine d_one (i := 16) (by kernel_rfl) rfl ?_
      try clear hM
      refine id (w_store hl hh trivial one3 rfl rfl (by repeat (first | exact find_head | apply find_tail | apply find_skip)) (by first | (simp; done) | (simp; omega) | (rw [arrL_length]; omega)) (by first | rfl | assumption | (apply Row.one; assumption)) (by first | exact set_q hr | exact set_held hr hxt.1 | (simp only [setL, List.getElem?_cons_zero, List.getElem?_cons_succ, Value.cells, List.take_zero, List.take_succ_cons, List.take_nil, List.drop_zero, List.drop_succ_cons, List.drop_nil, List.length_cons, List.length_nil, List.cons_append, List.nil_append, List.append_nil, Nat.zero_add, Nat.add_zero, Nat.reduceAdd, Nat.reduceBEq, Nat.reduceEqDiff, Nat.ble, BEq.rfl, Bool.and_true, Bool.and_self, cond_true, beq_self_eq_true]; rfl)) ?_)
      clear hh w; intro w hh
      refine d_step (fun h => absurd h (by decide)) ?_
      refine d_done (by kernel_rfl) ?_
      try clear hM
      have hl2 := hl.add (t := 0) (hl.add (t := 1) (hl.add (t := 5) (hl.add (t := 6) (hl.nil) rfl) rfl) rfl) rfl; clear hl; have hl := hl2; clear hl2
      refine then_normal ?_
      refine c_region ?_
      refine wl (wl_val hl rfl trivial (r_move hl rfl) ?_)
      clear hl a; intro a hl
      refine wl (wl_val hl rfl trivial (r_field hl rfl fld130_0) ?_)
      clear hl a; intro a hl
      refine wl (w_load hl hh rfl trivial one57 rfl (by repeat (first | exact find_head | apply find_tail | apply find_skip)) (by first | exact low_q hr | exact low_held hI.rt.held hr hxt.1 | exact low_held (rt_held2 hI.rt hr _) hr hxt.1 | exact fl_cell rqc_len hx0 rfl junk | rfl) ?_)
      clear hl a; intro a hl
      refine wl (w_buildSlice hl hh rfl trivial app114 zero57 rfl rfl rfl rfl rfl (by simp only [fillL, arrPl, List.range_succ, List.range_zero, List.map_cons, List.map_nil, List.map_append, List.nil_append, List.replicate_succ, List.replicate_zero, List.flatten_cons, List.flatten_nil, Nat.zero_mul, Nat.mul_one, Nat.one_mul, Nat.reduceMul, setL, List.getElem?_cons_zero, List.getElem?_cons_succ, Value.cells, List.take_zero, List.take_succ_cons, List.take_nil, List.drop_zero, List.drop_succ_cons, List.drop_nil, List.length_cons, List.length_nil, List.cons_append, List.nil_append, List.append_nil, Nat.zero_add, Nat.add_zero, Nat.reduceAdd, Nat.reduceBEq, Nat.reduceEqDiff, Nat.ble, BEq.rfl, Bool.and_true, Bool.and_self, cond_true, beq_self_eq_true]; rfl) ?_)
      clear hl hh a w; intro k69 a w hl hh
      refine wl (w_append (news := [.int .i64 (x.t : Int)]) hl hh rfl trivial app114 rfl rfl rfl hI.rw_ (by repeat (first | exact keeps_nil | apply keeps_cons (by repeat (first | exact find_head | apply find_tail | apply find_skip)) (by first  | rfl) | exact keeps_self | exact keeps_left | apply keeps_app | apply keeps_mv | apply keeps_skip)) (hh.mem _ _ (Find.mem (by repeat (first | exact find_head | apply find_tail | apply find_skip)))) rfl rfl rfl (by omega) (by omega) (by omega) (by decide) ?_)
      clear hl hh a w; intro rv2 E2 a w hR2 hl hh
      have hh3 := hh.comm; clear hh; have hh := hh3; clear hh3
      try simp only [List.cons_append, List.nil_append, List.append_assoc, List.append_nil] at hh
      refine wl (wl_val hl rfl trivial (r_assign hl rfl) ?_)
      clear hl a; intro a hl
      refine w_nil ?_
      have hl2 := hl.add (t := 0) (hl.add (t := 1) (hl.add (t := 5) (hl.nil) rfl) rfl) rfl; clear hl; have hl := hl2; clear hl2
      refine blk_normal ?_
      refine then_normal ?_
      refine ⟨⟨giveH z.h x, lt, updV (updV z.f (320 + r) vd) (16 * r + x.t) (.int .i64 (z.h x.t + x.u)), Ed, rv2, E2, z.wk ++ [x.t]⟩, (by rw [hlt]; simp), (hI.next hr (by omega) hlt (by assumption) hRd hR2 rfl), hl.addE (t := 5) (hl.addE (t := 0) (hl.addE (t := 1) (hl.nil) rfl (by first | rfl | (congr 1; omega))) rfl (by first | rfl | (congr 1; omega))) rfl (by first | rfl | (congr 1; omega)), hh.keep (by repeat (first | exact keeps_nil | apply keeps_cons (by repeat (first | exact find_head | apply find_tail | apply find_skip)) (by first  | rfl) | exact keeps_self | exact keeps_left | apply keeps_app | apply keeps_mv | apply keeps_skip))⟩
    · intro hc0
      try simp only [decide_eq_true_eq, decide_eq_false_iff_not, Bool.not_eq_true', Bool.not_eq_false', Bool.not_eq_true, Bool.not_eq_false, Bool.and_eq_true, Bool.or_eq_true, Bool.and_eq_false_iff, Bool.or_eq_false_iff, Bool.not_not, ne_eq, Int.not_lt, Int.not_le, Decidable.not_not, beq_iff_eq, bne_iff_ne] at hc0
      have hstop : wakeP (totP r) z.l z.h = (z.h, z.l, []) := wake_stop (by intro y hy; first | (rw [hx0] at hy; cases hy; omega) | (exfalso; have hy2 := (List.getElem?_eq_some_iff.1 hy).1; omega))
      obtain ⟨E3, hh3, hI3⟩ : ∃ E3, Has (List.map Prod.fst ((bt, C (arrL 340 f) 111) :: E)) w0 ((bt, C (arrL 340 z.f) 111) :: (E3 ++ z.Ew)) w ∧ WKI (totP r) f h l r z E3 := by first | exact ⟨E2_, hh, hI⟩ | exact ⟨[(b, C (fl rqc z.l ++ junk) 130)], hh, hI⟩
      clear hh hI
      have hh := hh3
      have hI := hI3
      clear hh3 hI3
      refine wp_exit ?_
      refine then_exit ?_
      refine then_exit ?_
      refine blk_exit ?_
      refine then_normal ?_
      refine c_seq ?_
      refine c_region ?_
      refine wl (wl_val hl rfl trivial (r_move hl rfl) ?_)
      clear hl a; intro a hl
      refine wl (wl_val hl rfl trivial (r_assign hl rfl) ?_)
      clear hl a; intro a hl
      refine w_nil ?_
      have hl2 := hl.add (t := 4) (hl.nil) rfl; clear hl; have hl := hl2; clear hl2
      refine then_normal ?_
      refine wp_ret ?_
      refine f_ret1 (F' := ((bt, C (arrL 340 z.f) 111) :: (E3 ++ z.Ew))) hl hh rfl rfl (by repeat (first | exact keeps_nil | apply keeps_cons (by repeat (first | exact find_head | apply find_tail | apply find_skip)) (by first  | rfl) | exact keeps_self | exact keeps_left | apply keeps_app | apply keeps_mv | apply keeps_skip)) ?_
      have he := hI.eq
      rw [hstop] at he
      simp only [List.append_nil] at he
      rw [he]
      exact ⟨z.f, E3, z.Ew, rfl, hI.rt, hI.fr, hI.rw_⟩
  · intro hg1; clear hl; intro hl
    try simp only [decide_eq_true_eq, decide_eq_false_iff_not, Bool.not_eq_true', Bool.not_eq_false', Bool.not_eq_true, Bool.not_eq_false, Bool.and_eq_true, Bool.or_eq_true, Bool.and_eq_false_iff, Bool.or_eq_false_iff, Bool.not_not, ne_eq, Int.not_lt, Int.not_le, Decidable.not_not, beq_iff_eq, bne_iff_ne] at hg1
    refine d_skip (i := 9) hl rfl (by kernel_rfl) (by kernel_rfl) (by kernel_rfl) (by kernel_rfl) (by kernel_rfl) rfl ⟨_, _, rfl, rfl, rfl⟩ (fun _ _ _ h => h) hM ?_
    clear hl a; intro a hl
    refine d_skip (i := 10) hl rfl (by kernel_rfl) (by kernel_rfl) (by kernel_rfl) (by kernel_rfl) (by kernel_rfl) rfl ⟨_, _, rfl, rfl, rfl⟩ (fun _ _ _ h => h) hM ?_
    clear hl a; intro a hl
    refine d_skip (i := 11) hl rfl (by kernel_rfl) (by kernel_rfl) (by kernel_rfl) (by kernel_rfl) (by kernel_rfl) rfl ⟨_, _, rfl, rfl, rfl⟩ (fun _ _ _ h => h) hM ?_
    clear hl a; intro a hl
    refine d_skip (i := 12) hl rfl (by kernel_rfl) (by kernel_rfl) (by kernel_rfl) (by kernel_rfl) (by kernel_rfl) rfl ⟨_, _, rfl, rfl, rfl⟩ (fun _ _ _ h => h) hM ?_
    clear hl a; intro a hl
    refine d_skip (i := 13) hl rfl (by kernel_rfl) (by kernel_rfl) (by kernel_rfl) (by kernel_rfl) (by kernel_rfl) rfl ⟨_, _, rfl, rfl, rfl⟩ (fun _ _ _ h => h) hM ?_
    clear hl a; intro a hl
    refine d_skip (i := 14) hl rfl (by kernel_rfl) (by kernel_rfl) (by kernel_rfl) (by kernel_rfl) (by kernel_rfl) rfl ⟨_, _, rfl, rfl, rfl⟩ (fun _ _ _ h => h) hM ?_
    clear hl a; intro a hl
    refine d_skip (i := 15) hl rfl (by kernel_rfl) (by kernel_rfl) (by kernel_rfl) (by kernel_rfl) (by kernel_rfl) rfl ⟨_, _, rfl, rfl, rfl⟩ (fun _ _ _ h => h) hM ?_
    clear hl a; intro a hl
    refine d_skip (i := 16) hl rfl (by kernel_rfl) (by kernel_rfl) (by kernel_rfl) (by kernel_rfl) (by kernel_rfl) rfl ⟨_, _, rfl, rfl, rfl⟩ (fun _ _ _ h => h) hM ?_
    clear hl a; intro a hl
    refine d_skip (i := 17) hl rfl (by kernel_rfl) (by kernel_rfl) (by kernel_rfl) (by kernel_rfl) (by kernel_rfl) rfl ⟨_, _, rfl, rfl, rfl⟩ (fun _ _ _ h => h) hM ?_
    clear hl a; intro a hl
    refine d_skip (i := 18) hl rfl (by kernel_rfl) (by kernel_rfl) (by kernel_rfl) (by kernel_rfl) (by kernel_rfl) rfl ⟨_, _, rfl, rfl, rfl⟩ (fun _ _ _ h => h) hM ?_
    clear hl a; intro a hl
    refine d_skip (i := 19) hl rfl (by kernel_rfl) (by kernel_rfl) (by kernel_rfl) (by kernel_rfl) (by kernel_rfl) rfl ⟨_, _, rfl, rfl, rfl⟩ (fun _ _ _ h => h) hM ?_
    clear hl a; intro a hl
    refine d_skip (i := 20) hl rfl (by kernel_rfl) (by kernel_rfl) (by kernel_rfl) (by kernel_rfl) (by kernel_rfl) rfl ⟨_, _, rfl, rfl, rfl⟩ (fun _ _ _ h => h) hM ?_
    clear hl a; intro a hl
    refine d_skip (i := 21) hl rfl (by kernel_rfl) (by kernel_rfl) (by kernel_rfl) (by kernel_rfl) (by kernel_rfl) rfl ⟨_, _, rfl, rfl, rfl⟩ (fun _ _ _ h => h) hM ?_
    clear hl a; intro a hl
    refine d_takeL (i := 22) hl rfl (by kernel_rfl) (by kernel_rfl) (by kernel_rfl) (by kernel_rfl) (by kernel_rfl) rfl trivial (fun _ _ _ h => h) (fun w => r_pickF hl rfl rfl) rfl ?_
    clear hl a; intro a hl
    refine d_done (by kernel_rfl) ?_
    try clear hM
    have hl2 := hl.add (t := 0) (hl.add (t := 1) (hl.add (t := 5) (hl.add (t := 29) (hl.nil) rfl) rfl) rfl) rfl; clear hl; have hl := hl2; clear hl2
    refine then_normal ?_
    refine c_condF hl rfl ?_
    have hstop : wakeP (totP r) z.l z.h = (z.h, z.l, []) := wake_stop (by intro y hy; first | (rw [hx0] at hy; cases hy; omega) | (exfalso; have hy2 := (List.getElem?_eq_some_iff.1 hy).1; omega))
    obtain ⟨E3, hh3, hI3⟩ : ∃ E3, Has (List.map Prod.fst ((bt, C (arrL 340 f) 111) :: E)) w0 ((bt, C (arrL 340 z.f) 111) :: (E3 ++ z.Ew)) w ∧ WKI (totP r) f h l r z E3 := by first | exact ⟨E2_, hh, hI⟩ | exact ⟨[(b, C (fl rqc z.l ++ junk) 130)], hh, hI⟩
    clear hh hI
    have hh := hh3
    have hI := hI3
    clear hh3 hI3
    refine wp_exit ?_
    refine then_exit ?_
    refine then_exit ?_
    refine blk_exit ?_
    refine then_normal ?_
    refine c_seq ?_
    refine c_region ?_
    refine wl (wl_val hl rfl trivial (r_move hl rfl) ?_)
    clear hl a; intro a hl
    refine wl (wl_val hl rfl trivial (r_assign hl rfl) ?_)
    clear hl a; intro a hl
    refine w_nil ?_
    have hl2 := hl.add (t := 4) (hl.nil) rfl; clear hl; have hl := hl2; clear hl2
    refine then_normal ?_
    refine wp_ret ?_
    refine f_ret1 (F' := ((bt, C (arrL 340 z.f) 111) :: (E3 ++ z.Ew))) hl hh rfl rfl (by repeat (first | exact keeps_nil | apply keeps_cons (by repeat (first | exact find_head | apply find_tail | apply find_skip)) (by first  | rfl) | exact keeps_self | exact keeps_left | apply keeps_app | apply keeps_mv | apply keeps_skip)) ?_
    have he := hI.eq
    rw [hstop] at he
    simp only [List.append_nil] at he
    rw [he]
    exact ⟨z.f, E3, z.Ew, rfl, hI.rt, hI.fr, hI.rw_⟩

set_option maxHeartbeats 1000000 in
theorem drop_lowF {f : Nat → Value} {r : Nat} {h : Nat → Int} {l : List Rq} {E : List (Nat × Obj)} (hT : RowT f r h l E) (hB : HB h l) (hr : r < 20) (t : Nat) (ht : t < 16) (bt : Nat) (h0 : h t = 0) : Sp Tryz.prog 50 #[.pointer (some ⟨bt, 0, none⟩), .int .i64 (t : Int), .int .i64 (r : Int)] ((bt, C (arrL 340 f) 111) :: E) (fun v F' => v = .tuple #[.slice none 0 0, .int .i64 10] ∧ F' = (bt, C (arrL 340 f) 111) :: E) := by
  refine f_enter (args := [.pointer (some ⟨bt, 0, none⟩), .int .i64 (t : Int), .int .i64 (r : Int)]) Tryz.func50 rfl Tryz.ntmps50 rfl ?_
  intro w0 w a hpre hl hh
  simp only [slotsFrom, Nat.reduceAdd] at hl
  refine c_seq ?_
  refine c_region ?_
  refine wl (wl_val hl rfl trivial (r_assign hl rfl) ?_)
  clear hl a; intro a hl
  refine wl (wl_val hl rfl trivial (r_assign hl rfl) ?_)
  clear hl a; intro a hl
  refine w_nil ?_
  have hl2 := hl.add (t := 0) (hl.add (t := 1) (hl.add (t := 2) (hl.nil) rfl) rfl) rfl; clear hl; have hl := hl2; clear hl2
  refine then_normal ?_
  refine c_seq ?_
  refine c_seq ?_
  refine c_region ?_
  refine wl (wl_val hl rfl trivial (r_move hl rfl) ?_)
  clear hl a; intro a hl
  refine wl (wl_val hl rfl trivial (r_move hl rfl) ?_)
  clear hl a; intro a hl
  refine wl (wl_val hl rfl trivial (r_move hl rfl) ?_)
  clear hl a; intro a hl
  refine wl (wl_val hl rfl trivial (r_nilCheck hl rfl) ?_)
  clear hl a; intro a hl
  refine wl (wl_val hl rfl trivial (r_field hl rfl fld111_0) ?_)
  clear hl a; intro a hl
  refine wl (wl_val hl rfl trivial (r_indexA hl rfl rfl arr107 (by omega) (by omega) (by first | (simp only [Int.reduceToNat]; rfl) | exact toNat_add1 _ | exact toNat_add2 _ _ | exact toNat_emod _ _ | exact Int.toNat_natCast _ | rfl)) ?_)
  clear hl a; intro a hl
  refine wl (wl_val hl rfl trivial (r_indexA hl rfl rfl arr106 (by omega) (by omega) (by first | (simp only [Int.reduceToNat]; rfl) | exact toNat_add1 _ | exact toNat_add2 _ _ | exact toNat_emod _ _ | exact Int.toNat_natCast _ | rfl)) ?_)
  clear hl a; intro a hl
  refine wl (w_load hl hh rfl trivial one3 rfl (by repeat (first | exact find_head | apply find_tail | apply find_skip)) (by first | exact low_q hr | exact low_held hT.held hr ht | rfl) ?_)
  clear hl a; intro a hl
  refine wl (wl_val hl rfl trivial (r_eql hl rfl rfl) ?_)
  clear hl a; intro a hl
  refine w_nil ?_
  have hl2 := hl.add (t := 0) (hl.add (t := 1) (hl.add (t := 2) (hl.add (t := 16) (hl.nil) rfl) rfl) rfl) rfl; clear hl; have hl := hl2; clear hl2
  refine then_normal ?_
  refine c_cond hl rfl ?_ ?_
  · intro hc0
    try simp only [decide_eq_true_eq, decide_eq_false_iff_not, Bool.not_eq_true', Bool.not_eq_false', Bool.not_eq_true, Bool.not_eq_false, Bool.and_eq_true, Bool.or_eq_true, Bool.and_eq_false_iff, Bool.or_eq_false_iff, Bool.not_not, ne_eq, Int.not_lt, Int.not_le, Decidable.not_not, beq_iff_eq, bne_iff_ne] at hc0
    refine c_seq ?_
    refine c_region ?_
    refine wl (wl_val hl rfl trivial (r_assign hl rfl) ?_)
    clear hl a; intro a hl
    refine wl (wl_val hl rfl trivial (r_assign hl rfl) ?_)
    clear hl a; intro a hl
    refine w_nil ?_
    have hl2 := hl.add (t := 6) (hl.add (t := 7) (hl.nil) rfl) rfl; clear hl; have hl := hl2; clear hl2
    refine then_normal ?_
    refine wp_ret ?_
    refine then_ret ?_
    refine f_ret2 (F' := ((bt, C (arrL 340 f) 111) :: E)) hl hh rfl rfl rfl (by repeat (first | exact keeps_nil | apply keeps_cons (by repeat (first | exact find_head | apply find_tail | apply find_skip)) (by first  | rfl) | exact keeps_self | exact keeps_left | apply keeps_app | apply keeps_mv | apply keeps_skip)) ?_
    exact ⟨rfl, rfl⟩
  · intro hc0
    try simp only [decide_eq_true_eq, decide_eq_false_iff_not, Bool.not_eq_true', Bool.not_eq_false', Bool.not_eq_true, Bool.not_eq_false, Bool.and_eq_true, Bool.or_eq_true, Bool.and_eq_false_iff, Bool.or_eq_false_iff, Bool.not_not, ne_eq, Int.not_lt, Int.not_le, Decidable.not_not, beq_iff_eq, bne_iff_ne] at hc0
    exfalso; first | contradiction | omega

set_option maxHeartbeats 1000000 in
theorem drop_low {f : Nat → Value} {r : Nat} {h : Nat → Int} {l : List Rq} {E : List (Nat × Obj)} (hT : RowT f r h l E) (hB : HB h l) (hr : r < 20) (t : Nat) (ht : t < 16) (bt : Nat) (h0 : h t ≠ 0) : Sp Tryz.prog 50 #[.pointer (some ⟨bt, 0, none⟩), .int .i64 (t : Int), .int .i64 (r : Int)] ((bt, C (arrL 340 f) 111) :: E) (fun v F' => ∃ f' E' Ew, F' = (bt, C (arrL 340 f') 111) :: (E' ++ Ew) ∧ RowT f' r (wakeP (totP r) l (zeroH h t)).1 (wakeP (totP r) l (zeroH h t)).2.1 E' ∧ (∀ j, (j < 16 * r ∨ 16 * r + 16 ≤ j) → j ≠ 320 + r → f' j = f j) ∧ ∃ vw, v = .tuple #[vw, .int .i64 0] ∧ Row vw (wakeP (totP r) l (zeroH h t)).2.2.length (fl tkc (wakeP (totP r) l (zeroH h t)).2.2) 1 57 Ew) := by
  refine f_enter (args := [.pointer (some ⟨bt, 0, none⟩), .int .i64 (t : Int), .int .i64 (r : Int)]) Tryz.func50 rfl Tryz.ntmps50 rfl ?_
  intro w0 w a hpre hl hh
  have hth := hB.le ht
  simp only [slotsFrom, Nat.reduceAdd] at hl
  refine c_seq ?_
  refine c_region ?_
  refine wl (wl_val hl rfl trivial (r_assign hl rfl) ?_)
  clear hl a; intro a hl
  refine wl (wl_val hl rfl trivial (r_assign hl rfl) ?_)
  clear hl a; intro a hl
  refine w_nil ?_
  have hl2 := hl.add (t := 0) (hl.add (t := 1) (hl.add (t := 2) (hl.nil) rfl) rfl) rfl; clear hl; have hl := hl2; clear hl2
  refine then_normal ?_
  refine c_seq ?_
  refine c_seq ?_
  refine c_region ?_
  refine wl (wl_val hl rfl trivial (r_move hl rfl) ?_)
  clear hl a; intro a hl
  refine wl (wl_val hl rfl trivial (r_move hl rfl) ?_)
  clear hl a; intro a hl
  refine wl (wl_val hl rfl trivial (r_move hl rfl) ?_)
  clear hl a; intro a hl
  refine wl (wl_val hl rfl trivial (r_nilCheck hl rfl) ?_)
  clear hl a; intro a hl
  refine wl (wl_val hl rfl trivial (r_field hl rfl fld111_0) ?_)
  clear hl a; intro a hl
  refine wl (wl_val hl rfl trivial (r_indexA hl rfl rfl arr107 (by omega) (by omega) (by first | (simp only [Int.reduceToNat]; rfl) | exact toNat_add1 _ | exact toNat_add2 _ _ | exact toNat_emod _ _ | exact Int.toNat_natCast _ | rfl)) ?_)
  clear hl a; intro a hl
  refine wl (wl_val hl rfl trivial (r_indexA hl rfl rfl arr106 (by omega) (by omega) (by first | (simp only [Int.reduceToNat]; rfl) | exact toNat_add1 _ | exact toNat_add2 _ _ | exact toNat_emod _ _ | exact Int.toNat_natCast _ | rfl)) ?_)
  clear hl a; intro a hl
  refine wl (w_load hl hh rfl trivial one3 rfl (by repeat (first | exact find_head | apply find_tail | apply find_skip)) (by first | exact low_q hr | exact low_held hT.held hr ht | rfl) ?_)
  clear hl a; intro a hl
  refine wl (wl_val hl rfl trivial (r_eql hl rfl rfl) ?_)
  clear hl a; intro a hl
  refine w_nil ?_
  have hl2 := hl.add (t := 0) (hl.add (t := 1) (hl.add (t := 2) (hl.add (t := 16) (hl.nil) rfl) rfl) rfl) rfl; clear hl; have hl := hl2; clear hl2
  refine then_normal ?_
  refine c_cond hl rfl ?_ ?_
  · intro hc0
    try simp only [decide_eq_true_eq, decide_eq_false_iff_not, Bool.not_eq_true', Bool.not_eq_false', Bool.not_eq_true, Bool.not_eq_false, Bool.and_eq_true, Bool.or_eq_true, Bool.and_eq_false_iff, Bool.or_eq_false_iff, Bool.not_not, ne_eq, Int.not_lt, Int.not_le, Decidable.not_not, beq_iff_eq, bne_iff_ne] at hc0
    exfalso; first | contradiction | omega
  · intro hc0
    try simp only [decide_eq_true_eq, decide_eq_false_iff_not, Bool.not_eq_true', Bool.not_eq_false', Bool.not_eq_true, Bool.not_eq_false, Bool.and_eq_true, Bool.or_eq_true, Bool.and_eq_false_iff, Bool.or_eq_false_iff, Bool.not_not, ne_eq, Int.not_lt, Int.not_le, Decidable.not_not, beq_iff_eq, bne_iff_ne] at hc0
    refine wp_skip ?_
    refine then_normal ?_
    refine c_seq ?_
    refine c_region ?_
    refine wl (wl_val hl rfl trivial (r_move hl rfl) ?_)
    clear hl a; intro a hl
    refine wl (wl_val hl rfl trivial (r_move hl rfl) ?_)
    clear hl a; intro a hl
    refine wl (wl_val hl rfl trivial (r_move hl rfl) ?_)
    clear hl a; intro a hl
    refine wl (wl_val hl rfl trivial (r_nilCheck hl rfl) ?_)
    clear hl a; intro a hl
    refine wl (wl_val hl rfl trivial (r_field hl rfl fld111_0) ?_)
    clear hl a; intro a hl
    refine wl (wl_val hl rfl trivial (r_indexA hl rfl rfl arr107 (by omega) (by omega) (by first | (simp only [Int.reduceToNat]; rfl) | exact toNat_add1 _ | exact toNat_add2 _ _ | exact toNat_emod _ _ | exact Int.toNat_natCast _ | rfl)) ?_)
    clear hl a; intro a hl
    refine wl (wl_val hl rfl trivial (r_indexA hl rfl rfl arr106 (by omega) (by omega) (by first | (simp only [Int.reduceToNat]; rfl) | exact toNat_add1 _ | exact toNat_add2 _ _ | exact toNat_emod _ _ | exact Int.toNat_natCast _ | rfl)) ?_)
    clear hl a; intro a hl
    refine wl (w_store hl hh trivial one3 rfl rfl (by repeat (first | exact find_head | apply find_tail | apply find_skip)) (by first | (simp; done) | (simp; omega) | (rw [arrL_length]; omega)) (by first | rfl | assumption | (apply Row.one; assumption)) (by first | exact set_q hr | exact set_held hr ht | (simp only [setL, List.getElem?_cons_zero, List.getElem?_cons_succ, Value.cells, List.take_zero, List.take_succ_cons, List.take_nil, List.drop_zero, List.drop_succ_cons, List.drop_nil, List.length_cons, List.length_nil, List.cons_append, List.nil_append, List.append_nil, Nat.zero_add, Nat.add_zero, Nat.reduceAdd, Nat.reduceBEq, Nat.reduceEqDiff, Nat.ble, BEq.rfl, Bool.and_true, Bool.and_self, cond_true, beq_self_eq_true]; rfl)) ?_)
    clear hh w; intro w hh
    refine w_nil ?_
    have hl2 := hl.add (t := 0) (hl.add (t := 2) (hl.nil) rfl) rfl; clear hl; have hl := hl2; clear hl2
    refine then_normal ?_
    refine c_seq ?_
    refine c_region ?_
    refine wl (wl_val hl rfl trivial (r_move hl rfl) ?_)
    clear hl a; intro a hl
    refine wl (wl_val hl rfl trivial (r_move hl rfl) ?_)
    clear hl a; intro a hl
    refine wl (w_call hl hh rfl trivial rfl cal74 rfl (wake_low (rt_zero hT hr ht) (hB.zero ht) hr bt) (by repeat (first | exact keeps_nil | apply keeps_cons (by repeat (first | exact find_head | apply find_tail | apply find_skip)) (by first  | rfl) | exact keeps_self | exact keeps_left | apply keeps_app | apply keeps_mv | apply keeps_skip)) trivial ?_)
    clear hl hh a w; intro vc Fc a w hR hl hh
    obtain ⟨f', E', Ew, rfl, h1, h2, h3⟩ := hR
    try simp only [List.cons_append, List.nil_append, List.append_assoc, List.append_nil] at hh
    refine wl (wl_val hl rfl trivial (r_assign hl rfl) ?_)
    clear hl a; intro a hl
    refine wl (wl_val hl rfl trivial (r_assign hl rfl) ?_)
    clear hl a; intro a hl
    refine w_nil ?_
    have hl2 := hl.add (t := 6) (hl.add (t := 7) (hl.nil) rfl) rfl; clear hl; have hl := hl2; clear hl2
    refine then_normal ?_
    refine wp_ret ?_
    refine f_ret2 (F' := ((bt, C (arrL 340 f') 111) :: (E' ++ Ew))) hl hh rfl rfl rfl (by repeat (first | exact keeps_nil | apply keeps_cons (by repeat (first | exact find_head | apply find_tail | apply find_skip)) (by first  | rfl) | exact keeps_self | exact keeps_left | apply keeps_app | apply keeps_mv | apply keeps_skip)) ?_
    exact ⟨f', E', Ew, rfl, h1, fun j hj hj2 => by rw [h2 j hj hj2, updV_ne _ _ (by omega)], _, rfl, h3⟩
end Go.Proofs.Qxb6500911aGreatDoor

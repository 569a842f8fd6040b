import Derived.Test.Qxb6500911aGreatDoorA11
namespace Go.Proofs.Qxb6500911aGreatDoor
open Go.Eng
set_option linter.unusedVariables false
set_option linter.unusedSimpArgs false
theorem fld160_0 : fieldOk Tryz.prog 160 0 0 = true := by kernel_rfl
theorem one74 : oneOk Tryz.prog 74 = true := by kernel_rfl
theorem fld160_1 : fieldOk Tryz.prog 160 1 1 = true := by kernel_rfl
theorem fld160_2 : fieldOk Tryz.prog 160 2 2 = true := by kernel_rfl
theorem fld160_3 : fieldOk Tryz.prog 160 3 3 = true := by kernel_rfl
theorem cal42 : callable Tryz.prog 42 = true := by kernel_rfl
theorem cal93 : callable Tryz.prog 93 = true := by kernel_rfl
theorem zero102 : zeroOk Tryz.prog 102 (.agg #[(.int .i64 0), (.int .i64 0), (.int .u64 0), (.int .i64 0)]) := by unfold zeroOk; kernel_rfl
theorem bld102 : buildOk Tryz.prog 102 [(0, 1), (1, 1), (2, 1), (3, 1)] = true := by kernel_rfl
theorem app44 : appOk Tryz.prog 44 102 4 32 = true := by kernel_rfl
/-! ## a shard's update, plain -/
def adjS (fz : Int) (l : List Wt) (e : Int) (s : BitVec 16) (d : Int) : List Wt := if e < fz ∨ s = 0#16 then l else adjL e s d l
def apF (k : Int) (fz e : Int) : Int := if k = 3 ∧ fz ≤ e then e + 1 else fz
def apL (k : Int) (fz : Int) (l : List Wt) (e : Int) (s : BitVec 16) : List Wt :=
  if k = 1 then adjS fz l e s 1 else if k = 2 then adjS fz l e s (-1) else if k = 3 ∧ fz ≤ e then endL e l else l
structure WB (B : Int) (l : List Wt) : Prop where
  bd : ∀ x, x ∈ l → ∀ h, -B ≤ x.net h ∧ x.net h ≤ B
  len : l.length ≤ 100000000
theorem ShR.floor {f : Nat → Value} {c w : Nat} {fz e : Int} {l : List Wt} {E : List (Nat × Obj)} (h : ShR f c w fz l E) (hw : w < 16) : ShR (updV f (18 + 32 * c + w) (.int .u64 e)) c w e l E := ⟨updV_self _ _ _, by rw [updV_ne _ _ (by omega)]; exact h.row⟩
/-! edges of a shard -/
structure Eg where
  w : Nat
  h : Nat
  e : Int
  n : Int
def egc (x : Eg) : List Value := [.int .i64 (x.w : Int), .int .i64 (x.h : Int), .int .u64 x.e, .int .i64 x.n]
theorem egc_len (x : Eg) : (egc x).length = 4 := rfl
theorem egc_one (x : Eg) : (egc x).all (·.oneCell') = true := rfl
def edH (w : Nat) (x : Wt) : Nat → List Eg
  | 0 => []
  | n + 1 => edH w x n ++ (if x.net n = 0 then [] else [⟨w, n, x.e, x.net n⟩])
def edL (w : Nat) : List Wt → List Eg
  | [] => []
  | x :: l => edH w x 16 ++ edL w l
def edN (ws : Nat → List Wt) : Nat → List Eg
  | 0 => []
  | n + 1 => edN ws n ++ edL n (ws n)
theorem edL_append (w : Nat) : ∀ (l m : List Wt), edL w (l ++ m) = edL w l ++ edL w m
  | [], _ => rfl
  | x :: l, m => by rw [List.cons_append, edL, edL, edL_append w l m, List.append_assoc]
theorem edH_len (w : Nat) (x : Wt) : ∀ n, (edH w x n).length ≤ n
  | 0 => Nat.le_refl _
  | n + 1 => by rw [edH, List.length_append]; have := edH_len w x n; split <;> simp <;> omega
theorem edL_len (w : Nat) : ∀ l : List Wt, (edL w l).length ≤ 16 * l.length
  | [] => Nat.le_refl _
  | x :: l => by rw [edL, List.length_append, List.length_cons]; have := edL_len w l; have := edH_len w x 16; omega
theorem edN_len {ws : Nat → List Wt} (h : ∀ q, q < 16 → (ws q).length ≤ 100000000) : ∀ n, n ≤ 16 → (edN ws n).length ≤ n * 1600000000
  | 0, _ => Nat.le_refl _
  | n + 1, hn => by rw [edN, List.length_append]; have := edN_len h n (by omega); have := edL_len n (ws n); have := h n (by omega); omega
theorem edL_take {w : Nat} {l : List Wt} {j : Nat} {x : Wt} (h : l[j]? = some x) : edL w (l.take (j + 1)) = edL w (l.take j) ++ edH w x 16 := by
  rw [List.take_add_one, h, edL_append]; simp [edL]
structure ED where
  v : Value
  E : List (Nat × Obj)
  i : Nat
theorem eg_row {v : Value} {A : List Eg} {x : Eg} {E : List (Nat × Obj)} (h : Row v (A.length + 1) (fl egc A ++ egc x) 4 102 E) : Row v (A ++ [x]).length (fl egc (A ++ [x])) 4 102 E := by
  rw [List.length_append, fl_append]; simpa [fl] using h
theorem ed_T {A : List Eg} {w : Nat} {x : Wt} {n : Nat} (h : ¬ x.net n = 0) : (A ++ edH w x n) ++ [⟨w, n, x.e, x.net n⟩] = A ++ edH w x (n + 1) := by rw [edH, if_neg h, List.append_assoc]
theorem ed_F {A : List Eg} {w : Nat} {x : Wt} {n : Nat} (h : x.net n = 0) : A ++ edH w x n = A ++ edH w x (n + 1) := by rw [edH, if_pos h, List.append_nil]
theorem row_getW {l : List Wt} {v : Value} {E : List (Nat × Obj)} (h : Row v l.length (fl wtc l) 18 150 E) {w : World} (hm : Mem E w) {i : Nat} {x : Wt} (hx : l[i]? = some x) : ∃ b c junk, v = .slice (some ⟨b, 0, none⟩) l.length c ∧ w.heap[b]? = some (C (fl wtc l ++ junk) 150) := by
  have h0 : 0 < l.length := by have := (List.getElem?_eq_some_iff.1 hx).1; omega
  obtain ⟨b, c, junk, rfl, _, _, rfl⟩ := row_blk3 h h0
  exact ⟨b, c, junk, rfl, hm _ _ (List.mem_singleton.2 rfl)⟩
theorem wt_nets {l : List Wt} {i : Nat} {x : Wt} {junk : List Value} (hx : l[i]? = some x) : ((fl wtc l ++ junk).drop (0 + i * 18 + 1)).take 16 = arrL 16 (fun h => .int .i64 (x.net h)) := by
  have h1 := fl_at wtc_len hx junk
  have h2 : ((fl wtc l ++ junk).drop (0 + i * 18 + 1)).take 16 = ((((fl wtc l ++ junk).drop (0 + i * 18)).take 18).drop 1).take 16 := by
    rw [List.drop_take, List.drop_drop, List.take_take]
    congr 1
  rw [h2, h1]
  unfold wtc
  rw [List.drop_succ_cons, List.drop_zero, List.take_append_of_le_length (by rw [arrL_length]; exact Nat.le_refl _), List.take_of_length_le (by rw [arrL_length]; exact Nat.le_refl _)]
theorem wt_ep {l : List Wt} {i : Nat} {x : Wt} {junk : List Value} (hx : l[i]? = some x) : (fl wtc l ++ junk)[0 + i * 18 + 0]? = some (.int .u64 x.e) := fl_cell wtc_len hx rfl junk
theorem nt_at {l : List Wt} {i : Nat} {x : Wt} (hs : l.Pairwise (fun x y => x.e < y.e)) (hx : l[i]? = some x) (h : Nat) : nt l x.e h = x.net h := by
  induction l generalizing i with
  | nil => simp at hx
  | cons y l ih =>
    rw [nt]
    cases i with
    | zero => simp only [List.getElem?_cons_zero, Option.some.injEq] at hx; subst hx; rw [if_pos rfl]
    | succ i =>
      rw [List.getElem?_cons_succ] at hx
      have := (List.pairwise_cons.1 hs).1 x (List.mem_of_getElem? hx)
      rw [if_neg (by omega)]
      exact ih (List.pairwise_cons.1 hs).2 hx
theorem nt_not {l : List Wt} {i : Nat} {e : Int} (hi : i ≤ l.length) (hk : ∀ (k : Nat) (x : Wt), l[k]? = some x → (k < i ↔ x.e < e)) (hs : l.Pairwise (fun x y => x.e < y.e)) (hf : fndW l i e = false) (h : Nat) : nt l e h = 0 := by
  refine nt_none fun x hx he => ?_
  obtain ⟨k, hkx⟩ := List.mem_iff_getElem?.1 hx
  have h1 := hk k x hkx
  have h2 : i ≤ k := by omega
  have hkl : k < l.length := (List.getElem?_eq_some_iff.1 hkx).1
  rcases Nat.eq_or_lt_of_le h2 with h3 | h3
  · subst h3
    unfold fndW at hf
    rw [hkx] at hf
    simp only [decide_eq_false_iff_not] at hf
    exact hf he
  · obtain ⟨y, hy⟩ : ∃ y, l[i]? = some y := ⟨_, List.getElem?_eq_getElem (by omega)⟩
    have h4 := (hk i y hy).2
    have h5 : y.e < x.e := by
      obtain ⟨p1, rfl⟩ := List.getElem?_eq_some_iff.1 hy
      obtain ⟨p2, rfl⟩ := List.getElem?_eq_some_iff.1 hkx
      exact List.pairwise_iff_getElem.1 hs i k p1 p2 h3
    omega
theorem maskN_congr {f g : Nat → Int} : ∀ n, (∀ i, i < n → f i = g i) → maskN f n = maskN g n
  | 0, _ => rfl
  | n + 1, h => by unfold maskN; rw [maskN_congr n (fun i hi => h i (by omega)), h n (by omega)]
theorem maskN_zero : ∀ n, maskN (fun _ => 0) n = 0#16
  | 0 => rfl
  | n + 1 => by unfold maskN; rw [maskN_zero n, if_neg (by omega)]
theorem fnd_get {l : List Wt} {i : Nat} {e : Int} (h : fndW l i e = true) : ∃ x, l[i]? = some x ∧ x.e = e := by
  unfold fndW at h
  split at h
  · rename_i x hx; exact ⟨x, hx, of_decide_eq_true h⟩
  · cases h
theorem apL3 {fz e : Int} {l : List Wt} {s s' : BitVec 16} : apL 3 fz l e s = apL 3 fz l e s' := by simp [apL]
theorem ap1 {k fz e : Int} {l : List Wt} {s : BitVec 16} (h : k = 1) : apF k fz e = fz ∧ apL k fz l e s = adjS fz l e s 1 := by subst h; simp [apF, apL]
theorem ap2 {k fz e : Int} {l : List Wt} {s : BitVec 16} (h : k = 2) : apF k fz e = fz ∧ apL k fz l e s = adjS fz l e s (-1) := by subst h; simp [apF, apL]
theorem ap0 {k fz e : Int} {l : List Wt} {s : BitVec 16} (h1 : ¬ k = 1) (h2 : ¬ k = 2) (h3 : ¬ k = 3) : apF k fz e = fz ∧ apL k fz l e s = l := by simp [apF, apL, h1, h2, h3]


set_option maxHeartbeats 2000000 in
theorem end_T {f : Nat → Value} {c q : Nat} {fz : Int} {l : List Wt} {E : List (Nat × Obj)} (hS : ShR f c q fz l E) (hc : c < 4) (hw : q < 16) (bg : Nat) (e : Int) (he : fz ≤ e) (he9 : 0 ≤ e ∧ e ≤ 1000000000000) (hok : WsOk l fz) (hl9 : l.length ≤ 100000000) : Sp Tryz.prog 93 #[.pointer (some ⟨bg, 0 + 18 + c * 32, none⟩), .int .i64 (q : Int), .int .u64 e] ((bg, C (arrL 146 f) 94) :: E) (fun v F' => v = .tuple #[] ∧ ∃ f' E', F' = (bg, C (arrL 146 f') 94) :: E' ∧ ShR f' c q (e + 1) (endL e l) E' ∧ ∀ j, j ≠ 34 + 32 * c + q → j ≠ 18 + 32 * c + q → f' j = f j) := by
  refine f_enter (args := [.pointer (some ⟨bg, 0 + 18 + c * 32, none⟩), .int .i64 (q : Int), .int .u64 e]) Tryz.func93 rfl Tryz.ntmps93 rfl ?_
  intro w0 w a hpre hl hh
  simp only [slotsFrom, Nat.reduceAdd] at hl
  refine c_seq ?_
  refine c_seq ?_
  refine c_region ?_
  refine wl (wl_val hl rfl trivial (r_move hl rfl) ?_)
  clear hl a; intro a hl
  refine wl (wl_val hl rfl trivial (r_move hl rfl) ?_)
  clear hl a; intro a hl
  refine wl (wl_val hl rfl trivial (r_move hl rfl) ?_)
  clear hl a; intro a hl
  refine wl (wl_val hl rfl trivial (r_nilCheck hl rfl) ?_)
  clear hl a; intro a hl
  refine wl (wl_val hl rfl trivial (r_field hl rfl fld91_0) ?_)
  clear hl a; intro a hl
  refine wl (wl_val hl rfl trivial (r_indexA hl rfl rfl arr43 (by omega) (by omega) (by first | (simp only [Int.reduceToNat]; rfl) | exact toNat_add1 _ | exact toNat_add2 _ _ | exact toNat_emod _ _ | exact Int.toNat_natCast _ | rfl)) ?_)
  clear hl a; intro a hl
  refine wl (w_load hl hh rfl trivial one42 rfl (by repeat (first | exact find_head | apply find_tail | apply find_skip)) (by first | exact hS.cell hc hw | exact hS1.cell hc hw | exact sh_waits hc hw | rfl) ?_)
  clear hl a; intro a hl
  refine wl (wl_val hl rfl trivial (r_lss hl rfl rfl) ?_)
  clear hl a; intro a hl
  refine w_nil ?_
  have hl2 := hl.add (t := 0) (hl.add (t := 1) (hl.add (t := 2) (hl.add (t := 15) (hl.nil) rfl) rfl) rfl) rfl; clear hl; have hl := hl2; clear hl2
  refine then_normal ?_
  refine c_cond hl rfl ?_ ?_
  · intro hc0
    try simp only [decide_eq_true_eq, decide_eq_false_iff_not, Bool.not_eq_true', Bool.not_eq_false', Bool.not_eq_true, Bool.not_eq_false, Bool.and_eq_true, Bool.or_eq_true, Bool.and_eq_false_iff, Bool.or_eq_false_iff, Bool.not_not, ne_eq, Int.not_lt, Int.not_le, Decidable.not_not, beq_iff_eq, bne_iff_ne] at hc0
    exfalso; first | contradiction | omega
  · intro hc0
    try simp only [decide_eq_true_eq, decide_eq_false_iff_not, Bool.not_eq_true', Bool.not_eq_false', Bool.not_eq_true, Bool.not_eq_false, Bool.and_eq_true, Bool.or_eq_true, Bool.and_eq_false_iff, Bool.or_eq_false_iff, Bool.not_not, ne_eq, Int.not_lt, Int.not_le, Decidable.not_not, beq_iff_eq, bne_iff_ne] at hc0
    refine wp_skip ?_
    refine then_normal ?_
    refine c_seq ?_
    refine c_region ?_
    refine wl (wl_val hl rfl trivial (r_move hl rfl) ?_)
    clear hl a; intro a hl
    refine wl (wl_val hl rfl trivial (r_move hl rfl) ?_)
    clear hl a; intro a hl
    refine wl (wl_val hl rfl trivial (r_move hl rfl) ?_)
    clear hl a; intro a hl
    first | refine wl (wl_val hl rfl trivial (r_add hl rfl rfl (by simp only [Fits]; omega)) ?_) | refine wl (wl_val hl rfl trivial (r_addM wm_u64 hl rfl rfl) ?_)
    clear hl a; intro a hl
    refine wl (wl_val hl rfl trivial (r_nilCheck hl rfl) ?_)
    clear hl a; intro a hl
    refine wl (wl_val hl rfl trivial (r_field hl rfl fld91_0) ?_)
    clear hl a; intro a hl
    refine wl (wl_val hl rfl trivial (r_indexA hl rfl rfl arr43 (by omega) (by omega) (by first | (simp only [Int.reduceToNat]; rfl) | exact toNat_add1 _ | exact toNat_add2 _ _ | exact toNat_emod _ _ | exact Int.toNat_natCast _ | rfl)) ?_)
    clear hl a; intro a hl
    refine wl (w_store hl hh trivial one42 rfl rfl (by repeat (first | exact find_head | apply find_tail | apply find_skip)) (by first | (simp; done) | (simp; omega) | (rw [arrL_length]; omega)) (by first | rfl | assumption | (apply Row.one; assumption)) (by first | exact set_floor hc hw | exact set_waits hc hw | (simp only [setL, List.getElem?_cons_zero, List.getElem?_cons_succ, Value.cells, List.take_zero, List.take_succ_cons, List.take_nil, List.drop_zero, List.drop_succ_cons, List.drop_nil, List.length_cons, List.length_nil, List.cons_append, List.nil_append, List.append_nil, Nat.zero_add, Nat.add_zero, Nat.reduceAdd, Nat.reduceBEq, Nat.reduceEqDiff, Nat.ble, BEq.rfl, Bool.and_true, Bool.and_self, cond_true, beq_self_eq_true]; rfl)) ?_)
    clear hh w; intro w hh
    refine w_nil ?_
    have hl2 := hl.add (t := 0) (hl.add (t := 1) (hl.nil) rfl) rfl; clear hl; have hl := hl2; clear hl2
    obtain ⟨f1, hf1⟩ : ∃ z, z = updV f (18 + 32 * c + q) (.int .u64 (e + 1)) := ⟨_, rfl⟩
    rw [← hf1] at hh
    have hS1 : ShR f1 c q (e + 1) l E := by rw [hf1]; exact hS.floor hw
    refine then_normal ?_
    refine c_seq ?_
    refine c_region ?_
    refine wl (wl_val hl rfl trivial (r_move hl rfl) ?_)
    clear hl a; intro a hl
    refine wl (wl_val hl rfl trivial (r_move hl rfl) ?_)
    clear hl a; intro a hl
    refine wl (wl_val hl rfl trivial (r_move hl rfl) ?_)
    clear hl a; intro a hl
    refine wl (wl_val hl rfl trivial (r_move hl rfl) ?_)
    clear hl a; intro a hl
    refine wl (wl_val hl rfl trivial (r_nilCheck hl rfl) ?_)
    clear hl a; intro a hl
    refine wl (wl_val hl rfl trivial (r_field hl rfl fld91_0) ?_)
    clear hl a; intro a hl
    refine wl (wl_val hl rfl trivial (r_indexA hl rfl rfl arr43 (by omega) (by omega) (by first | (simp only [Int.reduceToNat]; rfl) | exact toNat_add1 _ | exact toNat_add2 _ _ | exact toNat_emod _ _ | exact Int.toNat_natCast _ | rfl)) ?_)
    clear hl a; intro a hl
    refine wl (w_load hl hh rfl trivial one42 rfl (by repeat (first | exact find_head | apply find_tail | apply find_skip)) (by first | exact hS.cell hc hw | exact hS1.cell hc hw | exact sh_waits hc hw | rfl) ?_)
    clear hl a; intro a hl
    refine wl (w_call hl hh rfl trivial rfl cal64 rfl (find_spec hS1 hc hw bg hl9 (e + 1) hok.srt) (by repeat (first | exact keeps_nil | apply keeps_cons (by repeat (first | exact find_head | apply find_tail | apply find_skip)) (by first  | rfl) | exact keeps_self | exact keeps_left | apply keeps_app | apply keeps_mv | apply keeps_skip)) (memK hh keeps_self) ?_)
    clear hl hh a w; intro vc Fc a w hR hl hh
    obtain ⟨i, hi, hk, rfl, rfl⟩ := hR
    try simp only [List.cons_append, List.nil_append, List.append_assoc, List.append_nil] at hh
    refine wl (wl_val hl rfl trivial (r_move hl rfl) ?_)
    clear hl a; intro a hl
    refine wl (wl_val hl rfl trivial (r_extract hl rfl (by simp only [List.getElem?_toArray, List.getElem?_cons_zero, List.getElem?_cons_succ]; rfl)) ?_)
    clear hl a; intro a hl
    refine wl (wl_val hl rfl trivial (r_extract hl rfl (by simp only [List.getElem?_toArray, List.getElem?_cons_zero, List.getElem?_cons_succ]; rfl)) ?_)
    clear hl a; intro a hl
    refine wl (wl_val hl rfl trivial (r_assign hl rfl) ?_)
    clear hl a; intro a hl
    refine wl (wl_val hl rfl trivial (r_assign hl rfl) ?_)
    clear hl a; intro a hl
    refine w_nil ?_
    have hl2 := hl.add (t := 0) (hl.add (t := 1) (hl.add (t := 6) (hl.nil) rfl) rfl) rfl; clear hl; have hl := hl2; clear hl2
    refine then_normal ?_
    refine c_draw [(bg, C (arrL 146 f1) 94)] [12, 13] mixed hh ?_
    clear hh w; intro w hh
    have hM : Mem [(bg, C (arrL 146 f1) 94)] w := (memK hh (by repeat (first | exact keeps_nil | apply keeps_cons (by repeat (first | exact find_head | apply find_tail | apply find_skip)) (by first  | rfl) | exact keeps_self | exact keeps_left | apply keeps_app | apply keeps_mv | apply keeps_skip)))
    refine d_take (i := 0) hl rfl (by kernel_rfl) (by kernel_rfl) (by kernel_rfl) (by kernel_rfl) (by kernel_rfl) rfl trivial (fun _ _ _ h => h) hM (fun w hC => r_move hl rfl) rfl ?_
    clear hl a; intro a hl
    refine d_take (i := 1) hl rfl (by kernel_rfl) (by kernel_rfl) (by kernel_rfl) (by kernel_rfl) (by kernel_rfl) rfl trivial (fun _ _ _ h => h) hM (fun w hC => r_move hl rfl) rfl ?_
    clear hl a; intro a hl
    refine d_take (i := 2) hl rfl (by kernel_rfl) (by kernel_rfl) (by kernel_rfl) (by kernel_rfl) (by kernel_rfl) rfl trivial (fun _ _ _ h => h) hM (fun w hC => r_move hl rfl) rfl ?_
    clear hl a; intro a hl
    refine d_take (i := 3) hl rfl (by kernel_rfl) (by kernel_rfl) (by kernel_rfl) (by kernel_rfl) (by kernel_rfl) rfl trivial (fun _ _ _ h => h) hM (fun w hC => r_move hl rfl) rfl ?_
    clear hl a; intro a hl
    refine d_take (i := 4) hl rfl (by kernel_rfl) (by kernel_rfl) (by kernel_rfl) (by kernel_rfl) (by kernel_rfl) rfl trivial (fun _ _ _ h => h) hM (fun w hC => r_nilCheck hl rfl) rfl ?_
    clear hl a; intro a hl
    refine d_take (i := 5) hl rfl (by kernel_rfl) (by kernel_rfl) (by kernel_rfl) (by kernel_rfl) (by kernel_rfl) rfl trivial (fun _ _ _ h => h) hM (fun w hC => r_field hl rfl fld91_1) rfl ?_
    clear hl a; intro a hl
    refine d_take (i := 6) hl rfl (by kernel_rfl) (by kernel_rfl) (by kernel_rfl) (by kernel_rfl) (by kernel_rfl) rfl trivial (fun _ _ _ h => h) hM (fun w hC => r_indexA hl rfl rfl arr89 (by omega) (by omega) (by first | (simp only [Int.reduceToNat]; rfl) | exact toNat_add1 _ | exact toNat_add2 _ _ | exact toNat_emod _ _ | exact Int.toNat_natCast _ | rfl)) rfl ?_
    clear hl a; intro a hl
    refine d_take (i := 7) hl rfl (by kernel_rfl) (by kernel_rfl) (by kernel_rfl) (by kernel_rfl) (by kernel_rfl) rfl trivial (fun _ _ _ h => h) hM (fun w hC => r_loadC hl rfl one88 hC (by repeat (first | exact find_head | apply find_tail | apply find_skip)) (by first | exact hS.cell hc hw | exact hS1.cell hc hw | exact sh_waits hc hw | rfl)) rfl ?_
    clear hl a; intro a hl
    refine d_take (i := 8) hl rfl (by kernel_rfl) (by kernel_rfl) (by kernel_rfl) (by kernel_rfl) (by kernel_rfl) rfl trivial (fun _ _ _ h => h) hM (fun w hC => r_move hl rfl) rfl ?_
    clear hl a; intro a hl
    refine d_take (i := 10) hl rfl (by kernel_rfl) (by kernel_rfl) (by kernel_rfl) (by kernel_rfl) (by kernel_rfl) rfl trivial (fun _ _ _ h => h) hM (fun w hC => r_nilCheck hl rfl) rfl ?_
    clear hl a; intro a hl
    refine d_take (i := 11) hl rfl (by kernel_rfl) (by kernel_rfl) (by kernel_rfl) (by kernel_rfl) (by kernel_rfl) rfl trivial (fun _ _ _ h => h) hM (fun w hC => r_field hl rfl fld91_1) rfl ?_
    clear hl a; intro a hl
    refine d_one (i := 9) (by kernel_rfl) rfl ?_
    try clear hM
    refine id (w_call hl hh rfl trivial rfl cal70 rfl (delWA l (f1 (34 + 32 * c + q)) E hS1.row (by omega) i hi) (by repeat (first | exact keeps_nil | apply keeps_cons (by repeat (first | exact find_head | apply find_tail | apply find_skip)) (by first  | rfl) | exact keeps_self | exact keeps_left | apply keeps_app | apply keeps_mv | apply keeps_skip)) trivial ?_)
    clear hl hh a w; intro vc Fc a w hR hl hh
    try simp only [List.cons_append, List.nil_append, List.append_assoc, List.append_nil] at hh
    rw [endL_eq e l i hi hok.srt hk] at hR
    have hRd := hR
    clear hR
    generalize Fc = Ed at hh hRd
    generalize vc = vd at hl hRd
    have hM : Mem [(bg, C (arrL 146 f1) 94)] w := (memK hh (by repeat (first | exact keeps_nil | apply keeps_cons (by repeat (first | exact find_head | apply find_tail | apply find_skip)) (by first  | rfl) | exact keeps_self | exact keeps_left | apply keeps_app | apply keeps_mv | apply keeps_skip)))
    refine d_step (fun _ => hM) ?_
    refine d_takeL (i := 12) hl rfl (by kernel_rfl) (by kernel_rfl) (by kernel_rfl) (by kernel_rfl) (by kernel_rfl) rfl trivial (fun _ _ _ h => h) (fun w => r_indexA hl rfl rfl arr89 (by omega) (by omega) (by first | (simp only [Int.reduceToNat]; rfl) | exact toNat_add1 _ | exact toNat_add2 _ _ | exact toNat_emod _ _ | exact Int.toNat_natCast _ | rfl)) rfl ?_
    clear hl a; intro a hl
    refine d_one (i := 13) (by kernel_rfl) rfl ?_
    try clear hM
    refine id (w_store hl hh trivial one88 rfl rfl (by repeat (first | exact find_head | apply find_tail | apply find_skip)) (by first | (simp; done) | (simp; omega) | (rw [arrL_length]; omega)) (by first | rfl | assumption | (apply Row.one; assumption)) (by first | exact set_floor hc hw | exact set_waits hc hw | (simp only [setL, List.getElem?_cons_zero, List.getElem?_cons_succ, Value.cells, List.take_zero, List.take_succ_cons, List.take_nil, List.drop_zero, List.drop_succ_cons, List.drop_nil, List.length_cons, List.length_nil, List.cons_append, List.nil_append, List.append_nil, Nat.zero_add, Nat.add_zero, Nat.reduceAdd, Nat.reduceBEq, Nat.reduceEqDiff, Nat.ble, BEq.rfl, Bool.and_true, Bool.and_self, cond_true, beq_self_eq_true]; rfl)) ?_)
    clear hh w; intro w hh
    refine d_step (fun h => absurd h (by decide)) ?_
    refine d_done (by kernel_rfl) ?_
    try clear hM
    have hl2 := hl.nil; clear hl; have hl := hl2; clear hl2
    refine f_end0 (F' := ((bg, C (arrL 146 (updV f1 (34 + 32 * c + q) vd)) 94) :: Ed)) hl hh rfl (by repeat (first | exact keeps_nil | apply keeps_cons (by repeat (first | exact find_head | apply find_tail | apply find_skip)) (by first  | rfl) | exact keeps_self | exact keeps_left | apply keeps_app | apply keeps_mv | apply keeps_skip)) ?_
    exact ⟨rfl, _, _, rfl, ⟨by rw [updV_ne _ _ (by omega)]; exact hS1.flr, by rw [updV_self]; exact hRd⟩, fun j hj hj2 => by rw [updV_ne _ _ hj, hf1, updV_ne _ _ hj2]⟩

set_option maxHeartbeats 1000000 in
theorem end_F {f : Nat → Value} {c q : Nat} {fz : Int} {l : List Wt} {E : List (Nat × Obj)} (hS : ShR f c q fz l E) (hc : c < 4) (hw : q < 16) (bg : Nat) (e : Int) (he : e < fz) : Sp Tryz.prog 93 #[.pointer (some ⟨bg, 0 + 18 + c * 32, none⟩), .int .i64 (q : Int), .int .u64 e] ((bg, C (arrL 146 f) 94) :: E) (fun v F' => v = .tuple #[] ∧ F' = (bg, C (arrL 146 f) 94) :: E) := by
  refine f_enter (args := [.pointer (some ⟨bg, 0 + 18 + c * 32, none⟩), .int .i64 (q : Int), .int .u64 e]) Tryz.func93 rfl Tryz.ntmps93 rfl ?_
  intro w0 w a hpre hl hh
  simp only [slotsFrom, Nat.reduceAdd] at hl
  refine c_seq ?_
  refine c_seq ?_
  refine c_region ?_
  refine wl (wl_val hl rfl trivial (r_move hl rfl) ?_)
  clear hl a; intro a hl
  refine wl (wl_val hl rfl trivial (r_move hl rfl) ?_)
  clear hl a; intro a hl
  refine wl (wl_val hl rfl trivial (r_move hl rfl) ?_)
  clear hl a; intro a hl
  refine wl (wl_val hl rfl trivial (r_nilCheck hl rfl) ?_)
  clear hl a; intro a hl
  refine wl (wl_val hl rfl trivial (r_field hl rfl fld91_0) ?_)
  clear hl a; intro a hl
  refine wl (wl_val hl rfl trivial (r_indexA hl rfl rfl arr43 (by omega) (by omega) (by first | (simp only [Int.reduceToNat]; rfl) | exact toNat_add1 _ | exact toNat_add2 _ _ | exact toNat_emod _ _ | exact Int.toNat_natCast _ | rfl)) ?_)
  clear hl a; intro a hl
  refine wl (w_load hl hh rfl trivial one42 rfl (by repeat (first | exact find_head | apply find_tail | apply find_skip)) (by first | exact hS.cell hc hw | rfl) ?_)
  clear hl a; intro a hl
  refine wl (wl_val hl rfl trivial (r_lss hl rfl rfl) ?_)
  clear hl a; intro a hl
  refine w_nil ?_
  have hl2 := hl.add (t := 0) (hl.add (t := 1) (hl.add (t := 2) (hl.add (t := 15) (hl.nil) rfl) rfl) rfl) rfl; clear hl; have hl := hl2; clear hl2
  refine then_normal ?_
  refine c_cond hl rfl ?_ ?_
  · intro hc0
    try simp only [decide_eq_true_eq, decide_eq_false_iff_not, Bool.not_eq_true', Bool.not_eq_false', Bool.not_eq_true, Bool.not_eq_false, Bool.and_eq_true, Bool.or_eq_true, Bool.and_eq_false_iff, Bool.or_eq_false_iff, Bool.not_not, ne_eq, Int.not_lt, Int.not_le, Decidable.not_not, beq_iff_eq, bne_iff_ne] at hc0
    refine wp_ret ?_
    refine then_ret ?_
    refine f_ret0 (F' := ((bg, C (arrL 146 f) 94) :: E)) hl hh rfl (by repeat (first | exact keeps_nil | apply keeps_cons (by repeat (first | exact find_head | apply find_tail | apply find_skip)) (by first  | rfl) | exact keeps_self | exact keeps_left | apply keeps_app | apply keeps_mv | apply keeps_skip)) ?_
    exact ⟨rfl, rfl⟩
  · intro hc0
    try simp only [decide_eq_true_eq, decide_eq_false_iff_not, Bool.not_eq_true', Bool.not_eq_false', Bool.not_eq_true, Bool.not_eq_false, Bool.and_eq_true, Bool.or_eq_true, Bool.and_eq_false_iff, Bool.or_eq_false_iff, Bool.not_not, ne_eq, Int.not_lt, Int.not_le, Decidable.not_not, beq_iff_eq, bne_iff_ne] at hc0
    exfalso; first | contradiction | omega

theorem adjust_spec {f : Nat → Value} {c q : Nat} {fz : Int} {l : List Wt} {E : List (Nat × Obj)} (hS : ShR f c q fz l E) (hc : c < 4) (hw : q < 16) (bg : Nat) (tT : TypeId) (tf : Nat × Nat) (e : Int) (s : BitVec 16) (d B : Int) (hd : d = 1 ∨ d = -1) (hB : 0 ≤ B ∧ B ≤ 1000000000000) (hok : WsOk l fz) (hnb : WB B l) : SpK Tryz.prog 42 #[.pointer (some ⟨bg, 0 + 18 + c * 32, none⟩), .int .i64 (q : Int), .int .u64 e, .int .u16 (mi s), .int .i64 d] (PreT tT tf ((bg, C (arrL 146 f) 94) :: E)) ((bg, C (arrL 146 f) 94) :: E) (fun v F' => v = .tuple #[] ∧ ∃ f' E', F' = (bg, C (arrL 146 f') 94) :: E' ∧ ShR f' c q fz (adjS fz l e s d) E' ∧ ∀ j, j ≠ 34 + 32 * c + q → j ≠ 18 + 32 * c + q → f' j = f j) := by
  by_cases h : e < fz ∨ s = 0#16
  · refine spk_post (adjust_F hS hc hw bg tT tf e s d h) ?_
    rintro v F' ⟨rfl, rfl⟩
    exact ⟨rfl, f, E, rfl, by unfold adjS; rw [if_pos h]; exact hS, fun _ _ _ => rfl⟩
  · have h1 : fz ≤ e := by omega
    have h2 : s ≠ 0#16 := fun e => h (.inr e)
    refine spk_post (adjust_T hS hc hw bg tT tf e s d B hd hB h1 h2 hok hnb.bd hnb.len) ?_
    rintro v F' ⟨rfl, f', E', rfl, h3, h4⟩
    exact ⟨rfl, f', E', rfl, by unfold adjS; rw [if_neg h]; exact h3, fun j hj _ => h4 j hj trivial⟩
theorem end_spec {f : Nat → Value} {c q : Nat} {fz : Int} {l : List Wt} {E : List (Nat × Obj)} (hS : ShR f c q fz l E) (hc : c < 4) (hw : q < 16) (bg : Nat) (e : Int) (he9 : 0 ≤ e ∧ e ≤ 1000000000000) (hok : WsOk l fz) (hl9 : l.length ≤ 100000000) : Sp Tryz.prog 93 #[.pointer (some ⟨bg, 0 + 18 + c * 32, none⟩), .int .i64 (q : Int), .int .u64 e] ((bg, C (arrL 146 f) 94) :: E) (fun v F' => v = .tuple #[] ∧ ∃ f' E', F' = (bg, C (arrL 146 f') 94) :: E' ∧ ShR f' c q (apF 3 fz e) (apL 3 fz l e 0#16) E' ∧ ∀ j, j ≠ 34 + 32 * c + q → j ≠ 18 + 32 * c + q → f' j = f j) := by
  by_cases h : e < fz
  · refine spk_post (end_F hS hc hw bg e h) ?_
    rintro v F' ⟨rfl, rfl⟩
    refine ⟨rfl, f, E, rfl, ?_, fun _ _ _ => rfl⟩
    unfold apF apL
    rw [if_neg (by omega), if_neg (by decide), if_neg (by decide), if_neg (by omega)]; exact hS
  · refine spk_post (end_T hS hc hw bg e (by omega) he9 hok hl9) ?_
    rintro v F' ⟨rfl, f', E', rfl, h3, h4⟩
    refine ⟨rfl, f', E', rfl, ?_, h4⟩
    unfold apF apL
    rw [if_pos (by omega), if_neg (by decide), if_neg (by decide), if_pos (by omega)]; exact h3

set_option maxHeartbeats 2000000 in
theorem apply_spec {f : Nat → Value} {c q : Nat} {fz : Int} {l : List Wt} {E : List (Nat × Obj)} (hS : ShR f c q fz l E) (hc : c < 4) (hw : q < 16) (bg : Nat) (tT : TypeId) (tf : Nat × Nat) (k e : Int) (s : BitVec 16) (B : Int) (hB : 0 ≤ B ∧ B ≤ 1000000000000) (he9 : 0 ≤ e ∧ e ≤ 1000000000000) (hok : WsOk l fz) (hnb : WB B l) : SpK Tryz.prog 76 #[.pointer (some ⟨bg, 0 + 18 + c * 32, none⟩), .agg ⟨[.int .u32 k, .int .i64 (q : Int), .int .u64 e, .int .u16 (mi s)]⟩] (PreT tT tf ((bg, C (arrL 146 f) 94) :: E)) ((bg, C (arrL 146 f) 94) :: E) (fun v F' => v = .tuple #[] ∧ ∃ f' E', F' = (bg, C (arrL 146 f') 94) :: E' ∧ ShR f' c q (apF k fz e) (apL k fz l e s) E' ∧ ∀ j, j ≠ 34 + 32 * c + q → j ≠ 18 + 32 * c + q → f' j = f j) := by
  refine f_enter (args := [.pointer (some ⟨bg, 0 + 18 + c * 32, none⟩), .agg ⟨[.int .u32 k, .int .i64 (q : Int), .int .u64 e, .int .u16 (mi s)]⟩]) Tryz.func76 rfl Tryz.ntmps76 rfl ?_
  intro w0 w a hpre hl hh
  simp only [slotsFrom, Nat.reduceAdd] at hl
  refine c_seq ?_
  refine c_region ?_
  refine wl (w_box hl hh rfl trivial rfl rfl ?_)
  clear hl hh a w; intro k3 a w hl hh
  refine w_nil ?_
  have hl2 := hl.add (t := 0) (hl.add (t := 3) (hl.nil) rfl) rfl; clear hl; have hl := hl2; clear hl2
  refine then_normal ?_
  refine c_seq ?_
  refine c_region ?_
  refine wl (wl_val hl rfl trivial (r_field hl rfl fld160_0) ?_)
  clear hl a; intro a hl
  refine wl (w_load hl hh rfl trivial one74 rfl (by repeat (first | exact find_head | apply find_tail | apply find_skip)) (by first | rfl) ?_)
  clear hl a; intro a hl
  refine w_nil ?_
  have hl2 := hl.add (t := 0) (hl.add (t := 3) (hl.add (t := 5) (hl.nil) rfl) rfl) rfl; clear hl; have hl := hl2; clear hl2
  refine then_normal ?_
  refine wp_block ?_
  refine c_seq ?_
  refine c_region ?_
  refine wl (wl_val hl rfl trivial (r_eql hl rfl rfl) ?_)
  clear hl a; intro a hl
  refine wl (wl_val hl rfl trivial (r_assign hl rfl) ?_)
  clear hl a; intro a hl
  refine w_nil ?_
  have hl2 := hl.add (t := 0) (hl.add (t := 3) (hl.add (t := 5) (hl.add (t := 6) (hl.nil) rfl) rfl) rfl) rfl; clear hl; have hl := hl2; clear hl2
  refine then_normal ?_
  refine c_cond hl rfl ?_ ?_
  · intro hc0
    try simp only [decide_eq_true_eq, decide_eq_false_iff_not, Bool.not_eq_true', Bool.not_eq_false', Bool.not_eq_true, Bool.not_eq_false, Bool.and_eq_true, Bool.or_eq_true, Bool.and_eq_false_iff, Bool.or_eq_false_iff, Bool.not_not, ne_eq, Int.not_lt, Int.not_le, Decidable.not_not, beq_iff_eq, bne_iff_ne] at hc0
    refine c_region ?_
    refine wl (wl_val hl rfl trivial (r_move hl rfl) ?_)
    clear hl a; intro a hl
    refine wl (wl_val hl rfl trivial (r_field hl rfl fld160_1) ?_)
    clear hl a; intro a hl
    refine wl (w_load hl hh rfl trivial one57 rfl (by repeat (first | exact find_head | apply find_tail | apply find_skip)) (by first | rfl) ?_)
    clear hl a; intro a hl
    refine wl (wl_val hl rfl trivial (r_field hl rfl fld160_2) ?_)
    clear hl a; intro a hl
    refine wl (w_load hl hh rfl trivial one42 rfl (by repeat (first | exact find_head | apply find_tail | apply find_skip)) (by first | rfl) ?_)
    clear hl a; intro a hl
    refine wl (wl_val hl rfl trivial (r_field hl rfl fld160_3) ?_)
    clear hl a; intro a hl
    refine wl (w_load hl hh rfl trivial one37 rfl (by repeat (first | exact find_head | apply find_tail | apply find_skip)) (by first | rfl) ?_)
    clear hl a; intro a hl
    refine wl (w_call hl hh rfl trivial rfl cal42 rfl (adjust_spec hS hc hw bg tT tf e s 1 B (.inl rfl) hB hok hnb) (by repeat (first | exact keeps_nil | apply keeps_cons (by repeat (first | exact find_head | apply find_tail | apply find_skip)) (by first  | rfl) | exact keeps_self | exact keeps_left | apply keeps_app | apply keeps_mv | apply keeps_skip)) (pt_call hh hpre (by repeat (first | exact keeps_nil | apply keeps_cons (by repeat (first | exact find_head | apply find_tail | apply find_skip)) (by first  | rfl) | exact keeps_self | exact keeps_left | apply keeps_app | apply keeps_mv | apply keeps_skip))) ?_)
    clear hl hh a w; intro vc Fc a w hR hl hh
    obtain ⟨rfl, f2, E2, hF2, hS2, h2⟩ := hR
    try simp only [List.cons_append, List.nil_append, List.append_assoc, List.append_nil] at hh
    obtain ⟨f9, E9, hF9, hS9, h9⟩ : ∃ f9 E9, Fc = (bg, C (arrL 146 f9) 94) :: E9 ∧ ShR f9 c q (apF k fz e) (apL k fz l e s) E9 ∧ ∀ j, j ≠ 34 + 32 * c + q → j ≠ 18 + 32 * c + q → f9 j = f j := ⟨f2, E2, hF2, by rw [(ap1 (l := l) (s := s) (by assumption)).1, (ap1 (e := e) (by assumption)).2]; exact hS2, h2⟩
    subst hF9
    try simp only [List.cons_append, List.nil_append, List.append_assoc, List.append_nil] at hh
    refine w_nil ?_
    have hl2 := hl.nil; clear hl; have hl := hl2; clear hl2
    refine blk_normal ?_
    refine f_end0 (F' := ((bg, C (arrL 146 f9) 94) :: E9)) hl hh rfl (by repeat (first | exact keeps_nil | apply keeps_cons (by repeat (first | exact find_head | apply find_tail | apply find_skip)) (by first  | rfl) | exact keeps_self | exact keeps_left | apply keeps_app | apply keeps_mv | apply keeps_skip)) ?_
    exact ⟨rfl, f9, E9, rfl, hS9, h9⟩
  · intro hc0
    try simp only [decide_eq_true_eq, decide_eq_false_iff_not, Bool.not_eq_true', Bool.not_eq_false', Bool.not_eq_true, Bool.not_eq_false, Bool.and_eq_true, Bool.or_eq_true, Bool.and_eq_false_iff, Bool.or_eq_false_iff, Bool.not_not, ne_eq, Int.not_lt, Int.not_le, Decidable.not_not, beq_iff_eq, bne_iff_ne] at hc0
    refine c_seq ?_
    refine c_region ?_
    refine wl (wl_val hl rfl trivial (r_eql hl rfl rfl) ?_)
    clear hl a; intro a hl
    refine wl (wl_val hl rfl trivial (r_assign hl rfl) ?_)
    clear hl a; intro a hl
    refine w_nil ?_
    have hl2 := hl.add (t := 0) (hl.add (t := 3) (hl.add (t := 5) (hl.add (t := 16) (hl.nil) rfl) rfl) rfl) rfl; clear hl; have hl := hl2; clear hl2
    refine then_normal ?_
    refine c_cond hl rfl ?_ ?_
    · intro hc1
      try simp only [decide_eq_true_eq, decide_eq_false_iff_not, Bool.not_eq_true', Bool.not_eq_false', Bool.not_eq_true, Bool.not_eq_false, Bool.and_eq_true, Bool.or_eq_true, Bool.and_eq_false_iff, Bool.or_eq_false_iff, Bool.not_not, ne_eq, Int.not_lt, Int.not_le, Decidable.not_not, beq_iff_eq, bne_iff_ne] at hc1
      refine c_region ?_
      refine wl (wl_val hl rfl trivial (r_move hl rfl) ?_)
      clear hl a; intro a hl
      refine wl (wl_val hl rfl trivial (r_field hl rfl fld160_1) ?_)
      clear hl a; intro a hl
      refine wl (w_load hl hh rfl trivial one57 rfl (by repeat (first | exact find_head | apply find_tail | apply find_skip)) (by first | rfl) ?_)
      clear hl a; intro a hl
      refine wl (wl_val hl rfl trivial (r_field hl rfl fld160_2) ?_)
      clear hl a; intro a hl
      refine wl (w_load hl hh rfl trivial one42 rfl (by repeat (first | exact find_head | apply find_tail | apply find_skip)) (by first | rfl) ?_)
      clear hl a; intro a hl
      refine wl (wl_val hl rfl trivial (r_field hl rfl fld160_3) ?_)
      clear hl a; intro a hl
      refine wl (w_load hl hh rfl trivial one37 rfl (by repeat (first | exact find_head | apply find_tail | apply find_skip)) (by first | rfl) ?_)
      clear hl a; intro a hl
      refine wl (w_call hl hh rfl trivial rfl cal42 rfl (adjust_spec hS hc hw bg tT tf e s (-1) B (.inr rfl) hB hok hnb) (by repeat (first | exact keeps_nil | apply keeps_cons (by repeat (first | exact find_head | apply find_tail | apply find_skip)) (by first  | rfl) | exact keeps_self | exact keeps_left | apply keeps_app | apply keeps_mv | apply keeps_skip)) (pt_call hh hpre (by repeat (first | exact keeps_nil | apply keeps_cons (by repeat (first | exact find_head | apply find_tail | apply find_skip)) (by first  | rfl) | exact keeps_self | exact keeps_left | apply keeps_app | apply keeps_mv | apply keeps_skip))) ?_)
      clear hl hh a w; intro vc Fc a w hR hl hh
      obtain ⟨rfl, f2, E2, hF2, hS2, h2⟩ := hR
      try simp only [List.cons_append, List.nil_append, List.append_assoc, List.append_nil] at hh
      obtain ⟨f9, E9, hF9, hS9, h9⟩ : ∃ f9 E9, Fc = (bg, C (arrL 146 f9) 94) :: E9 ∧ ShR f9 c q (apF k fz e) (apL k fz l e s) E9 ∧ ∀ j, j ≠ 34 + 32 * c + q → j ≠ 18 + 32 * c + q → f9 j = f j := ⟨f2, E2, hF2, by rw [(ap2 (l := l) (s := s) (by assumption)).1, (ap2 (e := e) (by assumption)).2]; exact hS2, h2⟩
      subst hF9
      try simp only [List.cons_append, List.nil_append, List.append_assoc, List.append_nil] at hh
      refine w_nil ?_
      have hl2 := hl.nil; clear hl; have hl := hl2; clear hl2
      refine blk_normal ?_
      refine f_end0 (F' := ((bg, C (arrL 146 f9) 94) :: E9)) hl hh rfl (by repeat (first | exact keeps_nil | apply keeps_cons (by repeat (first | exact find_head | apply find_tail | apply find_skip)) (by first  | rfl) | exact keeps_self | exact keeps_left | apply keeps_app | apply keeps_mv | apply keeps_skip)) ?_
      exact ⟨rfl, f9, E9, rfl, hS9, h9⟩
    · intro hc1
      try simp only [decide_eq_true_eq, decide_eq_false_iff_not, Bool.not_eq_true', Bool.not_eq_false', Bool.not_eq_true, Bool.not_eq_false, Bool.and_eq_true, Bool.or_eq_true, Bool.and_eq_false_iff, Bool.or_eq_false_iff, Bool.not_not, ne_eq, Int.not_lt, Int.not_le, Decidable.not_not, beq_iff_eq, bne_iff_ne] at hc1
      refine c_seq ?_
      refine c_region ?_
      refine wl (wl_val hl rfl trivial (r_eql hl rfl rfl) ?_)
      clear hl a; intro a hl
      refine wl (wl_val hl rfl trivial (r_assign hl rfl) ?_)
      clear hl a; intro a hl
      refine w_nil ?_
      have hl2 := hl.add (t := 0) (hl.add (t := 3) (hl.add (t := 26) (hl.nil) rfl) rfl) rfl; clear hl; have hl := hl2; clear hl2
      refine then_normal ?_
      refine c_cond hl rfl ?_ ?_
      · intro hc2
        try simp only [decide_eq_true_eq, decide_eq_false_iff_not, Bool.not_eq_true', Bool.not_eq_false', Bool.not_eq_true, Bool.not_eq_false, Bool.and_eq_true, Bool.or_eq_true, Bool.and_eq_false_iff, Bool.or_eq_false_iff, Bool.not_not, ne_eq, Int.not_lt, Int.not_le, Decidable.not_not, beq_iff_eq, bne_iff_ne] at hc2
        refine c_region ?_
        refine wl (wl_val hl rfl trivial (r_move hl rfl) ?_)
        clear hl a; intro a hl
        refine wl (wl_val hl rfl trivial (r_field hl rfl fld160_1) ?_)
        clear hl a; intro a hl
        refine wl (w_load hl hh rfl trivial one57 rfl (by repeat (first | exact find_head | apply find_tail | apply find_skip)) (by first | rfl) ?_)
        clear hl a; intro a hl
        refine wl (wl_val hl rfl trivial (r_field hl rfl fld160_2) ?_)
        clear hl a; intro a hl
        refine wl (w_load hl hh rfl trivial one42 rfl (by repeat (first | exact find_head | apply find_tail | apply find_skip)) (by first | rfl) ?_)
        clear hl a; intro a hl
        refine wl (w_call hl hh rfl trivial rfl cal93 rfl (end_spec hS hc hw bg e he9 hok hnb.len) (by repeat (first | exact keeps_nil | apply keeps_cons (by repeat (first | exact find_head | apply find_tail | apply find_skip)) (by first  | rfl) | exact keeps_self | exact keeps_left | apply keeps_app | apply keeps_mv | apply keeps_skip)) trivial ?_)
        clear hl hh a w; intro vc Fc a w hR hl hh
        obtain ⟨rfl, f2, E2, hF2, hS2, h2⟩ := hR
        try simp only [List.cons_append, List.nil_append, List.append_assoc, List.append_nil] at hh
        obtain ⟨f9, E9, hF9, hS9, h9⟩ : ∃ f9 E9, Fc = (bg, C (arrL 146 f9) 94) :: E9 ∧ ShR f9 c q (apF k fz e) (apL k fz l e s) E9 ∧ ∀ j, j ≠ 34 + 32 * c + q → j ≠ 18 + 32 * c + q → f9 j = f j := ⟨f2, E2, hF2, by rw [show k = 3 by assumption, apL3 (s := s)]; exact hS2, h2⟩
        subst hF9
        try simp only [List.cons_append, List.nil_append, List.append_assoc, List.append_nil] at hh
        refine w_nil ?_
        have hl2 := hl.nil; clear hl; have hl := hl2; clear hl2
        refine blk_normal ?_
        refine f_end0 (F' := ((bg, C (arrL 146 f9) 94) :: E9)) hl hh rfl (by repeat (first | exact keeps_nil | apply keeps_cons (by repeat (first | exact find_head | apply find_tail | apply find_skip)) (by first  | rfl) | exact keeps_self | exact keeps_left | apply keeps_app | apply keeps_mv | apply keeps_skip)) ?_
        exact ⟨rfl, f9, E9, rfl, hS9, h9⟩
      · intro hc2
        try simp only [decide_eq_true_eq, decide_eq_false_iff_not, Bool.not_eq_true', Bool.not_eq_false', Bool.not_eq_true, Bool.not_eq_false, Bool.and_eq_true, Bool.or_eq_true, Bool.and_eq_false_iff, Bool.or_eq_false_iff, Bool.not_not, ne_eq, Int.not_lt, Int.not_le, Decidable.not_not, beq_iff_eq, bne_iff_ne] at hc2
        obtain ⟨f9, E9, hh, hS9, h9⟩ : ∃ f9 E9, Has (List.map Prod.fst ((bg, C (arrL 146 f) 94) :: E)) w0 ((k3, C [.int .u32 k, .int .i64 (q : Int), .int .u64 e, .int .u16 (mi s)] 160) :: (bg, C (arrL 146 f9) 94) :: E9) w ∧ ShR f9 c q (apF k fz e) (apL k fz l e s) E9 ∧ ∀ j, j ≠ 34 + 32 * c + q → j ≠ 18 + 32 * c + q → f9 j = f j := ⟨f, E, hh, by rw [(ap0 (l := l) (s := s) (by assumption) (by assumption) (by assumption)).1, (ap0 (e := e) (by assumption) (by assumption) (by assumption)).2]; exact hS, fun _ _ _ => rfl⟩
        refine wp_skip ?_
        refine blk_normal ?_
        refine f_end0 (F' := ((bg, C (arrL 146 f9) 94) :: E9)) hl hh rfl (by repeat (first | exact keeps_nil | apply keeps_cons (by repeat (first | exact find_head | apply find_tail | apply find_skip)) (by first  | rfl) | exact keeps_self | exact keeps_left | apply keeps_app | apply keeps_mv | apply keeps_skip)) ?_
        exact ⟨rfl, f9, E9, rfl, hS9, h9⟩

set_option maxHeartbeats 1000000 in
theorem succ_spec {f : Nat → Value} {c q : Nat} {fz : Int} {l : List Wt} {E : List (Nat × Obj)} (hS : ShR f c q fz l E) (hc : c < 4) (hw : q < 16) (bg : Nat) (hl9 : l.length ≤ 100000000) (e : Int) (hso : l.Pairwise (fun x y => x.e < y.e)) : SpK Tryz.prog 39 #[.pointer (some ⟨bg, 0 + 18 + c * 32, none⟩), .int .i64 (q : Int), .int .u64 e] (Mem ((bg, C (arrL 146 f) 94) :: E)) [] (fun v F' => v = .int .u16 (mi (maskN (nt l e) 16)) ∧ F' = []) := by
  refine f_enter (args := [.pointer (some ⟨bg, 0 + 18 + c * 32, none⟩), .int .i64 (q : Int), .int .u64 e]) Tryz.func39 rfl Tryz.ntmps39 rfl ?_
  intro w0 w a hpre hl hh
  have hmG := hpre _ _ (List.mem_cons_self ..)
  simp only [slotsFrom, Nat.reduceAdd] at hl
  refine c_seq ?_
  refine c_region ?_
  refine wl (wl_val hl rfl trivial (r_assign hl rfl) ?_)
  clear hl a; intro a hl
  refine w_nil ?_
  have hl2 := hl.add (t := 0) (hl.add (t := 1) (hl.add (t := 2) (hl.nil) rfl) rfl) rfl; clear hl; have hl := hl2; clear hl2
  refine then_normal ?_
  refine c_seq ?_
  refine c_region ?_
  refine wl (wl_val hl rfl trivial (r_move hl rfl) ?_)
  clear hl a; intro a hl
  refine wl (wl_val hl rfl trivial (r_move hl rfl) ?_)
  clear hl a; intro a hl
  refine wl (wl_val hl rfl trivial (r_move hl rfl) ?_)
  clear hl a; intro a hl
  refine wl (w_call hl hh rfl trivial rfl cal64 rfl (find_spec hS hc hw bg hl9 e hso) (by repeat (first | exact keeps_nil | apply keeps_cons (by repeat (first | exact find_head | apply find_tail)) (by first  | rfl) | exact keeps_self | apply keeps_mv)) (mem_keep hh hpre) ?_)
  clear hl hh a w; intro vc Fc a w hR hl hh
  obtain ⟨i, hi, hk, rfl, rfl⟩ := hR
  try simp only [List.cons_append, List.nil_append] at hh
  refine wl (wl_val hl rfl trivial (r_move hl rfl) ?_)
  clear hl a; intro a hl
  refine wl (wl_val hl rfl trivial (r_extract hl rfl (by simp only [List.getElem?_toArray, List.getElem?_cons_zero, List.getElem?_cons_succ]; rfl)) ?_)
  clear hl a; intro a hl
  refine wl (wl_val hl rfl trivial (r_extract hl rfl (by simp only [List.getElem?_toArray, List.getElem?_cons_zero, List.getElem?_cons_succ]; rfl)) ?_)
  clear hl a; intro a hl
  refine wl (wl_val hl rfl trivial (r_assign hl rfl) ?_)
  clear hl a; intro a hl
  refine wl (wl_val hl rfl trivial (r_assign hl rfl) ?_)
  clear hl a; intro a hl
  refine w_nil ?_
  have hl2 := hl.add (t := 0) (hl.add (t := 1) (hl.add (t := 7) (hl.add (t := 8) (hl.nil) rfl) rfl) rfl) rfl; clear hl; have hl := hl2; clear hl2
  refine then_normal ?_
  refine c_seq ?_
  refine c_seq ?_
  refine c_region ?_
  refine wl (wl_val hl rfl trivial (r_move hl rfl) ?_)
  clear hl a; intro a hl
  refine wl (wl_val hl rfl trivial (r_not hl rfl) ?_)
  clear hl a; intro a hl
  refine w_nil ?_
  have hl2 := hl.add (t := 0) (hl.add (t := 1) (hl.add (t := 7) (hl.add (t := 20) (hl.nil) rfl) rfl) rfl) rfl; clear hl; have hl := hl2; clear hl2
  refine then_normal ?_
  refine c_cond hl rfl ?_ ?_
  · intro hc0
    try simp only [decide_eq_true_eq, decide_eq_false_iff_not, Bool.not_eq_true', Bool.not_eq_false', Bool.not_eq_true, Bool.not_eq_false, Bool.and_eq_true, Bool.or_eq_true, Bool.and_eq_false_iff, Bool.or_eq_false_iff, Bool.not_not, ne_eq, Int.not_lt, Int.not_le, Decidable.not_not, beq_iff_eq, bne_iff_ne] at hc0
    refine c_seq ?_
    refine c_region ?_
    refine wl (wl_val hl rfl trivial (r_assign hl rfl) ?_)
    clear hl a; intro a hl
    refine w_nil ?_
    have hl2 := hl.add (t := 6) (hl.nil) rfl; clear hl; have hl := hl2; clear hl2
    refine then_normal ?_
    refine wp_ret ?_
    refine then_ret ?_
    refine f_ret1 (F' := []) hl hh rfl rfl (by repeat (first | exact keeps_nil | apply keeps_cons (by repeat (first | exact find_head | apply find_tail)) (by first  | rfl) | exact keeps_self | apply keeps_mv)) ?_
    exact ⟨by rw [maskN_congr (f := nt l e) (g := fun _ => 0) 16 (fun h _ => nt_not hi hk hso (by assumption) h), maskN_zero]; rfl, rfl⟩
  · intro hc0
    try simp only [decide_eq_true_eq, decide_eq_false_iff_not, Bool.not_eq_true', Bool.not_eq_false', Bool.not_eq_true, Bool.not_eq_false, Bool.and_eq_true, Bool.or_eq_true, Bool.and_eq_false_iff, Bool.or_eq_false_iff, Bool.not_not, ne_eq, Int.not_lt, Int.not_le, Decidable.not_not, beq_iff_eq, bne_iff_ne] at hc0
    obtain ⟨x, hx, hxe⟩ := fnd_get (by assumption)
    have hil := (List.getElem?_eq_some_iff.1 hx).1
    obtain ⟨b, cb, junk, hbv, hmb⟩ := row_getW hS.row (fun b o m => hpre b o (.tail _ m)) hx
    refine wp_skip ?_
    refine then_normal ?_
    refine c_seq ?_
    refine c_region ?_
    refine wl (wl_val hl rfl trivial (r_assign hl rfl) ?_)
    clear hl a; intro a hl
    refine w_nil ?_
    have hl2 := hl.add (t := 0) (hl.add (t := 1) (hl.add (t := 7) (hl.add (t := 9) (hl.nil) rfl) rfl) rfl) rfl; clear hl; have hl := hl2; clear hl2
    refine then_normal ?_
    refine c_seq ?_
    refine c_seq ?_
    refine c_region ?_
    refine wl (wl_val hl rfl trivial (r_move hl rfl) ?_)
    clear hl a; intro a hl
    refine wl (wl_val hl rfl trivial (r_move hl rfl) ?_)
    clear hl a; intro a hl
    refine wl (wl_val hl rfl trivial (r_nilCheck hl rfl) ?_)
    clear hl a; intro a hl
    refine wl (wl_val hl rfl trivial (r_field hl rfl fld91_1) ?_)
    clear hl a; intro a hl
    refine wl (wl_val hl rfl trivial (r_indexA hl rfl rfl arr89 (by omega) (by omega) (by first | (simp only [Int.reduceToNat]; rfl) | exact toNat_add1 _ | exact toNat_add2 _ _ | exact toNat_emod _ _ | exact Int.toNat_natCast _ | rfl)) ?_)
    clear hl a; intro a hl
    first | refine wl (w_load hl hh rfl trivial one88 rfl (by repeat (first | exact find_head | apply find_tail)) (by first | rfl) ?_) | refine wl (w_loadR hl hh rfl trivial one88 rfl hmG (by simp) (sh_waits hc hw) ?_)
    clear hl a; intro a hl
    rw [hbv] at hl
    refine wl (wl_val hl rfl trivial (r_move hl rfl) ?_)
    clear hl a; intro a hl
    refine wl (wl_val hl rfl trivial (r_indexS hl rfl rfl slc88 (by omega) (by omega) (by first | (simp only [Int.reduceToNat]; rfl) | exact toNat_add1 _ | exact toNat_add2 _ _ | exact toNat_emod _ _ | exact Int.toNat_natCast _ | rfl)) ?_)
    clear hl a; intro a hl
    refine wl (wl_val hl rfl trivial (r_field hl rfl fld150_1) ?_)
    clear hl a; intro a hl
    first | refine wl (w_loadA hl hh rfl trivial agg106 rfl (by repeat (first | exact find_head | apply find_tail)) (by first | (simp only [List.getElem?_cons_zero, List.getElem?_cons_succ, Value.cells, List.take_zero, List.take_succ_cons, List.take_nil, List.drop_zero, List.drop_succ_cons, List.drop_nil, List.length_cons, List.length_nil, List.cons_append, List.nil_append, List.append_nil, Nat.zero_add, Nat.add_zero, Nat.reduceAdd, Nat.reduceBEq, Nat.reduceEqDiff, Nat.ble, BEq.rfl, Bool.and_true, Bool.and_self, cond_true, beq_self_eq_true]; rfl)) (by first | rfl | (simp; done)) ?_) | refine wl (w_loadRA hl hh rfl trivial agg106 rfl hmb (by simp) (wt_nets hx) (arrL_length _ _) ?_)
    clear hl a; intro a hl
    refine wl (wl_val hl rfl trivial (r_move hl rfl) ?_)
    clear hl a; intro a hl
    refine w_nil ?_
    have hl2 := hl.add (t := 9) (hl.add (t := 30) (hl.add (t := 31) (hl.nil) rfl) rfl) rfl; clear hl; have hl := hl2; clear hl2
    refine then_normal ?_
    refine wp_block ?_
    obtain ⟨KS0, hKS0, hk⟩ := (hl.add (t := 30) (hl.nil) rfl).name
    obtain ⟨HS0, hHS0, hh2⟩ := hh.name (keeps_nil)
    refine c_loop (α := Nat) (fun j => 16 - j) (fun j a w => (j ≤ 16) ∧ Sl 43 ([(31, .int .i64 (j : Int)), (9, .int .u16 (mi (maskN x.net j)))] ++ KS0) a ∧ Has _ w0 ([] ++ HS0) w) 0 ⟨(by omega), hl.addE (t := 31) (hl.addE (t := 9) (hk) rfl (by first | rfl)) rfl (by first | rfl), hh2⟩ ?_
    clear hk hh2 hl hh a w
    intro j a w hI
    obtain ⟨hj, hl, hh⟩ := hI
    subst hKS0; subst hHS0
    simp only [List.cons_append, List.nil_append, List.append_nil] at hl hh
    refine c_seq ?_
    refine c_region ?_
    refine wl (wl_val hl rfl trivial (r_lss hl rfl rfl) ?_)
    clear hl a; intro a hl
    refine w_nil ?_
    have hl2 := hl.add (t := 9) (hl.add (t := 30) (hl.add (t := 31) (hl.add (t := 32) (hl.nil) rfl) rfl) rfl) rfl; clear hl; have hl := hl2; clear hl2
    refine then_normal ?_
    refine c_seq ?_
    refine c_cond hl rfl ?_ ?_
    · intro hc1
      try simp only [decide_eq_true_eq, decide_eq_false_iff_not, Bool.not_eq_true', Bool.not_eq_false', Bool.not_eq_true, Bool.not_eq_false, Bool.and_eq_true, Bool.or_eq_true, Bool.and_eq_false_iff, Bool.or_eq_false_iff, Bool.not_not, ne_eq, Int.not_lt, Int.not_le, Decidable.not_not, beq_iff_eq, bne_iff_ne] at hc1
      refine wp_skip ?_
      refine then_normal ?_
      refine c_seq ?_
      refine wp_block ?_
      refine c_seq ?_
      refine c_region ?_
      refine wl (wl_val hl rfl trivial (r_move hl rfl) ?_)
      clear hl a; intro a hl
      refine wl (wl_val hl rfl trivial (r_indexAgg hl rfl rfl arrT106 one3 (by omega) (by omega) (by first | (simp only [Int.reduceToNat]; rfl) | exact toNat_add1 _ | exact toNat_add2 _ _ | exact toNat_emod _ _ | exact Int.toNat_natCast _ | rfl) (by exact arr1 (by omega))) ?_)
      clear hl a; intro a hl
      refine wl (wl_val hl rfl trivial (r_assign hl rfl) ?_)
      clear hl a; intro a hl
      refine wl (wl_val hl rfl trivial (r_assign hl rfl) ?_)
      clear hl a; intro a hl
      refine w_nil ?_
      have hl2 := hl.add (t := 9) (hl.add (t := 10) (hl.add (t := 11) (hl.add (t := 30) (hl.add (t := 31) (hl.nil) rfl) rfl) rfl) rfl) rfl; clear hl; have hl := hl2; clear hl2
      refine then_normal ?_
      refine c_seq ?_
      refine c_region ?_
      refine wl (wl_val hl rfl trivial (r_move hl rfl) ?_)
      clear hl a; intro a hl
      refine wl (wl_val hl rfl trivial (r_gtr hl rfl rfl) ?_)
      clear hl a; intro a hl
      refine w_nil ?_
      have hl2 := hl.add (t := 9) (hl.add (t := 10) (hl.add (t := 30) (hl.add (t := 31) (hl.add (t := 36) (hl.nil) rfl) rfl) rfl) rfl) rfl; clear hl; have hl := hl2; clear hl2
      refine then_normal ?_
      refine c_cond hl rfl ?_ ?_
      · intro hc2
        try simp only [decide_eq_true_eq, decide_eq_false_iff_not, Bool.not_eq_true', Bool.not_eq_false', Bool.not_eq_true, Bool.not_eq_false, Bool.and_eq_true, Bool.or_eq_true, Bool.and_eq_false_iff, Bool.or_eq_false_iff, Bool.not_not, ne_eq, Int.not_lt, Int.not_le, Decidable.not_not, beq_iff_eq, bne_iff_ne] at hc2
        refine c_region ?_
        refine wl (wl_val hl rfl trivial (r_move hl rfl) ?_)
        clear hl a; intro a hl
        refine wl (wl_val hl rfl trivial (r_move hl rfl) ?_)
        clear hl a; intro a hl
        refine wl (w_call hl hh rfl trivial rfl cal32 rfl (bit_spec _ (by omega)) (by repeat (first | exact keeps_nil | apply keeps_cons (by repeat (first | exact find_head | apply find_tail)) (by first  | rfl) | exact keeps_self | apply keeps_mv)) trivial ?_)
        clear hl hh a w; intro vc Fc a w hR hl hh
        obtain ⟨rfl, rfl⟩ := hR
        try simp only [List.cons_append, List.nil_append] at hh
        refine wl (wl_val hl rfl trivial (r_or hl rfl rfl) ?_)
        clear hl a; intro a hl
        rw [or_mi] at hl
        refine wl (wl_val hl rfl trivial (r_assign hl rfl) ?_)
        clear hl a; intro a hl
        refine w_nil ?_
        have hl2 := hl.add (t := 9) (hl.add (t := 30) (hl.add (t := 31) (hl.nil) rfl) rfl) rfl; clear hl; have hl := hl2; clear hl2
        refine blk_normal ?_
        refine then_normal ?_
        refine c_region ?_
        first | refine wl (wl_val hl rfl trivial (r_add hl rfl rfl (by simp only [Fits]; omega)) ?_) | refine wl (wl_val hl rfl trivial (r_addW hl rfl rfl) ?_)
        clear hl a; intro a hl
        refine wl (wl_val hl rfl trivial (r_move hl rfl) ?_)
        clear hl a; intro a hl
        refine w_nil ?_
        have hl2 := hl.add (t := 9) (hl.add (t := 30) (hl.add (t := 31) (hl.nil) rfl) rfl) rfl; clear hl; have hl := hl2; clear hl2
        refine then_normal ?_
        refine ⟨(j + 1), (by omega), (by omega), hl.addE (t := 31) (hl.addE (t := 9) (hl.addE (t := 30) (hl.nil) rfl (by first | rfl | exact maskN_T (by assumption) | exact maskN_F (by assumption))) rfl (by first | rfl | exact maskN_T (by assumption) | exact maskN_F (by assumption))) rfl (by first | rfl | exact maskN_T (by assumption) | exact maskN_F (by assumption)), hh.keep (by repeat (first | exact keeps_nil | apply keeps_cons (by repeat (first | exact find_head | apply find_tail)) (by first  | rfl) | exact keeps_self | apply keeps_mv))⟩
      · intro hc2
        try simp only [decide_eq_true_eq, decide_eq_false_iff_not, Bool.not_eq_true', Bool.not_eq_false', Bool.not_eq_true, Bool.not_eq_false, Bool.and_eq_true, Bool.or_eq_true, Bool.and_eq_false_iff, Bool.or_eq_false_iff, Bool.not_not, ne_eq, Int.not_lt, Int.not_le, Decidable.not_not, beq_iff_eq, bne_iff_ne] at hc2
        refine wp_skip ?_
        refine blk_normal ?_
        refine then_normal ?_
        refine c_region ?_
        first | refine wl (wl_val hl rfl trivial (r_add hl rfl rfl (by simp only [Fits]; omega)) ?_) | refine wl (wl_val hl rfl trivial (r_addW hl rfl rfl) ?_)
        clear hl a; intro a hl
        refine wl (wl_val hl rfl trivial (r_move hl rfl) ?_)
        clear hl a; intro a hl
        refine w_nil ?_
        have hl2 := hl.add (t := 9) (hl.add (t := 30) (hl.add (t := 31) (hl.nil) rfl) rfl) rfl; clear hl; have hl := hl2; clear hl2
        refine then_normal ?_
        refine ⟨(j + 1), (by omega), (by omega), hl.addE (t := 31) (hl.addE (t := 9) (hl.addE (t := 30) (hl.nil) rfl (by first | rfl | exact maskN_T (by assumption) | exact maskN_F (by assumption))) rfl (by first | rfl | exact maskN_T (by assumption) | exact maskN_F (by assumption))) rfl (by first | rfl | exact maskN_T (by assumption) | exact maskN_F (by assumption)), hh.keep (by repeat (first | exact keeps_nil | apply keeps_cons (by repeat (first | exact find_head | apply find_tail)) (by first  | rfl) | exact keeps_self | apply keeps_mv))⟩
    · intro hc1
      try simp only [decide_eq_true_eq, decide_eq_false_iff_not, Bool.not_eq_true', Bool.not_eq_false', Bool.not_eq_true, Bool.not_eq_false, Bool.and_eq_true, Bool.or_eq_true, Bool.and_eq_false_iff, Bool.or_eq_false_iff, Bool.not_not, ne_eq, Int.not_lt, Int.not_le, Decidable.not_not, beq_iff_eq, bne_iff_ne] at hc1
      have hi16 : j = 16 := by omega
      subst hi16
      refine wp_exit ?_
      refine then_exit ?_
      refine then_exit ?_
      refine blk_exit ?_
      refine then_normal ?_
      refine c_seq ?_
      refine c_region ?_
      refine wl (wl_val hl rfl trivial (r_move hl rfl) ?_)
      clear hl a; intro a hl
      refine wl (wl_val hl rfl trivial (r_assign hl rfl) ?_)
      clear hl a; intro a hl
      refine w_nil ?_
      have hl2 := hl.add (t := 6) (hl.nil) rfl; clear hl; have hl := hl2; clear hl2
      refine then_normal ?_
      refine wp_ret ?_
      refine f_ret1 (F' := []) hl hh rfl rfl (by repeat (first | exact keeps_nil | apply keeps_cons (by repeat (first | exact find_head | apply find_tail)) (by first  | rfl) | exact keeps_self | apply keeps_mv)) ?_
      exact ⟨by rw [maskN_congr (f := nt l e) (g := x.net) 16 (fun h _ => by rw [← hxe]; exact nt_at hso hx h)], rfl⟩

set_option maxHeartbeats 4000000 in
theorem edges_spec {f : Nat → Value} {c : Nat} {ws : Nat → List Wt} {E : Nat → List (Nat × Obj)} (hS : ∀ q, q < 16 → Row (f (34 + 32 * c + q)) (ws q).length (fl wtc (ws q)) 18 150 (E q)) (hc : c < 4) (bg : Nat) (hlen : ∀ q, q < 16 → (ws q).length ≤ 100000000) : SpK Tryz.prog 58 #[.pointer (some ⟨bg, 0 + 18 + c * 32, none⟩)] (fun w => w.heap[bg]? = some (C (arrL 146 f) 94) ∧ ∀ q, q < 16 → Mem (E q) w) [] (fun v F' => Row v (edN ws 16).length (fl egc (edN ws 16)) 4 102 F') := by
  refine f_enter (args := [.pointer (some ⟨bg, 0 + 18 + c * 32, none⟩)]) Tryz.func58 rfl Tryz.ntmps58 rfl ?_
  intro w0 w a hpre hl hh
  have hmG := hpre.1
  simp only [slotsFrom, Nat.reduceAdd] at hl
  refine c_seq ?_
  refine c_region ?_
  refine wl (wl_val hl rfl trivial (r_assign hl rfl) ?_)
  clear hl a; intro a hl
  refine w_nil ?_
  have hl2 := hl.add (t := 0) (hl.nil) rfl; clear hl; have hl := hl2; clear hl2
  refine then_normal ?_
  refine c_seq ?_
  refine c_region ?_
  refine wl (wl_val hl rfl trivial (r_assign hl rfl) ?_)
  clear hl a; intro a hl
  refine w_nil ?_
  have hl2 := hl.add (t := 0) (hl.add (t := 3) (hl.nil) rfl) rfl; clear hl; have hl := hl2; clear hl2
  refine then_normal ?_
  refine c_seq ?_
  refine c_seq ?_
  refine c_region ?_
  refine wl (wl_val hl rfl trivial (r_move hl rfl) ?_)
  clear hl a; intro a hl
  refine w_nil ?_
  have hl2 := hl.add (t := 0) (hl.add (t := 3) (hl.add (t := 9) (hl.nil) rfl) rfl) rfl; clear hl; have hl := hl2; clear hl2
  refine then_normal ?_
  refine wp_block ?_
  obtain ⟨KS0, hKS0, hk⟩ := (hl.add (t := 0) (hl.nil) rfl).name
  obtain ⟨HS0, hHS0, hh2⟩ := hh.nameT (A := []) (U := []) ((by repeat (first | exact keeps_nil | exact keeps_self | exact keeps_left | apply keeps_app | apply keeps_mv | apply keeps_skip)))
  refine c_loop (α := ED) (fun z => 16 - z.i) (fun z a w => (z.i ≤ 16 ∧ Row z.v (edN ws z.i).length (fl egc (edN ws z.i)) 4 102 z.E) ∧ Sl 55 ([(9, .int .i64 (z.i : Int)), (3, z.v)] ++ KS0) a ∧ Has _ w0 ([] ++ (HS0 ++ z.E)) w) ⟨.slice none 0 0, [], 0⟩ ⟨⟨Nat.zero_le _, Row.nil _ _⟩, hl.addE (t := 9) (hl.addE (t := 3) (hk) rfl (by first | rfl)) rfl (by first | rfl), hh2⟩ ?_
  clear hk hh2 hl hh a w
  intro z a w hI
  obtain ⟨⟨hzi, hR0⟩, hl, hh⟩ := hI
  subst hKS0; subst hHS0
  simp only [List.cons_append, List.nil_append, List.append_nil, List.append_assoc] at hl hh
  obtain ⟨i, hiv⟩ : ∃ i, i = z.i := ⟨_, rfl⟩
  rw [← hiv] at hl hzi hR0
  refine c_seq ?_
  refine c_region ?_
  refine wl (wl_val hl rfl trivial (r_lss hl rfl rfl) ?_)
  clear hl a; intro a hl
  refine w_nil ?_
  have hl2 := hl.add (t := 0) (hl.add (t := 3) (hl.add (t := 9) (hl.add (t := 10) (hl.nil) rfl) rfl) rfl) rfl; clear hl; have hl := hl2; clear hl2
  refine then_normal ?_
  refine c_seq ?_
  refine c_cond hl rfl ?_ ?_
  · intro hc0
    try simp only [decide_eq_true_eq, decide_eq_false_iff_not, Bool.not_eq_true', Bool.not_eq_false', Bool.not_eq_true, Bool.not_eq_false, Bool.and_eq_true, Bool.or_eq_true, Bool.and_eq_false_iff, Bool.or_eq_false_iff, Bool.not_not, ne_eq, Int.not_lt, Int.not_le, Decidable.not_not, beq_iff_eq, bne_iff_ne] at hc0
    refine wp_skip ?_
    refine then_normal ?_
    refine c_seq ?_
    refine wp_block ?_
    refine c_seq ?_
    refine c_region ?_
    refine wl (wl_val hl rfl trivial (r_move hl rfl) ?_)
    clear hl a; intro a hl
    refine wl (wl_val hl rfl trivial (r_assign hl rfl) ?_)
    clear hl a; intro a hl
    refine w_nil ?_
    have hl2 := hl.add (t := 0) (hl.add (t := 3) (hl.add (t := 4) (hl.add (t := 9) (hl.nil) rfl) rfl) rfl) rfl; clear hl; have hl := hl2; clear hl2
    refine then_normal ?_
    refine c_seq ?_
    refine c_region ?_
    refine wl (wl_val hl rfl trivial (r_move hl rfl) ?_)
    clear hl a; intro a hl
    refine wl (wl_val hl rfl trivial (r_move hl rfl) ?_)
    clear hl a; intro a hl
    refine wl (wl_val hl rfl trivial (r_nilCheck hl rfl) ?_)
    clear hl a; intro a hl
    refine wl (wl_val hl rfl trivial (r_field hl rfl fld91_1) ?_)
    clear hl a; intro a hl
    refine wl (wl_val hl rfl trivial (r_indexA hl rfl rfl arr89 (by omega) (by omega) (by first | (simp only [Int.reduceToNat]; rfl) | exact toNat_add1 _ | exact toNat_add2 _ _ | exact toNat_emod _ _ | exact Int.toNat_natCast _ | rfl)) ?_)
    clear hl a; intro a hl
    first | refine wl (w_load hl hh rfl trivial one88 rfl (by repeat (first | exact find_head | apply find_tail | apply find_skip)) (by first | rfl) ?_) | refine wl (w_loadR hl hh rfl trivial one88 rfl hmG (by simp) (sh_waits hc (by omega)) ?_) | refine wl (w_loadR hl hh rfl trivial one88 rfl hmb (by simp) (wt_ep hx) ?_)
    clear hl a; intro a hl
    obtain ⟨p9, c9, hpc⟩ := row_val (hS i (by omega))
    rw [hpc] at hl
    refine wl (wl_val hl rfl trivial (r_lenS hl rfl slc88) ?_)
    clear hl a; intro a hl
    refine wl (wl_val hl rfl trivial (r_move hl rfl) ?_)
    clear hl a; intro a hl
    refine w_nil ?_
    have hl2 := hl.add (t := 0) (hl.add (t := 3) (hl.add (t := 4) (hl.add (t := 9) (hl.add (t := 18) (hl.add (t := 19) (hl.nil) rfl) rfl) rfl) rfl) rfl) rfl; clear hl; have hl := hl2; clear hl2
    refine then_normal ?_
    refine wp_block ?_
    obtain ⟨KS1, hKS1, hk⟩ := (hl.add (t := 0) (hl.add (t := 4) (hl.add (t := 9) (hl.add (t := 18) (hl.nil) rfl) rfl) rfl) rfl).name
    obtain ⟨HS1, hHS1, hh2⟩ := hh.nameT (A := []) (U := z.E) ((by repeat (first | exact keeps_nil | exact keeps_self | exact keeps_left | apply keeps_app | apply keeps_mv | apply keeps_skip)))
    refine c_loop (α := ED) (fun z => (ws i).length - z.i) (fun z a w => (z.i ≤ (ws i).length ∧ Row z.v (edN ws i ++ edL i ((ws i).take z.i)).length (fl egc (edN ws i ++ edL i ((ws i).take z.i))) 4 102 z.E) ∧ Sl 55 ([(19, .int .i64 (z.i : Int)), (3, z.v)] ++ KS1) a ∧ Has _ w0 ([] ++ (HS1 ++ z.E)) w) ⟨z.v, z.E, 0⟩ ⟨⟨by simp, by simpa [edL] using hR0⟩, hl.addE (t := 19) (hl.addE (t := 3) (hk) rfl (by first | rfl)) rfl (by first | rfl), hh2⟩ ?_
    clear hk hh2 hl hh a w
    intro z2 a w hI
    obtain ⟨⟨hzj, hR1⟩, hl, hh⟩ := hI
    subst hKS1; subst hHS1
    simp only [List.cons_append, List.nil_append, List.append_nil, List.append_assoc] at hl hh
    obtain ⟨j, hjv⟩ : ∃ j, j = z2.i := ⟨_, rfl⟩
    rw [← hjv] at hl hzj hR1
    obtain ⟨v1, hv1⟩ : ∃ v, v = z2.v := ⟨_, rfl⟩
    rw [← hv1] at hl hR1
    obtain ⟨E1, hE1⟩ : ∃ v, v = z2.E := ⟨_, rfl⟩
    rw [← hE1] at hh hR1
    have hle := edN_len hlen i (by omega)
    have hlw := hlen i (by omega)
    have hl2 := edL_len i ((ws i).take j)
    have hl4 : ((ws i).take j).length ≤ (ws i).length := by rw [List.length_take]; omega
    refine c_seq ?_
    refine c_region ?_
    refine wl (wl_val hl rfl trivial (r_lss hl rfl rfl) ?_)
    clear hl a; intro a hl
    refine w_nil ?_
    have hl2 := hl.add (t := 0) (hl.add (t := 3) (hl.add (t := 4) (hl.add (t := 9) (hl.add (t := 18) (hl.add (t := 19) (hl.add (t := 20) (hl.nil) rfl) rfl) rfl) rfl) rfl) rfl) rfl; clear hl; have hl := hl2; clear hl2
    refine then_normal ?_
    refine c_seq ?_
    refine c_cond hl rfl ?_ ?_
    · intro hc1
      try simp only [decide_eq_true_eq, decide_eq_false_iff_not, Bool.not_eq_true', Bool.not_eq_false', Bool.not_eq_true, Bool.not_eq_false, Bool.and_eq_true, Bool.or_eq_true, Bool.and_eq_false_iff, Bool.or_eq_false_iff, Bool.not_not, ne_eq, Int.not_lt, Int.not_le, Decidable.not_not, beq_iff_eq, bne_iff_ne] at hc1
      obtain ⟨x, hx⟩ : ∃ x, (ws i)[j]? = some x := ⟨_, List.getElem?_eq_getElem (by omega)⟩
      obtain ⟨b, cb, junk, hbv, hmb⟩ := row_getW (hS i (by omega)) (hpre.2 i (by omega)) hx
      refine wp_skip ?_
      refine then_normal ?_
      refine c_seq ?_
      refine wp_block ?_
      refine c_seq ?_
      refine c_region ?_
      refine wl (wl_val hl rfl trivial (r_move hl rfl) ?_)
      clear hl a; intro a hl
      refine wl (wl_val hl rfl trivial (r_assign hl rfl) ?_)
      clear hl a; intro a hl
      refine w_nil ?_
      have hl2 := hl.add (t := 0) (hl.add (t := 3) (hl.add (t := 4) (hl.add (t := 5) (hl.add (t := 9) (hl.add (t := 18) (hl.add (t := 19) (hl.nil) rfl) rfl) rfl) rfl) rfl) rfl) rfl; clear hl; have hl := hl2; clear hl2
      refine then_normal ?_
      refine c_seq ?_
      refine c_region ?_
      refine wl (wl_val hl rfl trivial (r_move hl rfl) ?_)
      clear hl a; intro a hl
      refine wl (wl_val hl rfl trivial (r_move hl rfl) ?_)
      clear hl a; intro a hl
      refine wl (wl_val hl rfl trivial (r_nilCheck hl rfl) ?_)
      clear hl a; intro a hl
      refine wl (wl_val hl rfl trivial (r_field hl rfl fld91_1) ?_)
      clear hl a; intro a hl
      refine wl (wl_val hl rfl trivial (r_indexA hl rfl rfl arr89 (by omega) (by omega) (by first | (simp only [Int.reduceToNat]; rfl) | exact toNat_add1 _ | exact toNat_add2 _ _ | exact toNat_emod _ _ | exact Int.toNat_natCast _ | rfl)) ?_)
      clear hl a; intro a hl
      first | refine wl (w_load hl hh rfl trivial one88 rfl (by repeat (first | exact find_head | apply find_tail | apply find_skip)) (by first | rfl) ?_) | refine wl (w_loadR hl hh rfl trivial one88 rfl hmG (by simp) (sh_waits hc (by omega)) ?_) | refine wl (w_loadR hl hh rfl trivial one88 rfl hmb (by simp) (wt_ep hx) ?_)
      clear hl a; intro a hl
      rw [hbv] at hl
      refine wl (wl_val hl rfl trivial (r_move hl rfl) ?_)
      clear hl a; intro a hl
      refine wl (wl_val hl rfl trivial (r_indexS hl rfl rfl slc88 (by omega) (by omega) (by first | (simp only [Int.reduceToNat]; rfl) | exact toNat_add1 _ | exact toNat_add2 _ _ | exact toNat_emod _ _ | exact Int.toNat_natCast _ | rfl)) ?_)
      clear hl a; intro a hl
      refine wl (wl_val hl rfl trivial (r_assign hl rfl) ?_)
      clear hl a; intro a hl
      refine w_nil ?_
      have hl2 := hl.add (t := 0) (hl.add (t := 3) (hl.add (t := 4) (hl.add (t := 6) (hl.add (t := 9) (hl.add (t := 18) (hl.add (t := 19) (hl.nil) rfl) rfl) rfl) rfl) rfl) rfl) rfl; clear hl; have hl := hl2; clear hl2
      refine then_normal ?_
      refine c_seq ?_
      refine c_region ?_
      refine wl (wl_val hl rfl trivial (r_move hl rfl) ?_)
      clear hl a; intro a hl
      refine wl (wl_val hl rfl trivial (r_nilCheck hl rfl) ?_)
      clear hl a; intro a hl
      refine wl (wl_val hl rfl trivial (r_field hl rfl fld150_1) ?_)
      clear hl a; intro a hl
      first | refine wl (w_loadA hl hh rfl trivial agg106 rfl (by repeat (first | exact find_head | apply find_tail | apply find_skip)) (by first | (simp only [List.getElem?_cons_zero, List.getElem?_cons_succ, Value.cells, List.take_zero, List.take_succ_cons, List.take_nil, List.drop_zero, List.drop_succ_cons, List.drop_nil, List.length_cons, List.length_nil, List.cons_append, List.nil_append, List.append_nil, Nat.zero_add, Nat.add_zero, Nat.reduceAdd, Nat.reduceBEq, Nat.reduceEqDiff, Nat.ble, BEq.rfl, Bool.and_true, Bool.and_self, cond_true, beq_self_eq_true]; rfl)) (by first | rfl | (simp; done)) ?_) | refine wl (w_loadRA hl hh rfl trivial agg106 rfl hmb (by simp) (wt_nets hx) (arrL_length _ _) ?_)
      clear hl a; intro a hl
      refine wl (wl_val hl rfl trivial (r_move hl rfl) ?_)
      clear hl a; intro a hl
      refine w_nil ?_
      have hl2 := hl.add (t := 0) (hl.add (t := 3) (hl.add (t := 4) (hl.add (t := 6) (hl.add (t := 9) (hl.add (t := 18) (hl.add (t := 19) (hl.add (t := 33) (hl.add (t := 34) (hl.nil) rfl) rfl) rfl) rfl) rfl) rfl) rfl) rfl) rfl; clear hl; have hl := hl2; clear hl2
      refine then_normal ?_
      refine wp_block ?_
      obtain ⟨KS2, hKS2, hk⟩ := (hl.add (t := 0) (hl.add (t := 4) (hl.add (t := 6) (hl.add (t := 9) (hl.add (t := 18) (hl.add (t := 19) (hl.add (t := 33) (hl.nil) rfl) rfl) rfl) rfl) rfl) rfl) rfl).name
      obtain ⟨HS2, hHS2, hh2⟩ := hh.nameT (A := []) (U := E1) ((by repeat (first | exact keeps_nil | exact keeps_self | exact keeps_left | apply keeps_app | apply keeps_mv | apply keeps_skip)))
      refine c_loop (α := ED) (fun z => 16 - z.i) (fun z a w => (z.i ≤ 16 ∧ Row z.v (edN ws i ++ edL i ((ws i).take j) ++ edH i x z.i).length (fl egc (edN ws i ++ edL i ((ws i).take j) ++ edH i x z.i)) 4 102 z.E) ∧ Sl 55 ([(34, .int .i64 (z.i : Int)), (3, z.v)] ++ KS2) a ∧ Has _ w0 ([] ++ (HS2 ++ z.E)) w) ⟨v1, E1, 0⟩ ⟨⟨Nat.zero_le _, by simpa [edH] using hR1⟩, hl.addE (t := 34) (hl.addE (t := 3) (hk) rfl (by first | rfl)) rfl (by first | rfl), hh2⟩ ?_
      clear hk hh2 hl hh a w
      intro z3 a w hI
      obtain ⟨⟨hzh, hR2_⟩, hl, hh⟩ := hI
      subst hKS2; subst hHS2
      simp only [List.cons_append, List.nil_append, List.append_nil, List.append_assoc] at hl hh
      obtain ⟨h, hhv⟩ : ∃ h, h = z3.i := ⟨_, rfl⟩
      rw [← hhv] at hl hzh hR2_
      obtain ⟨v2, hv2⟩ : ∃ v, v = z3.v := ⟨_, rfl⟩
      rw [← hv2] at hl hR2_
      obtain ⟨E2_, hE2⟩ : ∃ v, v = z3.E := ⟨_, rfl⟩
      rw [← hE2] at hh hR2_
      have hl3 := edH_len i x h
      refine c_seq ?_
      refine c_region ?_
      refine wl (wl_val hl rfl trivial (r_lss hl rfl rfl) ?_)
      clear hl a; intro a hl
      refine w_nil ?_
      have hl2 := hl.add (t := 0) (hl.add (t := 3) (hl.add (t := 4) (hl.add (t := 6) (hl.add (t := 9) (hl.add (t := 18) (hl.add (t := 19) (hl.add (t := 33) (hl.add (t := 34) (hl.add (t := 35) (hl.nil) rfl) rfl) rfl) rfl) rfl) rfl) rfl) rfl) rfl) rfl; clear hl; have hl := hl2; clear hl2
      refine then_normal ?_
      refine c_seq ?_
      refine c_cond hl rfl ?_ ?_
      · intro hc2
        try simp only [decide_eq_true_eq, decide_eq_false_iff_not, Bool.not_eq_true', Bool.not_eq_false', Bool.not_eq_true, Bool.not_eq_false, Bool.and_eq_true, Bool.or_eq_true, Bool.and_eq_false_iff, Bool.or_eq_false_iff, Bool.not_not, ne_eq, Int.not_lt, Int.not_le, Decidable.not_not, beq_iff_eq, bne_iff_ne] at hc2
        refine wp_skip ?_
        refine then_normal ?_
        refine c_seq ?_
        refine wp_block ?_
        refine c_seq ?_
        refine c_region ?_
        refine wl (wl_val hl rfl trivial (r_move hl rfl) ?_)
        clear hl a; intro a hl
        refine wl (wl_val hl rfl trivial (r_indexAgg hl rfl rfl arrT106 one3 (by omega) (by omega) (by first | (simp only [Int.reduceToNat]; rfl) | exact toNat_add1 _ | exact toNat_add2 _ _ | exact toNat_emod _ _ | exact Int.toNat_natCast _ | rfl) (by exact arr1 (by omega))) ?_)
        clear hl a; intro a hl
        refine wl (wl_val hl rfl trivial (r_assign hl rfl) ?_)
        clear hl a; intro a hl
        refine wl (wl_val hl rfl trivial (r_assign hl rfl) ?_)
        clear hl a; intro a hl
        refine w_nil ?_
        have hl2 := hl.add (t := 0) (hl.add (t := 3) (hl.add (t := 4) (hl.add (t := 6) (hl.add (t := 7) (hl.add (t := 8) (hl.add (t := 9) (hl.add (t := 18) (hl.add (t := 19) (hl.add (t := 33) (hl.add (t := 34) (hl.nil) rfl) rfl) rfl) rfl) rfl) rfl) rfl) rfl) rfl) rfl) rfl; clear hl; have hl := hl2; clear hl2
        refine then_normal ?_
        refine c_seq ?_
        refine c_region ?_
        refine wl (wl_val hl rfl trivial (r_move hl rfl) ?_)
        clear hl a; intro a hl
        refine wl (wl_val hl rfl trivial (r_neq hl rfl rfl) ?_)
        clear hl a; intro a hl
        refine w_nil ?_
        have hl2 := hl.add (t := 0) (hl.add (t := 3) (hl.add (t := 4) (hl.add (t := 6) (hl.add (t := 7) (hl.add (t := 8) (hl.add (t := 9) (hl.add (t := 18) (hl.add (t := 19) (hl.add (t := 33) (hl.add (t := 34) (hl.add (t := 39) (hl.nil) rfl) rfl) rfl) rfl) rfl) rfl) rfl) rfl) rfl) rfl) rfl) rfl; clear hl; have hl := hl2; clear hl2
        refine then_normal ?_
        refine c_cond hl rfl ?_ ?_
        · intro hc3
          try simp only [decide_eq_true_eq, decide_eq_false_iff_not, Bool.not_eq_true', Bool.not_eq_false', Bool.not_eq_true, Bool.not_eq_false, Bool.and_eq_true, Bool.or_eq_true, Bool.and_eq_false_iff, Bool.or_eq_false_iff, Bool.not_not, ne_eq, Int.not_lt, Int.not_le, Decidable.not_not, beq_iff_eq, bne_iff_ne] at hc3
          refine c_region ?_
          refine wl (wl_val hl rfl trivial (r_move hl rfl) ?_)
          clear hl a; intro a hl
          refine wl (wl_val hl rfl trivial (r_move hl rfl) ?_)
          clear hl a; intro a hl
          refine wl (wl_val hl rfl trivial (r_move hl rfl) ?_)
          clear hl a; intro a hl
          refine wl (wl_val hl rfl trivial (r_move hl rfl) ?_)
          clear hl a; intro a hl
          refine wl (wl_val hl rfl trivial (r_nilCheck hl rfl) ?_)
          clear hl a; intro a hl
          refine wl (wl_val hl rfl trivial (r_field hl rfl fld150_0) ?_)
          clear hl a; intro a hl
          first | refine wl (w_load hl hh rfl trivial one42 rfl (by repeat (first | exact find_head | apply find_tail | apply find_skip)) (by first | rfl) ?_) | refine wl (w_loadR hl hh rfl trivial one42 rfl hmG (by simp) (sh_waits hc (by omega)) ?_) | refine wl (w_loadR hl hh rfl trivial one42 rfl hmb (by simp) (wt_ep hx) ?_)
          clear hl a; intro a hl
          refine wl (wl_val hl rfl trivial (r_move hl rfl) ?_)
          clear hl a; intro a hl
          refine wl (wl_val hl rfl trivial (r_build hl rfl zero102 bld102 (by simp only [fillL, setL, List.getElem?_cons_zero, List.getElem?_cons_succ, Value.cells, List.take_zero, List.take_succ_cons, List.take_nil, List.drop_zero, List.drop_succ_cons, List.drop_nil, List.length_cons, List.length_nil, List.cons_append, List.nil_append, List.append_nil, Nat.zero_add, Nat.add_zero, Nat.reduceAdd, Nat.reduceBEq, Nat.reduceEqDiff, Nat.ble, BEq.rfl, Bool.and_true, Bool.and_self, cond_true, beq_self_eq_true]; rfl)) ?_)
          clear hl a; intro a hl
          refine wl (w_buildSlice hl hh rfl trivial app44 zero102 rfl rfl rfl rfl rfl (by simp only [fillL, arrPl, List.range_succ, List.range_zero, List.map_cons, List.map_nil, List.map_append, List.nil_append, List.replicate_succ, List.replicate_zero, List.flatten_cons, List.flatten_nil, Nat.zero_mul, Nat.mul_one, Nat.one_mul, Nat.reduceMul, setL, List.getElem?_cons_zero, List.getElem?_cons_succ, Value.cells, List.take_zero, List.take_succ_cons, List.take_nil, List.drop_zero, List.drop_succ_cons, List.drop_nil, List.length_cons, List.length_nil, List.cons_append, List.nil_append, List.append_nil, Nat.zero_add, Nat.add_zero, Nat.reduceAdd, Nat.reduceBEq, Nat.reduceEqDiff, Nat.ble, BEq.rfl, Bool.and_true, Bool.and_self, cond_true, beq_self_eq_true]; rfl) ?_)
          clear hl hh a w; intro k49 a w hl hh
          refine wl (w_append (news := (egc ⟨i, h, x.e, x.net h⟩)) hl hh rfl trivial app44 rfl rfl rfl hR2_ (by repeat (first | exact keeps_nil | apply keeps_cons (by repeat (first | exact find_head | apply find_tail | apply find_skip)) (by first  | rfl) | exact keeps_self | exact keeps_left | apply keeps_app | apply keeps_mv | apply keeps_skip)) (hh.mem _ _ (Find.mem (by repeat (first | exact find_head | apply find_tail | apply find_skip)))) rfl rfl rfl (by omega) (by simp only [List.length_append]; omega) (by simp only [List.length_append]; omega) (by decide) ?_)
          clear hl hh a w; intro rv2 E2 a w hR2 hl hh
          have hh3 := hh.comm; clear hh; have hh := hh3; clear hh3
          try simp only [List.cons_append, List.nil_append, List.append_assoc, List.append_nil] at hh
          refine wl (wl_val hl rfl trivial (r_assign hl rfl) ?_)
          clear hl a; intro a hl
          refine w_nil ?_
          have hl2 := hl.add (t := 0) (hl.add (t := 3) (hl.add (t := 4) (hl.add (t := 6) (hl.add (t := 9) (hl.add (t := 18) (hl.add (t := 19) (hl.add (t := 33) (hl.add (t := 34) (hl.nil) rfl) rfl) rfl) rfl) rfl) rfl) rfl) rfl) rfl; clear hl; have hl := hl2; clear hl2
          refine blk_normal ?_
          refine then_normal ?_
          refine c_region ?_
          first | refine wl (wl_val hl rfl trivial (r_add hl rfl rfl (by simp only [Fits]; omega)) ?_) | refine wl (wl_val hl rfl trivial (r_addW hl rfl rfl) ?_)
          clear hl a; intro a hl
          refine wl (wl_val hl rfl trivial (r_move hl rfl) ?_)
          clear hl a; intro a hl
          refine w_nil ?_
          have hl2 := hl.add (t := 0) (hl.add (t := 3) (hl.add (t := 4) (hl.add (t := 6) (hl.add (t := 9) (hl.add (t := 18) (hl.add (t := 19) (hl.add (t := 33) (hl.add (t := 34) (hl.nil) rfl) rfl) rfl) rfl) rfl) rfl) rfl) rfl) rfl; clear hl; have hl := hl2; clear hl2
          refine then_normal ?_
          first | refine ⟨⟨rv2, E2, h + 1⟩, (by simp only; omega), ⟨by simp only; omega, by simp only; rw [← ed_T (by assumption)]; exact eg_row hR2⟩, hl.addE (t := 34) (hl.addE (t := 3) (hl.addE (t := 0) (hl.addE (t := 4) (hl.addE (t := 6) (hl.addE (t := 9) (hl.addE (t := 18) (hl.addE (t := 19) (hl.addE (t := 33) (hl.nil) rfl (by first | rfl | (congr 1; omega))) rfl (by first | rfl | (congr 1; omega))) rfl (by first | rfl | (congr 1; omega))) rfl (by first | rfl | (congr 1; omega))) rfl (by first | rfl | (congr 1; omega))) rfl (by first | rfl | (congr 1; omega))) rfl (by first | rfl | (congr 1; omega))) rfl (by first | rfl | (congr 1; omega))) rfl (by first | rfl | (congr 1; omega)), hh.keep (by repeat (first | exact keeps_nil | apply keeps_cons (by repeat (first | exact find_head | apply find_tail | apply find_skip)) (by first  | rfl) | exact keeps_self | exact keeps_left | apply keeps_app | apply keeps_mv | apply keeps_skip))⟩ | refine ⟨⟨v2, E2_, h + 1⟩, (by simp only; omega), ⟨by simp only; omega, by simp only; rw [← ed_F (by assumption)]; exact hR2_⟩, hl.addE (t := 34) (hl.addE (t := 3) (hl.addE (t := 0) (hl.addE (t := 4) (hl.addE (t := 6) (hl.addE (t := 9) (hl.addE (t := 18) (hl.addE (t := 19) (hl.addE (t := 33) (hl.nil) rfl (by first | rfl | (congr 1; omega))) rfl (by first | rfl | (congr 1; omega))) rfl (by first | rfl | (congr 1; omega))) rfl (by first | rfl | (congr 1; omega))) rfl (by first | rfl | (congr 1; omega))) rfl (by first | rfl | (congr 1; omega))) rfl (by first | rfl | (congr 1; omega))) rfl (by first | rfl | (congr 1; omega))) rfl (by first | rfl | (congr 1; omega)), hh.keep (by repeat (first | exact keeps_nil | apply keeps_cons (by repeat (first | exact find_head | apply find_tail | apply find_skip)) (by first  | rfl) | exact keeps_self | exact keeps_left | apply keeps_app | apply keeps_mv | apply keeps_skip))⟩
        · intro hc3
          try simp only [decide_eq_true_eq, decide_eq_false_iff_not, Bool.not_eq_true', Bool.not_eq_false', Bool.not_eq_true, Bool.not_eq_false, Bool.and_eq_true, Bool.or_eq_true, Bool.and_eq_false_iff, Bool.or_eq_false_iff, Bool.not_not, ne_eq, Int.not_lt, Int.not_le, Decidable.not_not, beq_iff_eq, bne_iff_ne] at hc3
          refine wp_skip ?_
          refine blk_normal ?_
          refine then_normal ?_
          refine c_region ?_
          first | refine wl (wl_val hl rfl trivial (r_add hl rfl rfl (by simp only [Fits]; omega)) ?_) | refine wl (wl_val hl rfl trivial (r_addW hl rfl rfl) ?_)
          clear hl a; intro a hl
          refine wl (wl_val hl rfl trivial (r_move hl rfl) ?_)
          clear hl a; intro a hl
          refine w_nil ?_
          have hl2 := hl.add (t := 0) (hl.add (t := 3) (hl.add (t := 4) (hl.add (t := 6) (hl.add (t := 9) (hl.add (t := 18) (hl.add (t := 19) (hl.add (t := 33) (hl.add (t := 34) (hl.nil) rfl) rfl) rfl) rfl) rfl) rfl) rfl) rfl) rfl; clear hl; have hl := hl2; clear hl2
          refine then_normal ?_
          first | refine ⟨⟨rv2, E2, h + 1⟩, (by simp only; omega), ⟨by simp only; omega, by simp only; rw [← ed_T (by assumption)]; exact eg_row hR2⟩, hl.addE (t := 34) (hl.addE (t := 3) (hl.addE (t := 0) (hl.addE (t := 4) (hl.addE (t := 6) (hl.addE (t := 9) (hl.addE (t := 18) (hl.addE (t := 19) (hl.addE (t := 33) (hl.nil) rfl (by first | rfl | (congr 1; omega))) rfl (by first | rfl | (congr 1; omega))) rfl (by first | rfl | (congr 1; omega))) rfl (by first | rfl | (congr 1; omega))) rfl (by first | rfl | (congr 1; omega))) rfl (by first | rfl | (congr 1; omega))) rfl (by first | rfl | (congr 1; omega))) rfl (by first | rfl | (congr 1; omega))) rfl (by first | rfl | (congr 1; omega)), hh.keep (by repeat (first | exact keeps_nil | apply keeps_cons (by repeat (first | exact find_head | apply find_tail | apply find_skip)) (by first  | rfl) | exact keeps_self | exact keeps_left | apply keeps_app | apply keeps_mv | apply keeps_skip))⟩ | refine ⟨⟨v2, E2_, h + 1⟩, (by simp only; omega), ⟨by simp only; omega, by simp only; rw [← ed_F (by assumption)]; exact hR2_⟩, hl.addE (t := 34) (hl.addE (t := 3) (hl.addE (t := 0) (hl.addE (t := 4) (hl.addE (t := 6) (hl.addE (t := 9) (hl.addE (t := 18) (hl.addE (t := 19) (hl.addE (t := 33) (hl.nil) rfl (by first | rfl | (congr 1; omega))) rfl (by first | rfl | (congr 1; omega))) rfl (by first | rfl | (congr 1; omega))) rfl (by first | rfl | (congr 1; omega))) rfl (by first | rfl | (congr 1; omega))) rfl (by first | rfl | (congr 1; omega))) rfl (by first | rfl | (congr 1; omega))) rfl (by first | rfl | (congr 1; omega))) rfl (by first | rfl | (congr 1; omega)), hh.keep (by repeat (first | exact keeps_nil | apply keeps_cons (by repeat (first | exact find_head | apply find_tail | apply find_skip)) (by first  | rfl) | exact keeps_self | exact keeps_left | apply keeps_app | apply keeps_mv | apply keeps_skip))⟩
      · intro hc2
        try simp only [decide_eq_true_eq, decide_eq_false_iff_not, Bool.not_eq_true', Bool.not_eq_false', Bool.not_eq_true, Bool.not_eq_false, Bool.and_eq_true, Bool.or_eq_true, Bool.and_eq_false_iff, Bool.or_eq_false_iff, Bool.not_not, ne_eq, Int.not_lt, Int.not_le, Decidable.not_not, beq_iff_eq, bne_iff_ne] at hc2
        rw [show h = 16 by omega] at hR2_
        refine wp_exit ?_
        refine then_exit ?_
        refine then_exit ?_
        refine blk_exit ?_
        refine blk_normal ?_
        refine then_normal ?_
        refine c_region ?_
        first | refine wl (wl_val hl rfl trivial (r_add hl rfl rfl (by simp only [Fits]; omega)) ?_) | refine wl (wl_val hl rfl trivial (r_addW hl rfl rfl) ?_)
        clear hl a; intro a hl
        refine wl (wl_val hl rfl trivial (r_move hl rfl) ?_)
        clear hl a; intro a hl
        refine w_nil ?_
        have hl2 := hl.add (t := 0) (hl.add (t := 3) (hl.add (t := 4) (hl.add (t := 9) (hl.add (t := 18) (hl.add (t := 19) (hl.nil) rfl) rfl) rfl) rfl) rfl) rfl; clear hl; have hl := hl2; clear hl2
        refine then_normal ?_
        refine ⟨⟨v2, E2_, j + 1⟩, (by simp only; omega), ⟨by simp only; omega, by simp only; rw [edL_take hx, ← List.append_assoc]; exact hR2_⟩, hl.addE (t := 19) (hl.addE (t := 3) (hl.addE (t := 0) (hl.addE (t := 4) (hl.addE (t := 9) (hl.addE (t := 18) (hl.nil) rfl (by first | rfl | (congr 1; omega))) rfl (by first | rfl | (congr 1; omega))) rfl (by first | rfl | (congr 1; omega))) rfl (by first | rfl | (congr 1; omega))) rfl (by first | rfl | (congr 1; omega))) rfl (by first | rfl | (congr 1; omega)), hh.keep (by repeat (first | exact keeps_nil | apply keeps_cons (by repeat (first | exact find_head | apply find_tail | apply find_skip)) (by first  | rfl) | exact keeps_self | exact keeps_left | apply keeps_app | apply keeps_mv | apply keeps_skip))⟩
    · intro hc1
      try simp only [decide_eq_true_eq, decide_eq_false_iff_not, Bool.not_eq_true', Bool.not_eq_false', Bool.not_eq_true, Bool.not_eq_false, Bool.and_eq_true, Bool.or_eq_true, Bool.and_eq_false_iff, Bool.or_eq_false_iff, Bool.not_not, ne_eq, Int.not_lt, Int.not_le, Decidable.not_not, beq_iff_eq, bne_iff_ne] at hc1
      rw [List.take_of_length_le (by omega)] at hR1
      refine wp_exit ?_
      refine then_exit ?_
      refine then_exit ?_
      refine blk_exit ?_
      refine blk_normal ?_
      refine then_normal ?_
      refine c_region ?_
      first | refine wl (wl_val hl rfl trivial (r_add hl rfl rfl (by simp only [Fits]; omega)) ?_) | refine wl (wl_val hl rfl trivial (r_addW hl rfl rfl) ?_)
      clear hl a; intro a hl
      refine wl (wl_val hl rfl trivial (r_move hl rfl) ?_)
      clear hl a; intro a hl
      refine w_nil ?_
      have hl2 := hl.add (t := 0) (hl.add (t := 3) (hl.add (t := 9) (hl.nil) rfl) rfl) rfl; clear hl; have hl := hl2; clear hl2
      refine then_normal ?_
      refine ⟨⟨v1, E1, i + 1⟩, (by simp only; omega), ⟨by simp only; omega, by simp only [edN]; exact hR1⟩, hl.addE (t := 9) (hl.addE (t := 3) (hl.addE (t := 0) (hl.nil) rfl (by first | rfl | (congr 1; omega))) rfl (by first | rfl | (congr 1; omega))) rfl (by first | rfl | (congr 1; omega)), hh.keep (by repeat (first | exact keeps_nil | apply keeps_cons (by repeat (first | exact find_head | apply find_tail | apply find_skip)) (by first  | rfl) | exact keeps_self | exact keeps_left | apply keeps_app | apply keeps_mv | apply keeps_skip))⟩
  · intro hc0
    try simp only [decide_eq_true_eq, decide_eq_false_iff_not, Bool.not_eq_true', Bool.not_eq_false', Bool.not_eq_true, Bool.not_eq_false, Bool.and_eq_true, Bool.or_eq_true, Bool.and_eq_false_iff, Bool.or_eq_false_iff, Bool.not_not, ne_eq, Int.not_lt, Int.not_le, Decidable.not_not, beq_iff_eq, bne_iff_ne] at hc0
    rw [show i = 16 by omega] at hR0
    refine wp_exit ?_
    refine then_exit ?_
    refine then_exit ?_
    refine blk_exit ?_
    refine then_normal ?_
    refine c_seq ?_
    refine c_region ?_
    refine wl (wl_val hl rfl trivial (r_move hl rfl) ?_)
    clear hl a; intro a hl
    refine wl (wl_val hl rfl trivial (r_assign hl rfl) ?_)
    clear hl a; intro a hl
    refine w_nil ?_
    have hl2 := hl.add (t := 2) (hl.nil) rfl; clear hl; have hl := hl2; clear hl2
    refine then_normal ?_
    refine wp_ret ?_
    refine f_ret1 (F' := z.E) hl hh rfl rfl (by repeat (first | exact keeps_nil | apply keeps_cons (by repeat (first | exact find_head | apply find_tail | apply find_skip)) (by first  | rfl) | exact keeps_self | exact keeps_left | apply keeps_app | apply keeps_mv | apply keeps_skip)) ?_
    exact hR0
end Go.Proofs.Qxb6500911aGreatDoor

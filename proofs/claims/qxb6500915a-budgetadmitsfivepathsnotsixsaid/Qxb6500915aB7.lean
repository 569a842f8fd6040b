import Derived.Test.Qxb6500915aB6
import Derived.Test.Qxb6500915aMap
namespace Go.Proofs.Qxb6500915a
open Go.Eng
set_option linter.unusedVariables false
set_option linter.unusedSimpArgs false
theorem one55 : oneOk Try.prog 55 = true := by kernel_rfl
theorem zero3 : zeroOk Try.prog 3 (.int .i64 0) := by unfold zeroOk; kernel_rfl
/-- the map that gives to each of the first variables its own number -/
def dl (m : Nat) : List (Int × Value) := (List.range m).map fun (i : Nat) => ((i : Int), Value.int .i64 (i : Int))
theorem dl_len (m : Nat) : (dl m).length = m := by simp [dl]
theorem dl_succ (m : Nat) : dl (m + 1) = dl m ++ [((m : Int), Value.int .i64 (m : Int))] := by simp [dl, List.range_succ]
theorem mget_snoc (l : List (Int × Value)) (p : Int × Value) (a : Int) : mget (l ++ [p]) a = (mget l a).or (if a = p.1 then some p.2 else none) := by
  induction l with
  | nil => simp [mget]
  | cons q l ih =>
    rw [List.cons_append]
    unfold mget
    split
    · rfl
    · exact ih
theorem mput_snoc (l : List (Int × Value)) (a : Int) (v : Value) (h : mget l a = none) : mput l a v = l ++ [(a, v)] := by
  induction l with
  | nil => rfl
  | cons q l ih =>
    unfold mget at h
    unfold mput
    by_cases e : a = q.1
    · rw [if_pos e] at h; cases h
    · rw [if_neg e] at h
      rw [if_neg e, ih h]; rfl
theorem mget_dl (m v : Nat) : mget (dl m) (v : Int) = if v < m then some (Value.int .i64 (v : Int)) else none := by
  induction m with
  | zero => rfl
  | succ m ih =>
    rw [dl_succ, mget_snoc, ih]
    by_cases c : v < m
    · rw [if_pos c, if_pos (show v < m + 1 by omega)]; rfl
    · by_cases e : v = m
      · subst e; simp
      · rw [if_neg c, if_neg (by omega)]
        simp only [Option.none_or]
        rw [if_neg (by omega)]
theorem dl_put (m : Nat) : mput (dl m) (m : Int) (.int .i64 (m : Int)) = dl (m + 1) := by
  rw [mput_snoc _ _ _ (by rw [mget_dl]; simp), dl_succ]
theorem dl_look (m v : Nat) : ∃ (zv : Int) (fb : Bool), (mget (dl m) (v : Int)).getD (.int .i64 0) = .int .i64 zv ∧ (mget (dl m) (v : Int)).isSome = fb ∧ (fb = true → zv = v ∧ v < m) ∧ (fb = false → m ≤ v) := by
  rw [mget_dl]
  by_cases c : v < m
  · rw [if_pos c]; exact ⟨_, _, rfl, rfl, fun _ => ⟨rfl, c⟩, fun h => by cases h⟩
  · rw [if_neg c]; exact ⟨_, _, rfl, rfl, (fun h => by cases h), fun _ => by omega⟩
def mS (m v : Nat) : Nat := if v = m then m + 1 else m
def mN (m : Nat) (ts : List Nat) : Nat := ts.foldl mS m
theorem mN_snoc (m : Nat) (ts : List Nat) (v : Nat) : mN m (ts ++ [v]) = mS (mN m ts) v := by unfold mN; rw [List.foldl_append]; rfl
theorem mS_new (v : Nat) : mS v v = v + 1 := by simp [mS]
theorem mS_old {m v : Nat} (h : v < m) : mS m v = m := by unfold mS; rw [if_neg (by omega)]
/-- the variables come in order -/
def Dn (m : Nat) (ts : List Nat) : Prop := ∀ (i v : Nat), ts[i]? = some v → v ≤ mN m (ts.take i)
structure RN (m : Nat) (ts : List Nat) (s : Nat × Nat × List Value) : Prop where
  hi : s.1 ≤ ts.length
  hm : s.2.1 = mN m (ts.take s.1)
  hb : s.2.1 ≤ m + s.1
  jl : (fl tc ((ts.map fun (v : Nat) => (v : Int)).take s.1) ++ s.2.2).length = ts.length * 4
theorem take_i {ts : List Nat} {i v : Nat} (h : ts[i]? = some v) : (ts.map fun (v : Nat) => (v : Int)).take (i + 1) = (ts.map fun (v : Nat) => (v : Int)).take i ++ [(v : Int)] := by rw [List.take_add_one, List.getElem?_map, h]; rfl
theorem app_jl {l : List Int} {jo : List Value} {n : Nat} (h : (fl tc l ++ jo).length = n) (hj : 4 ≤ jo.length) (x : Int) : (fl tc (l ++ [x]) ++ jo.drop 4).length = n := by rw [app_len tc_len l x jo hj]; exact h
theorem app_tc2 {ts : List Nat} {i v : Nat} {jo : List Value} (hv : ts[i]? = some v) (hol : ((ts.map fun (v : Nat) => (v : Int)).take i).length = i) (hj : 4 ≤ jo.length) : setL (fl tc ((ts.map fun (v : Nat) => (v : Int)).take i) ++ jo) (0 + i * 4) [.int .u8 0, .int .i64 (v : Int), .int .i64 0, .string ⟨#[]⟩] = fl tc ((ts.map fun (v : Nat) => (v : Int)).take (i + 1)) ++ jo.drop 4 := by
  rw [take_i hv]; exact app_tc hol hj _
theorem rn_done {ts : List Nat} {jo : List Value} (h : (fl tc ((ts.map fun (v : Nat) => (v : Int)).take ts.length) ++ jo).length = ts.length * 4) : fl tc ((ts.map fun (v : Nat) => (v : Int)).take ts.length) ++ jo = fl tc (ts.map fun (v : Nat) => (v : Int)) := by
  have e : (ts.map fun (v : Nat) => (v : Int)).take ts.length = ts.map fun (v : Nat) => (v : Int) := List.take_of_length_le (by simp)
  rw [e] at h ⊢
  rw [List.length_append, fl_len tc_len, List.length_map] at h
  rw [List.eq_nil_of_length_eq_zero (l := jo) (by omega), List.append_nil]


set_option maxHeartbeats 4000000 in
theorem ren_spec (kd mb m : Nat) (ts : List Nat) (p : Option Addr) (c : Nat) (Et : List (Nat × Obj)) (hT : Row (.slice p ts.length c) ts.length (fl tc (ts.map fun (v : Nat) => (v : Int))) 4 30 Et) (hne : ∀ z, z ∈ Et → z.1 ≠ kd ∧ z.1 ≠ mb) (hd : Dn m ts) (hm9 : m + ts.length ≤ 900) : SpK Try.prog 9 #[.slice p ts.length c, .pointer (some ⟨kd, 0, none⟩)] (Mem Et) [(kd, C [.map (some mb)] 55), (mb, MO (kInt .i64) (dl m))] (fun u F' => ∃ k, u = .slice (some ⟨k, 0, none⟩) ts.length ts.length ∧ F' = [(kd, C [.map (some mb)] 55), (mb, MO (kInt .i64) (dl (mN m ts))), (k, C (fl tc (ts.map fun (v : Nat) => (v : Int))) 30)]) := by
  refine f_enter (args := [.slice p ts.length c, .pointer (some ⟨kd, 0, none⟩)]) Try.func9 rfl Try.ntmps9 rfl ?_
  intro w0 w a hpre hl hh
  simp only [slotsFrom, Nat.reduceAdd] at hl
  refine c_seq ?_
  refine c_region ?_
  refine wl (wl_val hl rfl trivial (r_assign hl rfl) ?_)
  clear hl a; intro a hl
  refine w_nil ?_
  have hl2 := hl.add (t := 0) (hl.add (t := 1) (hl.nil) rfl) rfl; clear hl; have hl := hl2; clear hl2
  refine then_normal ?_
  refine c_seq ?_
  refine c_region ?_
  refine wl (wl_val hl rfl trivial (r_move hl rfl) ?_)
  clear hl a; intro a hl
  refine wl (wl_val hl rfl trivial (r_lenS hl rfl slc22) ?_)
  clear hl a; intro a hl
  refine wl (w_makeSliceN hl hh rfl trivial app22 zero30 rfl rfl (by omega) (by decide) ?_)
  clear hl hh a w; intro k11 jk11 a w hjk11 hl hh
  refine wl (wl_val hl rfl trivial (r_assign hl rfl) ?_)
  clear hl a; intro a hl
  refine w_nil ?_
  have hl2 := hl.add (t := 0) (hl.add (t := 1) (hl.add (t := 4) (hl.nil) rfl) rfl) rfl; clear hl; have hl := hl2; clear hl2
  refine then_normal ?_
  refine c_seq ?_
  refine c_seq ?_
  refine c_region ?_
  refine wl (wl_val hl rfl trivial (r_move hl rfl) ?_)
  clear hl a; intro a hl
  refine wl (wl_val hl rfl trivial (r_lenS hl rfl slc22) ?_)
  clear hl a; intro a hl
  refine wl (wl_val hl rfl trivial (r_move hl rfl) ?_)
  clear hl a; intro a hl
  refine w_nil ?_
  have hl2 := hl.add (t := 1) (hl.add (t := 4) (hl.add (t := 12) (hl.add (t := 13) (hl.add (t := 14) (hl.nil) rfl) rfl) rfl) rfl) rfl; clear hl; have hl := hl2; clear hl2
  refine then_normal ?_
  refine wp_block ?_
  obtain ⟨KS0, hKS0, hk⟩ := (hl.add (t := 1) (hl.add (t := 4) (hl.add (t := 12) (hl.add (t := 13) (hl.nil) rfl) rfl) rfl) rfl).name
  obtain ⟨HS0, hHS0, hh2⟩ := hh.name (keeps_cons (b := kd) (by repeat (first | exact find_head | apply find_tail)) (by first | rfl | rfl) (keeps_cons (b := mb) (o' := MO (kInt .i64) (dl m)) (by repeat (first | exact find_head | apply find_tail)) (by first | rfl | rfl) (keeps_cons (b := k11) (o' := C jk11 30) (by repeat (first | exact find_head | apply find_tail)) (by first | rfl | rfl) (keeps_nil))))
  refine c_loop (α := Nat × Nat × List Value) (fun s => ts.length - s.1) (fun s a w => (RN m ts s) ∧ Sl 45 ([(14, .int .i64 (s.1 : Int))] ++ KS0) a ∧ Has _ w0 ([(kd, C [.map (some mb)] 55), (mb, MO (kInt .i64) (dl s.2.1)), (k11, C (fl tc ((ts.map fun (v : Nat) => (v : Int)).take s.1) ++ s.2.2) 30)] ++ HS0) w) (0, m, jk11) ⟨⟨Nat.zero_le _, rfl, Nat.le_refl _, hjk11.1⟩, hl.addE (t := 14) (hk) rfl (by first | rfl), hh2⟩ ?_
  clear hk hh2 hl hh a w
  intro s a w hI
  obtain ⟨hI, hl, hh⟩ := hI
  subst hKS0; subst hHS0
  simp only [List.cons_append, List.nil_append, List.append_nil] at hl hh
  obtain ⟨i, mm, jo⟩ := s
  obtain ⟨hi, hmm, hmb, hjl2⟩ := hI
  simp only at hi hmm hmb hjl2 hl hh
  refine c_seq ?_
  refine c_region ?_
  refine wl (wl_val hl rfl trivial (r_lss hl rfl rfl) ?_)
  clear hl a; intro a hl
  refine w_nil ?_
  have hl2 := hl.add (t := 1) (hl.add (t := 4) (hl.add (t := 12) (hl.add (t := 13) (hl.add (t := 14) (hl.add (t := 15) (hl.nil) rfl) rfl) rfl) rfl) rfl) rfl; clear hl; have hl := hl2; clear hl2
  refine then_normal ?_
  refine c_seq ?_
  refine c_cond hl rfl ?_ ?_
  · intro hc0
    try simp only [decide_eq_true_eq, decide_eq_false_iff_not, Bool.not_eq_true', Bool.not_eq_false', Bool.not_eq_true, Bool.not_eq_false, Bool.and_eq_true, Bool.or_eq_true, Bool.and_eq_false_iff, Bool.or_eq_false_iff, Bool.not_not, ne_eq, Int.not_lt, Int.not_le, Decidable.not_not, beq_iff_eq, bne_iff_ne] at hc0
    obtain ⟨v, hvv⟩ : ∃ v, ts[i]? = some v := ⟨_, List.getElem?_eq_getElem (by omega)⟩
    have hvi : (ts.map fun (v : Nat) => (v : Int))[i]? = some (v : Int) := by rw [List.getElem?_map, hvv]; rfl
    obtain ⟨b, junk, rfl, hjl, hjc, rfl⟩ := row_pos hT (by omega)
    have hbn := hne _ (List.mem_singleton.2 rfl)
    have hm : w0.heap[b]? = some (C (fl tc (ts.map fun (v : Nat) => (v : Int)) ++ junk) 30) := hpre _ _ (List.mem_singleton.2 rfl)
    have hrd := fl_at tc_len hvi junk
    simp only [tc] at hrd
    have hol : ((ts.map fun (v : Nat) => (v : Int)).take i).length = i := by rw [List.length_take, List.length_map]; omega
    have hj4 : 4 ≤ jo.length := by have := hjl2; rw [List.length_append, fl_len tc_len, hol] at this; omega
    have hvd := hd i v hvv
    rw [← hmm] at hvd
    refine wp_skip ?_
    refine then_normal ?_
    refine c_seq ?_
    refine wp_block ?_
    refine c_seq ?_
    refine c_region ?_
    refine wl (wl_val hl rfl trivial (r_move hl rfl) ?_)
    clear hl a; intro a hl
    refine wl (wl_val hl rfl trivial (r_indexS hl rfl rfl slc22 (by omega) (by omega) (by first | (simp only [Int.reduceToNat]; rfl) | exact toNat_add1 _ | exact toNat_add2 _ _ | exact toNat_emod _ _ | exact Int.toNat_natCast _ | rfl)) ?_)
    clear hl a; intro a hl
    first | refine wl (w_loadA hl hh rfl trivial agg30 rfl (by repeat (first | exact find_head | apply find_tail)) (by first | (simp only [List.getElem?_cons_zero, List.getElem?_cons_succ, Value.cells, List.take_zero, List.take_succ_cons, List.take_nil, List.drop_zero, List.drop_succ_cons, List.drop_nil, List.length_cons, List.length_nil, List.cons_append, List.nil_append, List.append_nil, Nat.zero_add, Nat.add_zero, Nat.reduceAdd, Nat.reduceBEq, Nat.reduceEqDiff, Nat.ble, BEq.rfl, Bool.and_true, Bool.and_self, cond_true, beq_self_eq_true]; rfl)) (by first | rfl | (simp; done)) ?_) | refine wl (w_loadRA hl hh rfl trivial agg30 rfl hm (by simpa using hbn) hrd rfl ?_)
    clear hl a; intro a hl
    refine wl (w_alloc hl hh rfl trivial zero30 rfl ?_)
    clear hl hh a w; intro k6 a w hl hh
    refine wl (wl_val hl rfl trivial (r_assign hl rfl) ?_)
    clear hl a; intro a hl
    refine wl (w_storeA hl hh trivial agg30 rfl rfl (by repeat (first | exact find_head | apply find_tail)) (by first | rfl | (simp; done)) (by first | (simp; done) | (simp; omega)) (by first | rfl | (simp; done)) (by first | (simp only [setL, List.getElem?_cons_zero, List.getElem?_cons_succ, Value.cells, List.take_zero, List.take_succ_cons, List.take_nil, List.drop_zero, List.drop_succ_cons, List.drop_nil, List.length_cons, List.length_nil, List.cons_append, List.nil_append, List.append_nil, Nat.zero_add, Nat.add_zero, Nat.reduceAdd, Nat.reduceBEq, Nat.reduceEqDiff, Nat.ble, BEq.rfl, Bool.and_true, Bool.and_self, cond_true, beq_self_eq_true]; rfl)) ?_)
    clear hh w; intro w hh
    refine w_nil ?_
    have hl2 := hl.add (t := 1) (hl.add (t := 4) (hl.add (t := 5) (hl.add (t := 6) (hl.add (t := 12) (hl.add (t := 13) (hl.add (t := 14) (hl.nil) rfl) rfl) rfl) rfl) rfl) rfl) rfl; clear hl; have hl := hl2; clear hl2
    refine then_normal ?_
    refine c_seq ?_
    refine c_seq ?_
    refine c_region ?_
    refine wl (wl_val hl rfl trivial (r_field hl rfl fld30_0) ?_)
    clear hl a; intro a hl
    refine wl (w_load hl hh rfl trivial one28 rfl (by repeat (first | exact find_head | apply find_tail)) (by first | rfl) ?_)
    clear hl a; intro a hl
    refine wl (wl_val hl rfl trivial (r_eql hl rfl rfl) ?_)
    clear hl a; intro a hl
    refine w_nil ?_
    have hl2 := hl.add (t := 1) (hl.add (t := 4) (hl.add (t := 5) (hl.add (t := 6) (hl.add (t := 12) (hl.add (t := 13) (hl.add (t := 14) (hl.add (t := 21) (hl.nil) rfl) rfl) rfl) rfl) rfl) rfl) rfl) rfl; clear hl; have hl := hl2; clear hl2
    refine then_normal ?_
    refine c_cond hl rfl ?_ ?_
    · intro hc1
      try simp only [decide_eq_true_eq, decide_eq_false_iff_not, Bool.not_eq_true', Bool.not_eq_false', Bool.not_eq_true, Bool.not_eq_false, Bool.and_eq_true, Bool.or_eq_true, Bool.and_eq_false_iff, Bool.or_eq_false_iff, Bool.not_not, ne_eq, Int.not_lt, Int.not_le, Decidable.not_not, beq_iff_eq, bne_iff_ne] at hc1
      refine c_seq ?_
      refine c_region ?_
      refine wl (w_load hl hh rfl trivial one55 rfl (by repeat (first | exact find_head | apply find_tail)) (by first | rfl) ?_)
      clear hl a; intro a hl
      refine wl (wl_val hl rfl trivial (r_field hl rfl fld30_1) ?_)
      clear hl a; intro a hl
      refine wl (w_load hl hh rfl trivial one3 rfl (by repeat (first | exact find_head | apply find_tail)) (by first | rfl) ?_)
      clear hl a; intro a hl
      refine wl (w_lookup2 (keyInt Try.underlying3) Try.underlying55 zero3 hl hh rfl trivial rfl rfl (by repeat (first | exact find_head | apply find_tail)) ?_)
      clear hl a; intro a hl
      obtain ⟨zv, fb, hz1, hz2, hz3, hz4⟩ := dl_look mm v
      rw [hz1, hz2] at hl
      refine wl (wl_val hl rfl trivial (r_move hl rfl) ?_)
      clear hl a; intro a hl
      refine wl (wl_val hl rfl trivial (r_extract hl rfl (by simp only [List.getElem?_toArray, List.getElem?_cons_zero, List.getElem?_cons_succ]; rfl)) ?_)
      clear hl a; intro a hl
      refine wl (wl_val hl rfl trivial (r_extract hl rfl (by simp only [List.getElem?_toArray, List.getElem?_cons_zero, List.getElem?_cons_succ]; rfl)) ?_)
      clear hl a; intro a hl
      refine wl (wl_val hl rfl trivial (r_assign hl rfl) ?_)
      clear hl a; intro a hl
      refine wl (wl_val hl rfl trivial (r_assign hl rfl) ?_)
      clear hl a; intro a hl
      refine w_nil ?_
      have hl2 := hl.add (t := 1) (hl.add (t := 4) (hl.add (t := 5) (hl.add (t := 6) (hl.add (t := 7) (hl.add (t := 8) (hl.add (t := 12) (hl.add (t := 13) (hl.add (t := 14) (hl.nil) rfl) rfl) rfl) rfl) rfl) rfl) rfl) rfl) rfl; clear hl; have hl := hl2; clear hl2
      refine then_normal ?_
      refine c_seq ?_
      refine c_seq ?_
      refine c_region ?_
      refine wl (wl_val hl rfl trivial (r_move hl rfl) ?_)
      clear hl a; intro a hl
      refine wl (wl_val hl rfl trivial (r_not hl rfl) ?_)
      clear hl a; intro a hl
      refine w_nil ?_
      have hl2 := hl.add (t := 1) (hl.add (t := 4) (hl.add (t := 5) (hl.add (t := 6) (hl.add (t := 7) (hl.add (t := 12) (hl.add (t := 13) (hl.add (t := 14) (hl.add (t := 30) (hl.nil) rfl) rfl) rfl) rfl) rfl) rfl) rfl) rfl) rfl; clear hl; have hl := hl2; clear hl2
      refine then_normal ?_
      refine c_cond hl rfl ?_ ?_
      · intro hc2
        try simp only [decide_eq_true_eq, decide_eq_false_iff_not, Bool.not_eq_true', Bool.not_eq_false', Bool.not_eq_true, Bool.not_eq_false, Bool.and_eq_true, Bool.or_eq_true, Bool.and_eq_false_iff, Bool.or_eq_false_iff, Bool.not_not, ne_eq, Int.not_lt, Int.not_le, Decidable.not_not, beq_iff_eq, bne_iff_ne] at hc2
        have hvm : v = mm := by have := hz4 (by simpa using hc2); omega
        subst hvm
        refine c_seq ?_
        refine c_region ?_
        refine wl (w_load hl hh rfl trivial one55 rfl (by repeat (first | exact find_head | apply find_tail)) (by first | rfl) ?_)
        clear hl a; intro a hl
        refine wl (w_lenM Try.underlying55 hl hh rfl trivial rfl (by repeat (first | exact find_head | apply find_tail)) ?_)
        clear hl a; intro a hl
        rw [dl_len] at hl
        refine wl (wl_val hl rfl trivial (r_assign hl rfl) ?_)
        clear hl a; intro a hl
        refine w_nil ?_
        have hl2 := hl.add (t := 1) (hl.add (t := 4) (hl.add (t := 5) (hl.add (t := 6) (hl.add (t := 7) (hl.add (t := 12) (hl.add (t := 13) (hl.add (t := 14) (hl.nil) rfl) rfl) rfl) rfl) rfl) rfl) rfl) rfl; clear hl; have hl := hl2; clear hl2
        refine then_normal ?_
        refine c_region ?_
        refine wl (w_load hl hh rfl trivial one55 rfl (by repeat (first | exact find_head | apply find_tail)) (by first | rfl) ?_)
        clear hl a; intro a hl
        refine wl (wl_val hl rfl trivial (r_field hl rfl fld30_1) ?_)
        clear hl a; intro a hl
        refine wl (w_load hl hh rfl trivial one3 rfl (by repeat (first | exact find_head | apply find_tail)) (by first | rfl) ?_)
        clear hl a; intro a hl
        refine wl (wl_val hl rfl trivial (r_move hl rfl) ?_)
        clear hl a; intro a hl
        refine wl (w_mapUpdate (keyInt Try.underlying3) Try.underlying55 hl hh trivial rfl rfl rfl (by repeat (first | exact find_head | apply find_tail)) ?_)
        clear hh w; intro w hh
        rw [dl_put] at hh
        refine w_nil ?_
        have hl2 := hl.add (t := 1) (hl.add (t := 4) (hl.add (t := 5) (hl.add (t := 6) (hl.add (t := 7) (hl.add (t := 12) (hl.add (t := 13) (hl.add (t := 14) (hl.nil) rfl) rfl) rfl) rfl) rfl) rfl) rfl) rfl; clear hl; have hl := hl2; clear hl2
        refine then_normal ?_
        refine c_region ?_
        refine wl (wl_val hl rfl trivial (r_move hl rfl) ?_)
        clear hl a; intro a hl
        refine wl (wl_val hl rfl trivial (r_field hl rfl fld30_1) ?_)
        clear hl a; intro a hl
        refine wl (w_store hl hh trivial one3 rfl rfl (by repeat (first | exact find_head | apply find_tail)) (by first | (simp; done) | (simp; omega)) (by first | rfl | assumption | (apply Row.one; assumption)) (by first | (simp only [setL, List.getElem?_cons_zero, List.getElem?_cons_succ, Value.cells, List.take_zero, List.take_succ_cons, List.take_nil, List.drop_zero, List.drop_succ_cons, List.drop_nil, List.length_cons, List.length_nil, List.cons_append, List.nil_append, List.append_nil, Nat.zero_add, Nat.add_zero, Nat.reduceAdd, Nat.reduceBEq, Nat.reduceEqDiff, Nat.ble, BEq.rfl, Bool.and_true, Bool.and_self, cond_true, beq_self_eq_true]; rfl)) ?_)
        clear hh w; intro w hh
        refine w_nil ?_
        have hl2 := hl.add (t := 1) (hl.add (t := 4) (hl.add (t := 5) (hl.add (t := 6) (hl.add (t := 12) (hl.add (t := 13) (hl.add (t := 14) (hl.nil) rfl) rfl) rfl) rfl) rfl) rfl) rfl; clear hl; have hl := hl2; clear hl2
        refine then_normal ?_
        refine c_region ?_
        refine wl (wl_val hl rfl trivial (r_move hl rfl) ?_)
        clear hl a; intro a hl
        refine wl (wl_val hl rfl trivial (r_move hl rfl) ?_)
        clear hl a; intro a hl
        first | refine wl (w_loadA hl hh rfl trivial agg30 rfl (by repeat (first | exact find_head | apply find_tail)) (by first | (simp only [List.getElem?_cons_zero, List.getElem?_cons_succ, Value.cells, List.take_zero, List.take_succ_cons, List.take_nil, List.drop_zero, List.drop_succ_cons, List.drop_nil, List.length_cons, List.length_nil, List.cons_append, List.nil_append, List.append_nil, Nat.zero_add, Nat.add_zero, Nat.reduceAdd, Nat.reduceBEq, Nat.reduceEqDiff, Nat.ble, BEq.rfl, Bool.and_true, Bool.and_self, cond_true, beq_self_eq_true]; rfl)) (by first | rfl | (simp; done)) ?_) | refine wl (w_loadRA hl hh rfl trivial agg30 rfl hm (by simpa using hbn) hrd rfl ?_)
        clear hl a; intro a hl
        refine wl (wl_val hl rfl trivial (r_indexS hl rfl rfl slc22 (by omega) (by omega) (by first | (simp only [Int.reduceToNat]; rfl) | exact toNat_add1 _ | exact toNat_add2 _ _ | exact toNat_emod _ _ | exact Int.toNat_natCast _ | rfl)) ?_)
        clear hl a; intro a hl
        refine wl (w_storeA hl hh trivial agg30 rfl rfl (by repeat (first | exact find_head | apply find_tail)) (by first | rfl | (simp; done)) (by rw [hjl2]; omega) (by first | rfl | (simp; done)) (by exact app_tc2 hvv hol hj4) ?_)
        clear hh w; intro w hh
        refine w_nil ?_
        have hl2 := hl.add (t := 1) (hl.add (t := 4) (hl.add (t := 12) (hl.add (t := 13) (hl.add (t := 14) (hl.nil) rfl) rfl) rfl) rfl) rfl; clear hl; have hl := hl2; clear hl2
        refine blk_normal ?_
        refine then_normal ?_
        refine c_region ?_
        first | refine wl (wl_val hl rfl trivial (r_add hl rfl rfl (by simp only [Fits]; omega)) ?_) | refine wl (wl_val hl rfl trivial (r_addW hl rfl rfl) ?_)
        clear hl a; intro a hl
        refine wl (wl_val hl rfl trivial (r_move hl rfl) ?_)
        clear hl a; intro a hl
        refine w_nil ?_
        have hl2 := hl.add (t := 1) (hl.add (t := 4) (hl.add (t := 12) (hl.add (t := 13) (hl.add (t := 14) (hl.nil) rfl) rfl) rfl) rfl) rfl; clear hl; have hl := hl2; clear hl2
        refine then_normal ?_
        first | refine ⟨(i + 1, v + 1, jo.drop 4), (by simp only; omega), ⟨by simp only; omega, by rw [take_snoc hvv, mN_snoc, ← hmm, mS_new], by simp only; omega, by rw [take_i hvv]; exact app_jl hjl2 hj4 _⟩, hl.addE (t := 14) (hl.addE (t := 1) (hl.addE (t := 4) (hl.addE (t := 12) (hl.addE (t := 13) (hl.nil) rfl (by first | rfl | rfl)) rfl (by first | rfl | rfl)) rfl (by first | rfl | rfl)) rfl (by first | rfl | rfl)) rfl (by first | rfl | rfl), hh.keep (by repeat (first | exact keeps_nil | apply keeps_cons (by repeat (first | exact find_head | apply find_tail)) (by first  | rfl) | exact keeps_self | exact keeps_left | exact keeps_right | exact keeps_swap | apply keeps_mv))⟩ | refine ⟨(i + 1, mm, jo.drop 4), (by simp only; omega), ⟨by simp only; omega, by rw [take_snoc hvv, mN_snoc, ← hmm, mS_old hvm2], by simp only; omega, by rw [take_i hvv]; exact app_jl hjl2 hj4 _⟩, hl.addE (t := 14) (hl.addE (t := 1) (hl.addE (t := 4) (hl.addE (t := 12) (hl.addE (t := 13) (hl.nil) rfl (by first | rfl | rfl)) rfl (by first | rfl | rfl)) rfl (by first | rfl | rfl)) rfl (by first | rfl | rfl)) rfl (by first | rfl | rfl), hh.keep (by repeat (first | exact keeps_nil | apply keeps_cons (by repeat (first | exact find_head | apply find_tail)) (by first  | rfl) | exact keeps_self | exact keeps_left | exact keeps_right | exact keeps_swap | apply keeps_mv))⟩
      · intro hc2
        try simp only [decide_eq_true_eq, decide_eq_false_iff_not, Bool.not_eq_true', Bool.not_eq_false', Bool.not_eq_true, Bool.not_eq_false, Bool.and_eq_true, Bool.or_eq_true, Bool.and_eq_false_iff, Bool.or_eq_false_iff, Bool.not_not, ne_eq, Int.not_lt, Int.not_le, Decidable.not_not, beq_iff_eq, bne_iff_ne] at hc2
        have hvm := hz3 (by simpa using hc2)
        obtain ⟨hzv, hvm2⟩ := hvm
        subst hzv
        refine wp_skip ?_
        refine then_normal ?_
        refine c_region ?_
        refine wl (wl_val hl rfl trivial (r_move hl rfl) ?_)
        clear hl a; intro a hl
        refine wl (wl_val hl rfl trivial (r_field hl rfl fld30_1) ?_)
        clear hl a; intro a hl
        refine wl (w_store hl hh trivial one3 rfl rfl (by repeat (first | exact find_head | apply find_tail)) (by first | (simp; done) | (simp; omega)) (by first | rfl | assumption | (apply Row.one; assumption)) (by first | (simp only [setL, List.getElem?_cons_zero, List.getElem?_cons_succ, Value.cells, List.take_zero, List.take_succ_cons, List.take_nil, List.drop_zero, List.drop_succ_cons, List.drop_nil, List.length_cons, List.length_nil, List.cons_append, List.nil_append, List.append_nil, Nat.zero_add, Nat.add_zero, Nat.reduceAdd, Nat.reduceBEq, Nat.reduceEqDiff, Nat.ble, BEq.rfl, Bool.and_true, Bool.and_self, cond_true, beq_self_eq_true]; rfl)) ?_)
        clear hh w; intro w hh
        refine w_nil ?_
        have hl2 := hl.add (t := 1) (hl.add (t := 4) (hl.add (t := 5) (hl.add (t := 6) (hl.add (t := 12) (hl.add (t := 13) (hl.add (t := 14) (hl.nil) rfl) rfl) rfl) rfl) rfl) rfl) rfl; clear hl; have hl := hl2; clear hl2
        refine then_normal ?_
        refine c_region ?_
        refine wl (wl_val hl rfl trivial (r_move hl rfl) ?_)
        clear hl a; intro a hl
        refine wl (wl_val hl rfl trivial (r_move hl rfl) ?_)
        clear hl a; intro a hl
        first | refine wl (w_loadA hl hh rfl trivial agg30 rfl (by repeat (first | exact find_head | apply find_tail)) (by first | (simp only [List.getElem?_cons_zero, List.getElem?_cons_succ, Value.cells, List.take_zero, List.take_succ_cons, List.take_nil, List.drop_zero, List.drop_succ_cons, List.drop_nil, List.length_cons, List.length_nil, List.cons_append, List.nil_append, List.append_nil, Nat.zero_add, Nat.add_zero, Nat.reduceAdd, Nat.reduceBEq, Nat.reduceEqDiff, Nat.ble, BEq.rfl, Bool.and_true, Bool.and_self, cond_true, beq_self_eq_true]; rfl)) (by first | rfl | (simp; done)) ?_) | refine wl (w_loadRA hl hh rfl trivial agg30 rfl hm (by simpa using hbn) hrd rfl ?_)
        clear hl a; intro a hl
        refine wl (wl_val hl rfl trivial (r_indexS hl rfl rfl slc22 (by omega) (by omega) (by first | (simp only [Int.reduceToNat]; rfl) | exact toNat_add1 _ | exact toNat_add2 _ _ | exact toNat_emod _ _ | exact Int.toNat_natCast _ | rfl)) ?_)
        clear hl a; intro a hl
        refine wl (w_storeA hl hh trivial agg30 rfl rfl (by repeat (first | exact find_head | apply find_tail)) (by first | rfl | (simp; done)) (by rw [hjl2]; omega) (by first | rfl | (simp; done)) (by exact app_tc2 hvv hol hj4) ?_)
        clear hh w; intro w hh
        refine w_nil ?_
        have hl2 := hl.add (t := 1) (hl.add (t := 4) (hl.add (t := 12) (hl.add (t := 13) (hl.add (t := 14) (hl.nil) rfl) rfl) rfl) rfl) rfl; clear hl; have hl := hl2; clear hl2
        refine blk_normal ?_
        refine then_normal ?_
        refine c_region ?_
        first | refine wl (wl_val hl rfl trivial (r_add hl rfl rfl (by simp only [Fits]; omega)) ?_) | refine wl (wl_val hl rfl trivial (r_addW hl rfl rfl) ?_)
        clear hl a; intro a hl
        refine wl (wl_val hl rfl trivial (r_move hl rfl) ?_)
        clear hl a; intro a hl
        refine w_nil ?_
        have hl2 := hl.add (t := 1) (hl.add (t := 4) (hl.add (t := 12) (hl.add (t := 13) (hl.add (t := 14) (hl.nil) rfl) rfl) rfl) rfl) rfl; clear hl; have hl := hl2; clear hl2
        refine then_normal ?_
        first | refine ⟨(i + 1, v + 1, jo.drop 4), (by simp only; omega), ⟨by simp only; omega, by rw [take_snoc hvv, mN_snoc, ← hmm, mS_new], by simp only; omega, by rw [take_i hvv]; exact app_jl hjl2 hj4 _⟩, hl.addE (t := 14) (hl.addE (t := 1) (hl.addE (t := 4) (hl.addE (t := 12) (hl.addE (t := 13) (hl.nil) rfl (by first | rfl | rfl)) rfl (by first | rfl | rfl)) rfl (by first | rfl | rfl)) rfl (by first | rfl | rfl)) rfl (by first | rfl | rfl), hh.keep (by repeat (first | exact keeps_nil | apply keeps_cons (by repeat (first | exact find_head | apply find_tail)) (by first  | rfl) | exact keeps_self | exact keeps_left | exact keeps_right | exact keeps_swap | apply keeps_mv))⟩ | refine ⟨(i + 1, mm, jo.drop 4), (by simp only; omega), ⟨by simp only; omega, by rw [take_snoc hvv, mN_snoc, ← hmm, mS_old hvm2], by simp only; omega, by rw [take_i hvv]; exact app_jl hjl2 hj4 _⟩, hl.addE (t := 14) (hl.addE (t := 1) (hl.addE (t := 4) (hl.addE (t := 12) (hl.addE (t := 13) (hl.nil) rfl (by first | rfl | rfl)) rfl (by first | rfl | rfl)) rfl (by first | rfl | rfl)) rfl (by first | rfl | rfl)) rfl (by first | rfl | rfl), hh.keep (by repeat (first | exact keeps_nil | apply keeps_cons (by repeat (first | exact find_head | apply find_tail)) (by first  | rfl) | exact keeps_self | exact keeps_left | exact keeps_right | exact keeps_swap | apply keeps_mv))⟩
    · intro hc1
      try simp only [decide_eq_true_eq, decide_eq_false_iff_not, Bool.not_eq_true', Bool.not_eq_false', Bool.not_eq_true, Bool.not_eq_false, Bool.and_eq_true, Bool.or_eq_true, Bool.and_eq_false_iff, Bool.or_eq_false_iff, Bool.not_not, ne_eq, Int.not_lt, Int.not_le, Decidable.not_not, beq_iff_eq, bne_iff_ne] at hc1
      exfalso; first | contradiction | omega
  · intro hc0
    try simp only [decide_eq_true_eq, decide_eq_false_iff_not, Bool.not_eq_true', Bool.not_eq_false', Bool.not_eq_true, Bool.not_eq_false, Bool.and_eq_true, Bool.or_eq_true, Bool.and_eq_false_iff, Bool.or_eq_false_iff, Bool.not_not, ne_eq, Int.not_lt, Int.not_le, Decidable.not_not, beq_iff_eq, bne_iff_ne] at hc0
    have hit : i = ts.length := by omega
    subst hit
    rw [List.take_length] at hmm
    subst hmm
    rw [rn_done hjl2] at hh
    refine wp_exit ?_
    refine then_exit ?_
    refine then_exit ?_
    refine blk_exit ?_
    refine then_normal ?_
    refine c_seq ?_
    refine c_region ?_
    refine wl (wl_val hl rfl trivial (r_move hl rfl) ?_)
    clear hl a; intro a hl
    refine wl (wl_val hl rfl trivial (r_assign hl rfl) ?_)
    clear hl a; intro a hl
    refine w_nil ?_
    have hl2 := hl.add (t := 3) (hl.nil) rfl; clear hl; have hl := hl2; clear hl2
    refine then_normal ?_
    refine wp_ret ?_
    refine f_ret1 (F' := [(kd, C [.map (some mb)] 55), (mb, MO (kInt .i64) (dl (mN m ts))), (k11, C (fl tc (ts.map fun (v : Nat) => (v : Int))) 30)]) hl hh rfl rfl (by repeat (first | exact keeps_nil | apply keeps_cons (by repeat (first | exact find_head | apply find_tail)) (by first  | rfl) | exact keeps_self | exact keeps_left | exact keeps_right | exact keeps_swap | apply keeps_mv)) ?_
    exact ⟨k11, rfl, rfl⟩
end Go.Proofs.Qxb6500915a

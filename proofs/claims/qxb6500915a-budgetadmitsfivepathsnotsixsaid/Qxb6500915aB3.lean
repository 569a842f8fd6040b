import Derived.Test.Qxb6500915aB2
namespace Go.Proofs.Qxb6500915a
open Go.Eng
set_option linter.unusedVariables false
set_option linter.unusedSimpArgs false

/-- what a reading changed -/
structure RdF (num : List Int) (nx : Int) (ts : List Nat) (nm : List Int) : Prop where
  len : nm.length = num.length
  old : ∀ (j : Nat) (x : Int), num[j]? = some x → nm[j]? = some x ∨ (j ∈ ts ∧ x = -1 ∧ ∃ y, nm[j]? = some y ∧ nx ≤ y)
  lt : ∀ (j : Nat) (x : Int), num[j]? = some x → x < nx
  neg : ∀ (j : Nat) (x : Int), nm[j]? = some x → x < nx → num[j]? = some x
theorem rd_step {num nm nm' : List Int} {nx ny ny' : Int} {ts : List Nat} {v : Nat} {ou ou' : List Int} (h : RdF num nx ts nm) (hny : nx ≤ ny) (hv : v < num.length) (e : rd1 (nm, ny, ou) v = (nm', ny', ou')) : RdF num nx (ts ++ [v]) nm' ∧ nx ≤ ny' := by
  have hl := h.len
  obtain ⟨z, hz⟩ : ∃ z, nm[v]? = some z := ⟨_, List.getElem?_eq_getElem (by omega)⟩
  by_cases c : z = -1
  · rw [rd1_yes (s := (nm, ny, ou)) hz c] at e
    injection e with e1 e2
    injection e2 with e2 e3
    simp only at e1 e2
    subst e1
    refine ⟨⟨by simp [hl], fun j x hx => ?_, h.lt, fun j x hx hlt => ?_⟩, by omega⟩
    · by_cases cj : j = v
      · subst cj
        rcases h.old j x hx with h1 | ⟨_, h2, _⟩
        · rw [hz] at h1
          have : z = x := Option.some.inj h1
          exact .inr ⟨by simp, by omega, ny, List.getElem?_set_self (by omega), hny⟩
        · exact .inr ⟨by simp, h2, ny, List.getElem?_set_self (by omega), hny⟩
      · rcases h.old j x hx with h1 | ⟨h1, h2, y, h3, h4⟩
        · exact .inl (by rw [List.getElem?_set_ne (Ne.symm cj)]; exact h1)
        · exact .inr ⟨by simp [h1], h2, y, by rw [List.getElem?_set_ne (Ne.symm cj)]; exact h3, h4⟩
    · by_cases cj : j = v
      · subst cj
        rw [List.getElem?_set_self (by omega)] at hx
        have : ny = x := Option.some.inj hx
        omega
      · rw [List.getElem?_set_ne (Ne.symm cj)] at hx; exact h.neg j x hx hlt
  · rw [rd1_no (s := (nm, ny, ou)) hz c] at e
    injection e with e1 e2
    injection e2 with e2 e3
    simp only at e1 e2
    subst e1
    refine ⟨⟨hl, fun j x hx => ?_, h.lt, h.neg⟩, by omega⟩
    rcases h.old j x hx with h1 | ⟨h1, h2⟩
    · exact .inl h1
    · exact .inr ⟨by simp [h1], h2⟩
theorem rd_facts_aux {num : List Int} {nx : Int} {ts : List Nat} (hv : ∀ v, v ∈ ts → v < num.length) (hnum : ∀ (j : Nat) (x : Int), num[j]? = some x → x < nx) : ∀ i nm ny ou, rdP num nx (ts.take i) = (nm, ny, ou) → RdF num nx (ts.take i) nm ∧ nx ≤ ny
  | 0, nm, ny, ou, e => by
    rw [List.take_zero] at e
    injection e with e1 e2
    injection e2 with e2 e3
    subst e1
    exact ⟨⟨rfl, fun j x h => .inl h, hnum, fun j x h _ => h⟩, by omega⟩
  | i + 1, nm, ny, ou, e => by
    cases hx : ts[i]? with
    | none =>
      have e2 : ts.take (i + 1) = ts.take i := by rw [List.take_add_one, hx]; simp
      rw [e2] at e ⊢
      exact rd_facts_aux hv hnum i nm ny ou e
    | some v =>
      rw [take_snoc hx, rdP_snoc] at e
      rw [take_snoc hx]
      rcases hs : rdP num nx (ts.take i) with ⟨nm0, ny0, ou0⟩
      rw [hs] at e
      obtain ⟨h1, h2⟩ := rd_facts_aux hv hnum i nm0 ny0 ou0 hs
      exact rd_step h1 h2 (hv v (List.mem_of_getElem? hx)) e
theorem rd_facts {num : List Int} {nx : Int} {ts : List Nat} {nm : List Int} {ny : Int} {ou : List Int} (e : rdP num nx ts = (nm, ny, ou)) (hv : ∀ v, v ∈ ts → v < num.length) (hnum : ∀ (j : Nat) (x : Int), num[j]? = some x → x < nx) : RdF num nx ts nm := by
  have := rd_facts_aux hv hnum ts.length nm ny ou (by rw [List.take_length]; exact e)
  rw [List.take_length] at this
  exact this.1
/-- the numbers taken back, so far -/
structure Unr (num : List Int) (ts : List Nat) (i : Nat) (nm cur : List Int) : Prop where
  len0 : cur.length = nm.length
  at_ : ∀ j : Nat, cur[j]? = if j ∈ ts.take i then num[j]? else nm[j]?
theorem Unr.start {num : List Int} {ts : List Nat} {nm : List Int} : Unr num ts 0 nm nm := ⟨rfl, fun j => by simp⟩
theorem Unr.len {num : List Int} {ts : List Nat} {i : Nat} {nm cur : List Int} (h : Unr num ts i nm cur) : cur.length = nm.length := h.len0
theorem Unr.yes {num : List Int} {nx : Int} {ts : List Nat} {i v : Nat} {nm cur : List Int} {z : Int} (h : Unr num ts i nm cur) (hR : RdF num nx ts nm) (hv : ts[i]? = some v) (hz : cur[v]? = some z) (hge : nx ≤ z) : Unr num ts (i + 1) nm (cur.set v (-1)) := by
  have hvl : v < cur.length := (List.getElem?_eq_some_iff.1 hz).1
  refine ⟨by simp [h.len0], fun j => ?_⟩
  rw [take_snoc hv]
  by_cases cj : j = v
  · subst cj
    rw [List.getElem?_set_self hvl, if_pos (by simp)]
    have h1 := h.at_ j
    rw [hz] at h1
    obtain ⟨x, hx⟩ : ∃ x, num[j]? = some x := ⟨_, List.getElem?_eq_getElem (by rw [← hR.len, ← h.len0]; exact hvl)⟩
    by_cases cm : j ∈ ts.take i
    · rw [if_pos cm, hx] at h1
      have := hR.lt j x hx
      have : z = x := Option.some.inj h1
      omega
    · rw [if_neg cm] at h1
      rcases hR.old j x hx with h2 | ⟨_, h2, _⟩
      · rw [h2] at h1
        have := hR.lt j x hx
        have : z = x := Option.some.inj h1
        omega
      · rw [hx, h2]
  · rw [List.getElem?_set_ne (Ne.symm cj), h.at_ j]
    by_cases cm : j ∈ ts.take i
    · rw [if_pos cm, if_pos (by simp [cm])]
    · rw [if_neg cm, if_neg (by simp [cm, cj])]
theorem Unr.no {num : List Int} {nx : Int} {ts : List Nat} {i v : Nat} {nm cur : List Int} {z : Int} (h : Unr num ts i nm cur) (hR : RdF num nx ts nm) (hv : ts[i]? = some v) (hz : cur[v]? = some z) (hlt : z < nx) : Unr num ts (i + 1) nm cur := by
  refine ⟨h.len0, fun j => ?_⟩
  rw [take_snoc hv, h.at_ j]
  by_cases cj : j = v
  · subst cj
    rw [if_pos (c := j ∈ ts.take i ++ [j]) (by simp)]
    by_cases cm : j ∈ ts.take i
    · rw [if_pos cm]
    · rw [if_neg cm]
      have h1 := h.at_ j
      rw [hz, if_neg cm] at h1
      rw [← h1, hR.neg j z h1.symm hlt]
  · by_cases cm : j ∈ ts.take i
    · rw [if_pos cm, if_pos (by simp [cm])]
    · rw [if_neg cm, if_neg (by simp [cm, cj])]
theorem Unr.done {num : List Int} {nx : Int} {ts : List Nat} {i : Nat} {nm cur : List Int} (h : Unr num ts i nm cur) (hR : RdF num nx ts nm) (hi : ts.length ≤ i) : cur = num := by
  apply List.ext_getElem?
  intro j
  rw [h.at_ j, List.take_of_length_le hi]
  by_cases cm : j ∈ ts
  · rw [if_pos cm]
  · rw [if_neg cm]
    by_cases hj : j < num.length
    · obtain ⟨x, hx⟩ : ∃ x, num[j]? = some x := ⟨_, List.getElem?_eq_getElem hj⟩
      rcases hR.old j x hx with h2 | ⟨h2, _⟩
      · rw [h2, hx]
      · exact absurd h2 cm
    · rw [List.getElem?_eq_none (by rw [hR.len]; omega), List.getElem?_eq_none (by omega)]


set_option maxHeartbeats 8000000 in
theorem read_back (fb so nb nc : Nat) (fc : List Value) (T : TypeId) (num : List Int) (jn : List Value) (nx : Int) (ts : List Nat) (p : Option Addr) (c : Nat) (Et : List (Nat × Obj)) (hT : Row (.slice p ts.length c) ts.length (fl tc (ts.map fun (v : Nat) => (v : Int))) 4 30 Et) (hne : ∀ x, x ∈ Et → x.1 ≠ fb ∧ x.1 ≠ nb) (hs1 : fc[so + 1]? = some (.slice (some ⟨nb, 0, none⟩) num.length nc)) (hs2 : fc[so + 2]? = some (.int .i64 nx)) (hv : ∀ v, v ∈ ts → v < num.length) (hn : num.length ≤ 1000) (ht : ts.length ≤ 100) (hnx : 0 ≤ nx ∧ nx ≤ 1000) (hnum : ∀ (j : Nat) (x : Int), num[j]? = some x → x < nx) : SpK Try.prog 6 #[.slice p ts.length c, .pointer (some ⟨fb, so, none⟩), .bool false] (Mem Et) [(fb, C fc T), (nb, C (fl iI (num) ++ jn) 3)] (fun u F' => ∃ Eo, Row u ts.length (fl tc (rdP num nx ts).2.2) 4 30 Eo ∧ F' = Eo ++ [(fb, C fc T), (nb, C (fl iI (num) ++ jn) 3)]) := by
  refine f_enter (args := [.slice p ts.length c, .pointer (some ⟨fb, so, none⟩), .bool false]) Try.func6 rfl Try.ntmps6 rfl ?_
  intro w0 w a hpre hl hh
  have htl := ht
  simp only [slotsFrom, Nat.reduceAdd] at hl
  refine c_seq ?_
  refine c_region ?_
  refine wl (wl_val hl rfl trivial (r_assign hl rfl) ?_)
  clear hl a; intro a hl
  refine w_nil ?_
  have hl2 := hl.add (t := 0) (hl.add (t := 1) (hl.add (t := 2) (hl.nil) rfl) rfl) rfl; clear hl; have hl := hl2; clear hl2
  refine then_normal ?_
  refine c_seq ?_
  refine c_region ?_
  refine wl (wl_val hl rfl trivial (r_move hl rfl) ?_)
  clear hl a; intro a hl
  refine wl (wl_val hl rfl trivial (r_lenS hl rfl slc22) ?_)
  clear hl a; intro a hl
  refine wl (w_makeSliceN hl hh rfl trivial app22 zero30 rfl rfl (by omega) (by decide) ?_)
  clear hl hh a w; intro k15 jk15 a w hjk15 hl hh
  refine wl (wl_val hl rfl trivial (r_assign hl rfl) ?_)
  clear hl a; intro a hl
  refine w_nil ?_
  have hl2 := hl.add (t := 0) (hl.add (t := 1) (hl.add (t := 2) (hl.add (t := 7) (hl.nil) rfl) rfl) rfl) rfl; clear hl; have hl := hl2; clear hl2
  refine then_normal ?_
  refine c_seq ?_
  refine c_region ?_
  refine wl (wl_val hl rfl trivial (r_move hl rfl) ?_)
  clear hl a; intro a hl
  refine wl (wl_val hl rfl trivial (r_nilCheck hl rfl) ?_)
  clear hl a; intro a hl
  refine wl (wl_val hl rfl trivial (r_field hl rfl fld47_2) ?_)
  clear hl a; intro a hl
  refine wl (w_load hl hh rfl trivial one3 rfl (by repeat (first | exact find_head | apply find_tail)) (by exact hs2) ?_)
  clear hl a; intro a hl
  refine wl (wl_val hl rfl trivial (r_assign hl rfl) ?_)
  clear hl a; intro a hl
  refine w_nil ?_
  have hl2 := hl.add (t := 0) (hl.add (t := 1) (hl.add (t := 2) (hl.add (t := 7) (hl.add (t := 8) (hl.nil) rfl) rfl) rfl) rfl) rfl; clear hl; have hl := hl2; clear hl2
  refine then_normal ?_
  refine c_seq ?_
  refine c_seq ?_
  refine c_region ?_
  refine wl (wl_val hl rfl trivial (r_move hl rfl) ?_)
  clear hl a; intro a hl
  refine wl (wl_val hl rfl trivial (r_lenS hl rfl slc22) ?_)
  clear hl a; intro a hl
  refine wl (wl_val hl rfl trivial (r_move hl rfl) ?_)
  clear hl a; intro a hl
  refine w_nil ?_
  have hl2 := hl.add (t := 0) (hl.add (t := 1) (hl.add (t := 2) (hl.add (t := 7) (hl.add (t := 8) (hl.add (t := 20) (hl.add (t := 21) (hl.add (t := 22) (hl.nil) rfl) rfl) rfl) rfl) rfl) rfl) rfl) rfl; clear hl; have hl := hl2; clear hl2
  refine then_normal ?_
  refine wp_block ?_
  obtain ⟨KS0, hKS0, hk⟩ := (hl.add (t := 0) (hl.add (t := 1) (hl.add (t := 2) (hl.add (t := 7) (hl.add (t := 20) (hl.add (t := 21) (hl.nil) rfl) rfl) rfl) rfl) rfl) rfl).name
  obtain ⟨HS0, hHS0, hh2⟩ := hh.name (keeps_cons (b := fb) (by repeat (first | exact find_head | apply find_tail)) (by first | rfl | rfl) (keeps_cons (b := nb) (o' := C (fl iI num ++ jn) 3) (by repeat (first | exact find_head | apply find_tail)) (by first | rfl | rfl) (keeps_cons (b := k15) (o' := C jk15 30) (by repeat (first | exact find_head | apply find_tail)) (by first | rfl | rfl) (keeps_nil))))
  refine c_loop (α := RR) (fun s => ts.length - s.i) (fun s a w => (RRI num nx ts s) ∧ Sl 102 ([(22, .int .i64 (s.i : Int)), (8, .int .i64 s.nx)] ++ KS0) a ∧ Has _ w0 ([(fb, C fc T), (nb, C (fl iI s.num ++ jn) 3), (k15, C (fl tc s.out ++ s.jo) 30)] ++ HS0) w) ⟨0, num, nx, [], jk15⟩ ⟨⟨Nat.zero_le _, rfl, rfl, rfl, ⟨Int.le_refl _, by simp⟩, hjk15.1⟩, hl.addE (t := 22) (hl.addE (t := 8) (hk) rfl (by first | rfl)) rfl (by first | rfl), hh2⟩ ?_
  clear hk hh2 hl hh a w
  intro s a w hI
  obtain ⟨hI, hl, hh⟩ := hI
  subst hKS0; subst hHS0
  simp only [List.cons_append, List.nil_append, List.append_nil] at hl hh
  obtain ⟨i, nm, ny, ou, jo⟩ := s
  obtain ⟨hi, hst, hol, hnl, hnb, hjl2⟩ := hI
  simp only at hi hst hol hnl hnb hjl2 hl hh
  refine c_seq ?_
  refine c_region ?_
  refine wl (wl_val hl rfl trivial (r_lss hl rfl rfl) ?_)
  clear hl a; intro a hl
  refine w_nil ?_
  have hl2 := hl.add (t := 0) (hl.add (t := 1) (hl.add (t := 2) (hl.add (t := 7) (hl.add (t := 8) (hl.add (t := 20) (hl.add (t := 21) (hl.add (t := 22) (hl.add (t := 23) (hl.nil) rfl) rfl) rfl) rfl) rfl) rfl) rfl) rfl) rfl; clear hl; have hl := hl2; clear hl2
  refine then_normal ?_
  refine c_seq ?_
  refine c_cond hl rfl ?_ ?_
  · intro hc0
    try simp only [decide_eq_true_eq, decide_eq_false_iff_not, Bool.not_eq_true', Bool.not_eq_false', Bool.not_eq_true, Bool.not_eq_false, Bool.and_eq_true, Bool.or_eq_true, Bool.and_eq_false_iff, Bool.or_eq_false_iff, Bool.not_not, ne_eq, Int.not_lt, Int.not_le, Decidable.not_not, beq_iff_eq, bne_iff_ne] at hc0
    obtain ⟨v, hvv⟩ : ∃ v, ts[i]? = some v := ⟨_, List.getElem?_eq_getElem (by omega)⟩
    have hvi : (ts.map fun (v : Nat) => (v : Int))[i]? = some (v : Int) := by rw [List.getElem?_map, hvv]; rfl
    obtain ⟨b, junk, rfl, hjl, hjc, rfl⟩ := row_pos hT (by omega)
    have hbn := hne _ (List.mem_singleton.2 rfl)
    have hm : w0.heap[b]? = some (C (fl tc (ts.map fun (v : Nat) => (v : Int)) ++ junk) 30) := hpre _ _ (List.mem_singleton.2 rfl)
    have hrd := fl_at tc_len hvi junk
    simp only [tc] at hrd
    have hvl := hv v (List.mem_of_getElem? hvv)
    obtain ⟨z, hz⟩ : ∃ z, nm[v]? = some z := ⟨_, List.getElem?_eq_getElem (by omega)⟩
    have hj4 : 4 ≤ jo.length := by have := hjl2; rw [List.length_append, fl_len tc_len] at this; omega
    refine wp_skip ?_
    refine then_normal ?_
    refine c_seq ?_
    refine wp_block ?_
    refine c_seq ?_
    refine c_region ?_
    refine wl (wl_val hl rfl trivial (r_move hl rfl) ?_)
    clear hl a; intro a hl
    refine wl (wl_val hl rfl trivial (r_indexS hl rfl rfl slc22 (by omega) (by omega) (by first | (simp only [Int.reduceToNat]; rfl) | exact toNat_add1 _ | exact toNat_add2 _ _ | exact toNat_emod _ _ | exact Int.toNat_natCast _ | rfl)) ?_)
    clear hl a; intro a hl
    first | refine wl (w_loadA hl hh rfl trivial agg30 rfl (by repeat (first | exact find_head | apply find_tail)) (by first | (simp only [List.getElem?_cons_zero, List.getElem?_cons_succ, Value.cells, List.take_zero, List.take_succ_cons, List.take_nil, List.drop_zero, List.drop_succ_cons, List.drop_nil, List.length_cons, List.length_nil, List.cons_append, List.nil_append, List.append_nil, Nat.zero_add, Nat.add_zero, Nat.reduceAdd, Nat.reduceBEq, Nat.reduceEqDiff, Nat.ble, BEq.rfl, Bool.and_true, Bool.and_self, cond_true, beq_self_eq_true]; rfl)) (by first | rfl | (simp; done)) ?_) | refine wl (w_loadRA hl hh rfl trivial agg30 rfl hm (by simpa using hbn) hrd rfl ?_)
    clear hl a; intro a hl
    refine wl (w_alloc hl hh rfl trivial zero30 rfl ?_)
    clear hl hh a w; intro k10 a w hl hh
    refine wl (wl_val hl rfl trivial (r_assign hl rfl) ?_)
    clear hl a; intro a hl
    refine wl (w_storeA hl hh trivial agg30 rfl rfl (by repeat (first | exact find_head | apply find_tail)) (by first | rfl | (simp; done)) (by first | (simp; done) | (simp; omega)) (by first | rfl | (simp; done)) (by first | (simp only [setL, List.getElem?_cons_zero, List.getElem?_cons_succ, Value.cells, List.take_zero, List.take_succ_cons, List.take_nil, List.drop_zero, List.drop_succ_cons, List.drop_nil, List.length_cons, List.length_nil, List.cons_append, List.nil_append, List.append_nil, Nat.zero_add, Nat.add_zero, Nat.reduceAdd, Nat.reduceBEq, Nat.reduceEqDiff, Nat.ble, BEq.rfl, Bool.and_true, Bool.and_self, cond_true, beq_self_eq_true]; rfl)) ?_)
    clear hh w; intro w hh
    refine w_nil ?_
    have hl2 := hl.add (t := 0) (hl.add (t := 1) (hl.add (t := 2) (hl.add (t := 7) (hl.add (t := 8) (hl.add (t := 9) (hl.add (t := 10) (hl.add (t := 20) (hl.add (t := 21) (hl.add (t := 22) (hl.nil) rfl) rfl) rfl) rfl) rfl) rfl) rfl) rfl) rfl) rfl; clear hl; have hl := hl2; clear hl2
    refine then_normal ?_
    refine c_seq ?_
    refine c_seq ?_
    refine c_region ?_
    refine wl (wl_val hl rfl trivial (r_field hl rfl fld30_0) ?_)
    clear hl a; intro a hl
    refine wl (w_load hl hh rfl trivial one28 rfl (by repeat (first | exact find_head | apply find_tail)) (by first | rfl) ?_)
    clear hl a; intro a hl
    refine wl (wl_val hl rfl trivial (r_eql hl rfl rfl) ?_)
    clear hl a; intro a hl
    refine w_nil ?_
    have hl2 := hl.add (t := 0) (hl.add (t := 1) (hl.add (t := 2) (hl.add (t := 7) (hl.add (t := 8) (hl.add (t := 9) (hl.add (t := 10) (hl.add (t := 20) (hl.add (t := 21) (hl.add (t := 22) (hl.add (t := 29) (hl.nil) rfl) rfl) rfl) rfl) rfl) rfl) rfl) rfl) rfl) rfl) rfl; clear hl; have hl := hl2; clear hl2
    refine then_normal ?_
    refine c_cond hl rfl ?_ ?_
    · intro hc1
      try simp only [decide_eq_true_eq, decide_eq_false_iff_not, Bool.not_eq_true', Bool.not_eq_false', Bool.not_eq_true, Bool.not_eq_false, Bool.and_eq_true, Bool.or_eq_true, Bool.and_eq_false_iff, Bool.or_eq_false_iff, Bool.not_not, ne_eq, Int.not_lt, Int.not_le, Decidable.not_not, beq_iff_eq, bne_iff_ne] at hc1
      refine c_seq ?_
      refine c_seq ?_
      refine c_draw [(fb, C fc T), (nb, C (fl iI (nm) ++ jn) 3), (k10, C [.int .u8 0, .int .i64 (v : Int), .int .i64 0, .string ⟨#[]⟩] 30)] [8] mixed hh ?_
      clear hh w; intro w hh
      have hM : Mem [(fb, C fc T), (nb, C (fl iI (nm) ++ jn) 3), (k10, C [.int .u8 0, .int .i64 (v : Int), .int .i64 0, .string ⟨#[]⟩] 30)] w := (by repeat (first | exact Mem.nil | refine Mem.cons hh.mem (by repeat (first | exact find_head | apply find_tail)) ?_ | refine Mem.consR hh (by assumption) (by simp) ?_))
      refine d_take (i := 0) hl rfl (by kernel_rfl) (by kernel_rfl) (by kernel_rfl) (by kernel_rfl) (by kernel_rfl) rfl trivial (fun _ _ _ h => h) hM (fun w hC => r_move hl rfl) rfl ?_
      clear hl a; intro a hl
      refine d_take (i := 1) hl rfl (by kernel_rfl) (by kernel_rfl) (by kernel_rfl) (by kernel_rfl) (by kernel_rfl) rfl trivial (fun _ _ _ h => h) hM (fun w hC => r_nilCheck hl rfl) rfl ?_
      clear hl a; intro a hl
      refine d_take (i := 2) hl rfl (by kernel_rfl) (by kernel_rfl) (by kernel_rfl) (by kernel_rfl) (by kernel_rfl) rfl trivial (fun _ _ _ h => h) hM (fun w hC => r_field hl rfl fld47_1) rfl ?_
      clear hl a; intro a hl
      refine d_take (i := 3) hl rfl (by kernel_rfl) (by kernel_rfl) (by kernel_rfl) (by kernel_rfl) (by kernel_rfl) rfl trivial (fun _ _ _ h => h) hM (fun w hC => r_loadC hl rfl one41 hC (by repeat (first | exact find_head | apply find_tail)) (by exact hs1)) rfl ?_
      clear hl a; intro a hl
      refine d_take (i := 4) hl rfl (by kernel_rfl) (by kernel_rfl) (by kernel_rfl) (by kernel_rfl) (by kernel_rfl) rfl trivial (fun _ _ _ h => h) hM (fun w hC => r_field hl rfl fld30_1) rfl ?_
      clear hl a; intro a hl
      refine d_take (i := 5) hl rfl (by kernel_rfl) (by kernel_rfl) (by kernel_rfl) (by kernel_rfl) (by kernel_rfl) rfl trivial (fun _ _ _ h => h) hM (fun w hC => r_loadC hl rfl one3 hC (by repeat (first | exact find_head | apply find_tail)) (by first | rfl)) rfl ?_
      clear hl a; intro a hl
      refine d_take (i := 6) hl rfl (by kernel_rfl) (by kernel_rfl) (by kernel_rfl) (by kernel_rfl) (by kernel_rfl) rfl trivial (fun _ _ _ h => h) hM (fun w hC => r_indexS hl rfl rfl slc41 (by omega) (by omega) (by first | (simp only [Int.reduceToNat]; rfl) | exact toNat_add1 _ | exact toNat_add2 _ _ | exact toNat_emod _ _ | exact Int.toNat_natCast _ | rfl)) rfl ?_
      clear hl a; intro a hl
      refine d_take (i := 7) hl rfl (by kernel_rfl) (by kernel_rfl) (by kernel_rfl) (by kernel_rfl) (by kernel_rfl) rfl trivial (fun _ _ _ h => h) hM (fun w hC => r_loadC hl rfl one3 hC (by repeat (first | exact find_head | apply find_tail)) (by first | exact fl_get1 (f := iI) (g := .int .i64) (fun _ => rfl) hz2 jn | exact fl_get1 (f := iI) (g := .int .i64) (fun _ => rfl) hz jn)) rfl ?_
      clear hl a; intro a hl
      refine d_takeL (i := 8) hl rfl (by kernel_rfl) (by kernel_rfl) (by kernel_rfl) (by kernel_rfl) (by kernel_rfl) rfl trivial (fun _ _ _ h => h) (fun w => r_eql hl rfl rfl) rfl ?_
      clear hl a; intro a hl
      refine d_done (by kernel_rfl) ?_
      try clear hM
      have hl2 := hl.add (t := 0) (hl.add (t := 1) (hl.add (t := 2) (hl.add (t := 7) (hl.add (t := 8) (hl.add (t := 9) (hl.add (t := 10) (hl.add (t := 20) (hl.add (t := 21) (hl.add (t := 22) (hl.add (t := 38) (hl.nil) rfl) rfl) rfl) rfl) rfl) rfl) rfl) rfl) rfl) rfl) rfl; clear hl; have hl := hl2; clear hl2
      refine then_normal ?_
      refine c_cond hl rfl ?_ ?_
      · intro hc2
        try simp only [decide_eq_true_eq, decide_eq_false_iff_not, Bool.not_eq_true', Bool.not_eq_false', Bool.not_eq_true, Bool.not_eq_false, Bool.and_eq_true, Bool.or_eq_true, Bool.and_eq_false_iff, Bool.or_eq_false_iff, Bool.not_not, ne_eq, Int.not_lt, Int.not_le, Decidable.not_not, beq_iff_eq, bne_iff_ne] at hc2
        have hz2 : (nm.set v ny)[v]? = some ny := List.getElem?_set_self (by omega)
        refine c_seq ?_
        refine c_draw [(fb, C fc T), (k10, C [.int .u8 0, .int .i64 (v : Int), .int .i64 0, .string ⟨#[]⟩] 30)] [7, 8] mixed hh ?_
        clear hh w; intro w hh
        have hM : Mem [(fb, C fc T), (k10, C [.int .u8 0, .int .i64 (v : Int), .int .i64 0, .string ⟨#[]⟩] 30)] w := (by repeat (first | exact Mem.nil | refine Mem.cons hh.mem (by repeat (first | exact find_head | apply find_tail)) ?_ | refine Mem.consR hh (by assumption) (by simp) ?_))
        refine d_take (i := 0) hl rfl (by kernel_rfl) (by kernel_rfl) (by kernel_rfl) (by kernel_rfl) (by kernel_rfl) rfl trivial (fun _ _ _ h => h) hM (fun w hC => r_move hl rfl) rfl ?_
        clear hl a; intro a hl
        refine d_take (i := 1) hl rfl (by kernel_rfl) (by kernel_rfl) (by kernel_rfl) (by kernel_rfl) (by kernel_rfl) rfl trivial (fun _ _ _ h => h) hM (fun w hC => r_nilCheck hl rfl) rfl ?_
        clear hl a; intro a hl
        refine d_take (i := 2) hl rfl (by kernel_rfl) (by kernel_rfl) (by kernel_rfl) (by kernel_rfl) (by kernel_rfl) rfl trivial (fun _ _ _ h => h) hM (fun w hC => r_field hl rfl fld47_1) rfl ?_
        clear hl a; intro a hl
        refine d_take (i := 3) hl rfl (by kernel_rfl) (by kernel_rfl) (by kernel_rfl) (by kernel_rfl) (by kernel_rfl) rfl trivial (fun _ _ _ h => h) hM (fun w hC => r_loadC hl rfl one41 hC (by repeat (first | exact find_head | apply find_tail)) (by exact hs1)) rfl ?_
        clear hl a; intro a hl
        refine d_take (i := 4) hl rfl (by kernel_rfl) (by kernel_rfl) (by kernel_rfl) (by kernel_rfl) (by kernel_rfl) rfl trivial (fun _ _ _ h => h) hM (fun w hC => r_field hl rfl fld30_1) rfl ?_
        clear hl a; intro a hl
        refine d_take (i := 5) hl rfl (by kernel_rfl) (by kernel_rfl) (by kernel_rfl) (by kernel_rfl) (by kernel_rfl) rfl trivial (fun _ _ _ h => h) hM (fun w hC => r_loadC hl rfl one3 hC (by repeat (first | exact find_head | apply find_tail)) (by first | rfl)) rfl ?_
        clear hl a; intro a hl
        refine d_take (i := 6) hl rfl (by kernel_rfl) (by kernel_rfl) (by kernel_rfl) (by kernel_rfl) (by kernel_rfl) rfl trivial (fun _ _ _ h => h) hM (fun w hC => r_move hl rfl) rfl ?_
        clear hl a; intro a hl
        refine d_takeL (i := 7) hl rfl (by kernel_rfl) (by kernel_rfl) (by kernel_rfl) (by kernel_rfl) (by kernel_rfl) rfl trivial (fun _ _ _ h => h) (fun w => r_indexS hl rfl rfl slc41 (by omega) (by omega) (by first | (simp only [Int.reduceToNat]; rfl) | exact toNat_add1 _ | exact toNat_add2 _ _ | exact toNat_emod _ _ | exact Int.toNat_natCast _ | rfl)) rfl ?_
        clear hl a; intro a hl
        refine d_one (i := 8) (by kernel_rfl) rfl ?_
        try clear hM
        refine id (w_store hl hh trivial one3 rfl rfl (by repeat (first | exact find_head | apply find_tail)) (by rw [List.length_append, fl_len iI_len]; omega) (by first | rfl | assumption | (apply Row.one; assumption)) (by exact fl_set iI_len nm _ jn v (by omega)) ?_)
        clear hh w; intro w hh
        refine d_step (fun h => absurd h (by decide)) ?_
        refine d_done (by kernel_rfl) ?_
        try clear hM
        have hl2 := hl.add (t := 0) (hl.add (t := 1) (hl.add (t := 2) (hl.add (t := 7) (hl.add (t := 8) (hl.add (t := 9) (hl.add (t := 10) (hl.add (t := 20) (hl.add (t := 21) (hl.add (t := 22) (hl.nil) rfl) rfl) rfl) rfl) rfl) rfl) rfl) rfl) rfl) rfl; clear hl; have hl := hl2; clear hl2
        refine then_normal ?_
        refine c_region ?_
        refine wl (wl_val hl rfl trivial (r_move hl rfl) ?_)
        clear hl a; intro a hl
        first | refine wl (wl_val hl rfl trivial (r_add hl rfl rfl (by simp only [Fits]; omega)) ?_) | refine wl (wl_val hl rfl trivial (r_addW hl rfl rfl) ?_)
        clear hl a; intro a hl
        refine wl (wl_val hl rfl trivial (r_assign hl rfl) ?_)
        clear hl a; intro a hl
        refine w_nil ?_
        have hl2 := hl.add (t := 0) (hl.add (t := 1) (hl.add (t := 2) (hl.add (t := 7) (hl.add (t := 8) (hl.add (t := 9) (hl.add (t := 10) (hl.add (t := 20) (hl.add (t := 21) (hl.add (t := 22) (hl.nil) rfl) rfl) rfl) rfl) rfl) rfl) rfl) rfl) rfl) rfl; clear hl; have hl := hl2; clear hl2
        refine then_normal ?_
        refine c_draw [] [8, 9] mixed hh ?_
        clear hh w; intro w hh
        have hM : Mem [] w := Mem.nil
        refine d_take (i := 0) hl rfl (by kernel_rfl) (by kernel_rfl) (by kernel_rfl) (by kernel_rfl) (by kernel_rfl) rfl trivial (fun _ _ _ h => h) hM (fun w hC => r_move hl rfl) rfl ?_
        clear hl a; intro a hl
        refine d_take (i := 1) hl rfl (by kernel_rfl) (by kernel_rfl) (by kernel_rfl) (by kernel_rfl) (by kernel_rfl) rfl trivial (fun _ _ _ h => h) hM (fun w hC => r_nilCheck hl rfl) rfl ?_
        clear hl a; intro a hl
        refine d_take (i := 2) hl rfl (by kernel_rfl) (by kernel_rfl) (by kernel_rfl) (by kernel_rfl) (by kernel_rfl) rfl trivial (fun _ _ _ h => h) hM (fun w hC => r_field hl rfl fld47_1) rfl ?_
        clear hl a; intro a hl
        refine d_take (i := 4) hl rfl (by kernel_rfl) (by kernel_rfl) (by kernel_rfl) (by kernel_rfl) (by kernel_rfl) rfl trivial (fun _ _ _ h => h) hM (fun w hC => r_field hl rfl fld30_1) rfl ?_
        clear hl a; intro a hl
        refine d_two (i := 3) (j := 5) (by kernel_rfl) rfl rfl ?_ ?_
        ·
          try clear hM
          refine id (w_load hl hh rfl trivial one41 rfl (by repeat (first | exact find_head | apply find_tail)) (by exact hs1) ?_)
          clear hl a; intro a hl
          have hM : Mem [] w := Mem.nil
          refine d_step (fun _ => hM) ?_
          refine d_one (i := 5) (by kernel_rfl) rfl ?_
          try clear hM
          refine id (w_load hl hh rfl trivial one3 rfl (by repeat (first | exact find_head | apply find_tail)) (by first | rfl) ?_)
          clear hl a; intro a hl
          have hM : Mem [] w := Mem.nil
          refine d_step (fun _ => hM) ?_
          refine d_take (i := 6) hl rfl (by kernel_rfl) (by kernel_rfl) (by kernel_rfl) (by kernel_rfl) (by kernel_rfl) rfl trivial (fun _ _ _ h => h) hM (fun w hC => r_indexS hl rfl rfl slc41 (by omega) (by omega) (by first | (simp only [Int.reduceToNat]; rfl) | exact toNat_add1 _ | exact toNat_add2 _ _ | exact toNat_emod _ _ | exact Int.toNat_natCast _ | rfl)) rfl ?_
          clear hl a; intro a hl
          refine d_one (i := 7) (by kernel_rfl) rfl ?_
          try clear hM
          refine id (w_load hl hh rfl trivial one3 rfl (by repeat (first | exact find_head | apply find_tail)) (by first | exact fl_get1 (f := iI) (g := .int .i64) (fun _ => rfl) hz2 jn | exact fl_get1 (f := iI) (g := .int .i64) (fun _ => rfl) hz jn) ?_)
          clear hl a; intro a hl
          have hM : Mem [] w := Mem.nil
          refine d_step (fun _ => hM) ?_
          refine d_takeL (i := 8) hl rfl (by kernel_rfl) (by kernel_rfl) (by kernel_rfl) (by kernel_rfl) (by kernel_rfl) rfl trivial (fun _ _ _ h => h) (fun w => r_field hl rfl fld30_1) rfl ?_
          clear hl a; intro a hl
          refine d_one (i := 9) (by kernel_rfl) rfl ?_
          try clear hM
          refine id (w_store hl hh trivial one3 rfl rfl (by repeat (first | exact find_head | apply find_tail)) (by first | (simp; done) | (simp; omega)) (by first | rfl | assumption | (apply Row.one; assumption)) (by first | (simp only [setL, List.getElem?_cons_zero, List.getElem?_cons_succ, Value.cells, List.take_zero, List.take_succ_cons, List.take_nil, List.drop_zero, List.drop_succ_cons, List.drop_nil, List.length_cons, List.length_nil, List.cons_append, List.nil_append, List.append_nil, Nat.zero_add, Nat.add_zero, Nat.reduceAdd, Nat.reduceBEq, Nat.reduceEqDiff, Nat.ble, BEq.rfl, Bool.and_true, Bool.and_self, cond_true, beq_self_eq_true]; rfl)) ?_)
          clear hh w; intro w hh
          refine d_step (fun h => absurd h (by decide)) ?_
          refine d_done (by kernel_rfl) ?_
          try clear hM
          have hl2 := hl.add (t := 0) (hl.add (t := 1) (hl.add (t := 2) (hl.add (t := 7) (hl.add (t := 8) (hl.add (t := 9) (hl.add (t := 10) (hl.add (t := 20) (hl.add (t := 21) (hl.add (t := 22) (hl.nil) rfl) rfl) rfl) rfl) rfl) rfl) rfl) rfl) rfl) rfl; clear hl; have hl := hl2; clear hl2
          refine then_normal ?_
          refine c_region ?_
          refine wl (wl_val hl rfl trivial (r_move hl rfl) ?_)
          clear hl a; intro a hl
          refine wl (wl_val hl rfl trivial (r_move hl rfl) ?_)
          clear hl a; intro a hl
          first | refine wl (w_loadA hl hh rfl trivial agg30 rfl (by repeat (first | exact find_head | apply find_tail)) (by first | (simp only [List.getElem?_cons_zero, List.getElem?_cons_succ, Value.cells, List.take_zero, List.take_succ_cons, List.take_nil, List.drop_zero, List.drop_succ_cons, List.drop_nil, List.length_cons, List.length_nil, List.cons_append, List.nil_append, List.append_nil, Nat.zero_add, Nat.add_zero, Nat.reduceAdd, Nat.reduceBEq, Nat.reduceEqDiff, Nat.ble, BEq.rfl, Bool.and_true, Bool.and_self, cond_true, beq_self_eq_true]; rfl)) (by first | rfl | (simp; done)) ?_) | refine wl (w_loadRA hl hh rfl trivial agg30 rfl hm (by simpa using hbn) hrd rfl ?_)
          clear hl a; intro a hl
          refine wl (wl_val hl rfl trivial (r_indexS hl rfl rfl slc22 (by omega) (by omega) (by first | (simp only [Int.reduceToNat]; rfl) | exact toNat_add1 _ | exact toNat_add2 _ _ | exact toNat_emod _ _ | exact Int.toNat_natCast _ | rfl)) ?_)
          clear hl a; intro a hl
          refine wl (w_storeA hl hh trivial agg30 rfl rfl (by repeat (first | exact find_head | apply find_tail)) (by first | rfl | (simp; done)) (by rw [hjl2]; omega) (by first | rfl | (simp; done)) (by exact app_tc hol hj4 _) ?_)
          clear hh w; intro w hh
          refine w_nil ?_
          have hl2 := hl.add (t := 0) (hl.add (t := 1) (hl.add (t := 2) (hl.add (t := 7) (hl.add (t := 8) (hl.add (t := 20) (hl.add (t := 21) (hl.add (t := 22) (hl.nil) rfl) rfl) rfl) rfl) rfl) rfl) rfl) rfl; clear hl; have hl := hl2; clear hl2
          refine blk_normal ?_
          refine then_normal ?_
          refine c_region ?_
          first | refine wl (wl_val hl rfl trivial (r_add hl rfl rfl (by simp only [Fits]; omega)) ?_) | refine wl (wl_val hl rfl trivial (r_addW hl rfl rfl) ?_)
          clear hl a; intro a hl
          refine wl (wl_val hl rfl trivial (r_move hl rfl) ?_)
          clear hl a; intro a hl
          refine w_nil ?_
          have hl2 := hl.add (t := 0) (hl.add (t := 1) (hl.add (t := 2) (hl.add (t := 7) (hl.add (t := 8) (hl.add (t := 20) (hl.add (t := 21) (hl.add (t := 22) (hl.nil) rfl) rfl) rfl) rfl) rfl) rfl) rfl) rfl; clear hl; have hl := hl2; clear hl2
          refine then_normal ?_
          first | refine ⟨⟨i + 1, nm.set v ny, ny + 1, ou ++ [ny], jo.drop 4⟩, (by simp only; omega), ⟨by simp only; omega, by rw [take_snoc hvv, rdP_snoc, hst, rd1_yes hz (by assumption)], by simp [hol], by simp [hnl], by simp only; omega, by rw [app_len tc_len ou ny jo hj4]; exact hjl2⟩, hl.addE (t := 22) (hl.addE (t := 8) (hl.addE (t := 0) (hl.addE (t := 1) (hl.addE (t := 2) (hl.addE (t := 7) (hl.addE (t := 20) (hl.addE (t := 21) (hl.nil) rfl (by first | rfl | rfl)) rfl (by first | rfl | rfl)) rfl (by first | rfl | rfl)) rfl (by first | rfl | rfl)) rfl (by first | rfl | rfl)) rfl (by first | rfl | rfl)) rfl (by first | rfl | rfl)) rfl (by first | rfl | rfl), hh.keep (by repeat (first | exact keeps_nil | apply keeps_cons (by repeat (first | exact find_head | apply find_tail)) (by first  | rfl) | exact keeps_self | exact keeps_left | exact keeps_right | exact keeps_swap | apply keeps_mv))⟩ | refine ⟨⟨i + 1, nm, ny, ou ++ [z], jo.drop 4⟩, (by simp only; omega), ⟨by simp only; omega, by rw [take_snoc hvv, rdP_snoc, hst, rd1_no hz (by assumption)], by simp [hol], hnl, by simp only; omega, by rw [app_len tc_len ou z jo hj4]; exact hjl2⟩, hl.addE (t := 22) (hl.addE (t := 8) (hl.addE (t := 0) (hl.addE (t := 1) (hl.addE (t := 2) (hl.addE (t := 7) (hl.addE (t := 20) (hl.addE (t := 21) (hl.nil) rfl (by first | rfl | rfl)) rfl (by first | rfl | rfl)) rfl (by first | rfl | rfl)) rfl (by first | rfl | rfl)) rfl (by first | rfl | rfl)) rfl (by first | rfl | rfl)) rfl (by first | rfl | rfl)) rfl (by first | rfl | rfl), hh.keep (by repeat (first | exact keeps_nil | apply keeps_cons (by repeat (first | exact find_head | apply find_tail)) (by first  | rfl) | exact keeps_self | exact keeps_left | exact keeps_right | exact keeps_swap | apply keeps_mv))⟩
        ·
          try clear hM
          refine id (w_load hl hh rfl trivial one3 rfl (by repeat (first | exact find_head | apply find_tail)) (by first | rfl) ?_)
          clear hl a; intro a hl
          have hM : Mem [] w := Mem.nil
          refine d_step (fun _ => hM) ?_
          refine d_one (i := 3) (by kernel_rfl) rfl ?_
          try clear hM
          refine id (w_load hl hh rfl trivial one41 rfl (by repeat (first | exact find_head | apply find_tail)) (by exact hs1) ?_)
          clear hl a; intro a hl
          have hM : Mem [] w := Mem.nil
          refine d_step (fun _ => hM) ?_
          refine d_take (i := 6) hl rfl (by kernel_rfl) (by kernel_rfl) (by kernel_rfl) (by kernel_rfl) (by kernel_rfl) rfl trivial (fun _ _ _ h => h) hM (fun w hC => r_indexS hl rfl rfl slc41 (by omega) (by omega) (by first | (simp only [Int.reduceToNat]; rfl) | exact toNat_add1 _ | exact toNat_add2 _ _ | exact toNat_emod _ _ | exact Int.toNat_natCast _ | rfl)) rfl ?_
          clear hl a; intro a hl
          refine d_one (i := 7) (by kernel_rfl) rfl ?_
          try clear hM
          refine id (w_load hl hh rfl trivial one3 rfl (by repeat (first | exact find_head | apply find_tail)) (by first | exact fl_get1 (f := iI) (g := .int .i64) (fun _ => rfl) hz2 jn | exact fl_get1 (f := iI) (g := .int .i64) (fun _ => rfl) hz jn) ?_)
          clear hl a; intro a hl
          have hM : Mem [] w := Mem.nil
          refine d_step (fun _ => hM) ?_
          refine d_takeL (i := 8) hl rfl (by kernel_rfl) (by kernel_rfl) (by kernel_rfl) (by kernel_rfl) (by kernel_rfl) rfl trivial (fun _ _ _ h => h) (fun w => r_field hl rfl fld30_1) rfl ?_
          clear hl a; intro a hl
          refine d_one (i := 9) (by kernel_rfl) rfl ?_
          try clear hM
          refine id (w_store hl hh trivial one3 rfl rfl (by repeat (first | exact find_head | apply find_tail)) (by first | (simp; done) | (simp; omega)) (by first | rfl | assumption | (apply Row.one; assumption)) (by first | (simp only [setL, List.getElem?_cons_zero, List.getElem?_cons_succ, Value.cells, List.take_zero, List.take_succ_cons, List.take_nil, List.drop_zero, List.drop_succ_cons, List.drop_nil, List.length_cons, List.length_nil, List.cons_append, List.nil_append, List.append_nil, Nat.zero_add, Nat.add_zero, Nat.reduceAdd, Nat.reduceBEq, Nat.reduceEqDiff, Nat.ble, BEq.rfl, Bool.and_true, Bool.and_self, cond_true, beq_self_eq_true]; rfl)) ?_)
          clear hh w; intro w hh
          refine d_step (fun h => absurd h (by decide)) ?_
          refine d_done (by kernel_rfl) ?_
          try clear hM
          have hl2 := hl.add (t := 0) (hl.add (t := 1) (hl.add (t := 2) (hl.add (t := 7) (hl.add (t := 8) (hl.add (t := 9) (hl.add (t := 10) (hl.add (t := 20) (hl.add (t := 21) (hl.add (t := 22) (hl.nil) rfl) rfl) rfl) rfl) rfl) rfl) rfl) rfl) rfl) rfl; clear hl; have hl := hl2; clear hl2
          refine then_normal ?_
          refine c_region ?_
          refine wl (wl_val hl rfl trivial (r_move hl rfl) ?_)
          clear hl a; intro a hl
          refine wl (wl_val hl rfl trivial (r_move hl rfl) ?_)
          clear hl a; intro a hl
          first | refine wl (w_loadA hl hh rfl trivial agg30 rfl (by repeat (first | exact find_head | apply find_tail)) (by first | (simp only [List.getElem?_cons_zero, List.getElem?_cons_succ, Value.cells, List.take_zero, List.take_succ_cons, List.take_nil, List.drop_zero, List.drop_succ_cons, List.drop_nil, List.length_cons, List.length_nil, List.cons_append, List.nil_append, List.append_nil, Nat.zero_add, Nat.add_zero, Nat.reduceAdd, Nat.reduceBEq, Nat.reduceEqDiff, Nat.ble, BEq.rfl, Bool.and_true, Bool.and_self, cond_true, beq_self_eq_true]; rfl)) (by first | rfl | (simp; done)) ?_) | refine wl (w_loadRA hl hh rfl trivial agg30 rfl hm (by simpa using hbn) hrd rfl ?_)
          clear hl a; intro a hl
          refine wl (wl_val hl rfl trivial (r_indexS hl rfl rfl slc22 (by omega) (by omega) (by first | (simp only [Int.reduceToNat]; rfl) | exact toNat_add1 _ | exact toNat_add2 _ _ | exact toNat_emod _ _ | exact Int.toNat_natCast _ | rfl)) ?_)
          clear hl a; intro a hl
          refine wl (w_storeA hl hh trivial agg30 rfl rfl (by repeat (first | exact find_head | apply find_tail)) (by first | rfl | (simp; done)) (by rw [hjl2]; omega) (by first | rfl | (simp; done)) (by exact app_tc hol hj4 _) ?_)
          clear hh w; intro w hh
          refine w_nil ?_
          have hl2 := hl.add (t := 0) (hl.add (t := 1) (hl.add (t := 2) (hl.add (t := 7) (hl.add (t := 8) (hl.add (t := 20) (hl.add (t := 21) (hl.add (t := 22) (hl.nil) rfl) rfl) rfl) rfl) rfl) rfl) rfl) rfl; clear hl; have hl := hl2; clear hl2
          refine blk_normal ?_
          refine then_normal ?_
          refine c_region ?_
          first | refine wl (wl_val hl rfl trivial (r_add hl rfl rfl (by simp only [Fits]; omega)) ?_) | refine wl (wl_val hl rfl trivial (r_addW hl rfl rfl) ?_)
          clear hl a; intro a hl
          refine wl (wl_val hl rfl trivial (r_move hl rfl) ?_)
          clear hl a; intro a hl
          refine w_nil ?_
          have hl2 := hl.add (t := 0) (hl.add (t := 1) (hl.add (t := 2) (hl.add (t := 7) (hl.add (t := 8) (hl.add (t := 20) (hl.add (t := 21) (hl.add (t := 22) (hl.nil) rfl) rfl) rfl) rfl) rfl) rfl) rfl) rfl; clear hl; have hl := hl2; clear hl2
          refine then_normal ?_
          first | refine ⟨⟨i + 1, nm.set v ny, ny + 1, ou ++ [ny], jo.drop 4⟩, (by simp only; omega), ⟨by simp only; omega, by rw [take_snoc hvv, rdP_snoc, hst, rd1_yes hz (by assumption)], by simp [hol], by simp [hnl], by simp only; omega, by rw [app_len tc_len ou ny jo hj4]; exact hjl2⟩, hl.addE (t := 22) (hl.addE (t := 8) (hl.addE (t := 0) (hl.addE (t := 1) (hl.addE (t := 2) (hl.addE (t := 7) (hl.addE (t := 20) (hl.addE (t := 21) (hl.nil) rfl (by first | rfl | rfl)) rfl (by first | rfl | rfl)) rfl (by first | rfl | rfl)) rfl (by first | rfl | rfl)) rfl (by first | rfl | rfl)) rfl (by first | rfl | rfl)) rfl (by first | rfl | rfl)) rfl (by first | rfl | rfl), hh.keep (by repeat (first | exact keeps_nil | apply keeps_cons (by repeat (first | exact find_head | apply find_tail)) (by first  | rfl) | exact keeps_self | exact keeps_left | exact keeps_right | exact keeps_swap | apply keeps_mv))⟩ | refine ⟨⟨i + 1, nm, ny, ou ++ [z], jo.drop 4⟩, (by simp only; omega), ⟨by simp only; omega, by rw [take_snoc hvv, rdP_snoc, hst, rd1_no hz (by assumption)], by simp [hol], hnl, by simp only; omega, by rw [app_len tc_len ou z jo hj4]; exact hjl2⟩, hl.addE (t := 22) (hl.addE (t := 8) (hl.addE (t := 0) (hl.addE (t := 1) (hl.addE (t := 2) (hl.addE (t := 7) (hl.addE (t := 20) (hl.addE (t := 21) (hl.nil) rfl (by first | rfl | rfl)) rfl (by first | rfl | rfl)) rfl (by first | rfl | rfl)) rfl (by first | rfl | rfl)) rfl (by first | rfl | rfl)) rfl (by first | rfl | rfl)) rfl (by first | rfl | rfl)) rfl (by first | rfl | rfl), hh.keep (by repeat (first | exact keeps_nil | apply keeps_cons (by repeat (first | exact find_head | apply find_tail)) (by first  | rfl) | exact keeps_self | exact keeps_left | exact keeps_right | exact keeps_swap | apply keeps_mv))⟩
      · intro hc2
        try simp only [decide_eq_true_eq, decide_eq_false_iff_not, Bool.not_eq_true', Bool.not_eq_false', Bool.not_eq_true, Bool.not_eq_false, Bool.and_eq_true, Bool.or_eq_true, Bool.and_eq_false_iff, Bool.or_eq_false_iff, Bool.not_not, ne_eq, Int.not_lt, Int.not_le, Decidable.not_not, beq_iff_eq, bne_iff_ne] at hc2
        refine wp_skip ?_
        refine then_normal ?_
        refine c_draw [] [8, 9] mixed hh ?_
        clear hh w; intro w hh
        have hM : Mem [] w := Mem.nil
        refine d_take (i := 0) hl rfl (by kernel_rfl) (by kernel_rfl) (by kernel_rfl) (by kernel_rfl) (by kernel_rfl) rfl trivial (fun _ _ _ h => h) hM (fun w hC => r_move hl rfl) rfl ?_
        clear hl a; intro a hl
        refine d_take (i := 1) hl rfl (by kernel_rfl) (by kernel_rfl) (by kernel_rfl) (by kernel_rfl) (by kernel_rfl) rfl trivial (fun _ _ _ h => h) hM (fun w hC => r_nilCheck hl rfl) rfl ?_
        clear hl a; intro a hl
        refine d_take (i := 2) hl rfl (by kernel_rfl) (by kernel_rfl) (by kernel_rfl) (by kernel_rfl) (by kernel_rfl) rfl trivial (fun _ _ _ h => h) hM (fun w hC => r_field hl rfl fld47_1) rfl ?_
        clear hl a; intro a hl
        refine d_take (i := 4) hl rfl (by kernel_rfl) (by kernel_rfl) (by kernel_rfl) (by kernel_rfl) (by kernel_rfl) rfl trivial (fun _ _ _ h => h) hM (fun w hC => r_field hl rfl fld30_1) rfl ?_
        clear hl a; intro a hl
        refine d_two (i := 3) (j := 5) (by kernel_rfl) rfl rfl ?_ ?_
        ·
          try clear hM
          refine id (w_load hl hh rfl trivial one41 rfl (by repeat (first | exact find_head | apply find_tail)) (by exact hs1) ?_)
          clear hl a; intro a hl
          have hM : Mem [] w := Mem.nil
          refine d_step (fun _ => hM) ?_
          refine d_one (i := 5) (by kernel_rfl) rfl ?_
          try clear hM
          refine id (w_load hl hh rfl trivial one3 rfl (by repeat (first | exact find_head | apply find_tail)) (by first | rfl) ?_)
          clear hl a; intro a hl
          have hM : Mem [] w := Mem.nil
          refine d_step (fun _ => hM) ?_
          refine d_take (i := 6) hl rfl (by kernel_rfl) (by kernel_rfl) (by kernel_rfl) (by kernel_rfl) (by kernel_rfl) rfl trivial (fun _ _ _ h => h) hM (fun w hC => r_indexS hl rfl rfl slc41 (by omega) (by omega) (by first | (simp only [Int.reduceToNat]; rfl) | exact toNat_add1 _ | exact toNat_add2 _ _ | exact toNat_emod _ _ | exact Int.toNat_natCast _ | rfl)) rfl ?_
          clear hl a; intro a hl
          refine d_one (i := 7) (by kernel_rfl) rfl ?_
          try clear hM
          refine id (w_load hl hh rfl trivial one3 rfl (by repeat (first | exact find_head | apply find_tail)) (by first | exact fl_get1 (f := iI) (g := .int .i64) (fun _ => rfl) hz2 jn | exact fl_get1 (f := iI) (g := .int .i64) (fun _ => rfl) hz jn) ?_)
          clear hl a; intro a hl
          have hM : Mem [] w := Mem.nil
          refine d_step (fun _ => hM) ?_
          refine d_takeL (i := 8) hl rfl (by kernel_rfl) (by kernel_rfl) (by kernel_rfl) (by kernel_rfl) (by kernel_rfl) rfl trivial (fun _ _ _ h => h) (fun w => r_field hl rfl fld30_1) rfl ?_
          clear hl a; intro a hl
          refine d_one (i := 9) (by kernel_rfl) rfl ?_
          try clear hM
          refine id (w_store hl hh trivial one3 rfl rfl (by repeat (first | exact find_head | apply find_tail)) (by first | (simp; done) | (simp; omega)) (by first | rfl | assumption | (apply Row.one; assumption)) (by first | (simp only [setL, List.getElem?_cons_zero, List.getElem?_cons_succ, Value.cells, List.take_zero, List.take_succ_cons, List.take_nil, List.drop_zero, List.drop_succ_cons, List.drop_nil, List.length_cons, List.length_nil, List.cons_append, List.nil_append, List.append_nil, Nat.zero_add, Nat.add_zero, Nat.reduceAdd, Nat.reduceBEq, Nat.reduceEqDiff, Nat.ble, BEq.rfl, Bool.and_true, Bool.and_self, cond_true, beq_self_eq_true]; rfl)) ?_)
          clear hh w; intro w hh
          refine d_step (fun h => absurd h (by decide)) ?_
          refine d_done (by kernel_rfl) ?_
          try clear hM
          have hl2 := hl.add (t := 0) (hl.add (t := 1) (hl.add (t := 2) (hl.add (t := 7) (hl.add (t := 8) (hl.add (t := 9) (hl.add (t := 10) (hl.add (t := 20) (hl.add (t := 21) (hl.add (t := 22) (hl.nil) rfl) rfl) rfl) rfl) rfl) rfl) rfl) rfl) rfl) rfl; clear hl; have hl := hl2; clear hl2
          refine then_normal ?_
          refine c_region ?_
          refine wl (wl_val hl rfl trivial (r_move hl rfl) ?_)
          clear hl a; intro a hl
          refine wl (wl_val hl rfl trivial (r_move hl rfl) ?_)
          clear hl a; intro a hl
          first | refine wl (w_loadA hl hh rfl trivial agg30 rfl (by repeat (first | exact find_head | apply find_tail)) (by first | (simp only [List.getElem?_cons_zero, List.getElem?_cons_succ, Value.cells, List.take_zero, List.take_succ_cons, List.take_nil, List.drop_zero, List.drop_succ_cons, List.drop_nil, List.length_cons, List.length_nil, List.cons_append, List.nil_append, List.append_nil, Nat.zero_add, Nat.add_zero, Nat.reduceAdd, Nat.reduceBEq, Nat.reduceEqDiff, Nat.ble, BEq.rfl, Bool.and_true, Bool.and_self, cond_true, beq_self_eq_true]; rfl)) (by first | rfl | (simp; done)) ?_) | refine wl (w_loadRA hl hh rfl trivial agg30 rfl hm (by simpa using hbn) hrd rfl ?_)
          clear hl a; intro a hl
          refine wl (wl_val hl rfl trivial (r_indexS hl rfl rfl slc22 (by omega) (by omega) (by first | (simp only [Int.reduceToNat]; rfl) | exact toNat_add1 _ | exact toNat_add2 _ _ | exact toNat_emod _ _ | exact Int.toNat_natCast _ | rfl)) ?_)
          clear hl a; intro a hl
          refine wl (w_storeA hl hh trivial agg30 rfl rfl (by repeat (first | exact find_head | apply find_tail)) (by first | rfl | (simp; done)) (by rw [hjl2]; omega) (by first | rfl | (simp; done)) (by exact app_tc hol hj4 _) ?_)
          clear hh w; intro w hh
          refine w_nil ?_
          have hl2 := hl.add (t := 0) (hl.add (t := 1) (hl.add (t := 2) (hl.add (t := 7) (hl.add (t := 8) (hl.add (t := 20) (hl.add (t := 21) (hl.add (t := 22) (hl.nil) rfl) rfl) rfl) rfl) rfl) rfl) rfl) rfl; clear hl; have hl := hl2; clear hl2
          refine blk_normal ?_
          refine then_normal ?_
          refine c_region ?_
          first | refine wl (wl_val hl rfl trivial (r_add hl rfl rfl (by simp only [Fits]; omega)) ?_) | refine wl (wl_val hl rfl trivial (r_addW hl rfl rfl) ?_)
          clear hl a; intro a hl
          refine wl (wl_val hl rfl trivial (r_move hl rfl) ?_)
          clear hl a; intro a hl
          refine w_nil ?_
          have hl2 := hl.add (t := 0) (hl.add (t := 1) (hl.add (t := 2) (hl.add (t := 7) (hl.add (t := 8) (hl.add (t := 20) (hl.add (t := 21) (hl.add (t := 22) (hl.nil) rfl) rfl) rfl) rfl) rfl) rfl) rfl) rfl; clear hl; have hl := hl2; clear hl2
          refine then_normal ?_
          first | refine ⟨⟨i + 1, nm.set v ny, ny + 1, ou ++ [ny], jo.drop 4⟩, (by simp only; omega), ⟨by simp only; omega, by rw [take_snoc hvv, rdP_snoc, hst, rd1_yes hz (by assumption)], by simp [hol], by simp [hnl], by simp only; omega, by rw [app_len tc_len ou ny jo hj4]; exact hjl2⟩, hl.addE (t := 22) (hl.addE (t := 8) (hl.addE (t := 0) (hl.addE (t := 1) (hl.addE (t := 2) (hl.addE (t := 7) (hl.addE (t := 20) (hl.addE (t := 21) (hl.nil) rfl (by first | rfl | rfl)) rfl (by first | rfl | rfl)) rfl (by first | rfl | rfl)) rfl (by first | rfl | rfl)) rfl (by first | rfl | rfl)) rfl (by first | rfl | rfl)) rfl (by first | rfl | rfl)) rfl (by first | rfl | rfl), hh.keep (by repeat (first | exact keeps_nil | apply keeps_cons (by repeat (first | exact find_head | apply find_tail)) (by first  | rfl) | exact keeps_self | exact keeps_left | exact keeps_right | exact keeps_swap | apply keeps_mv))⟩ | refine ⟨⟨i + 1, nm, ny, ou ++ [z], jo.drop 4⟩, (by simp only; omega), ⟨by simp only; omega, by rw [take_snoc hvv, rdP_snoc, hst, rd1_no hz (by assumption)], by simp [hol], hnl, by simp only; omega, by rw [app_len tc_len ou z jo hj4]; exact hjl2⟩, hl.addE (t := 22) (hl.addE (t := 8) (hl.addE (t := 0) (hl.addE (t := 1) (hl.addE (t := 2) (hl.addE (t := 7) (hl.addE (t := 20) (hl.addE (t := 21) (hl.nil) rfl (by first | rfl | rfl)) rfl (by first | rfl | rfl)) rfl (by first | rfl | rfl)) rfl (by first | rfl | rfl)) rfl (by first | rfl | rfl)) rfl (by first | rfl | rfl)) rfl (by first | rfl | rfl)) rfl (by first | rfl | rfl), hh.keep (by repeat (first | exact keeps_nil | apply keeps_cons (by repeat (first | exact find_head | apply find_tail)) (by first  | rfl) | exact keeps_self | exact keeps_left | exact keeps_right | exact keeps_swap | apply keeps_mv))⟩
        ·
          try clear hM
          refine id (w_load hl hh rfl trivial one3 rfl (by repeat (first | exact find_head | apply find_tail)) (by first | rfl) ?_)
          clear hl a; intro a hl
          have hM : Mem [] w := Mem.nil
          refine d_step (fun _ => hM) ?_
          refine d_one (i := 3) (by kernel_rfl) rfl ?_
          try clear hM
          refine id (w_load hl hh rfl trivial one41 rfl (by repeat (first | exact find_head | apply find_tail)) (by exact hs1) ?_)
          clear hl a; intro a hl
          have hM : Mem [] w := Mem.nil
          refine d_step (fun _ => hM) ?_
          refine d_take (i := 6) hl rfl (by kernel_rfl) (by kernel_rfl) (by kernel_rfl) (by kernel_rfl) (by kernel_rfl) rfl trivial (fun _ _ _ h => h) hM (fun w hC => r_indexS hl rfl rfl slc41 (by omega) (by omega) (by first | (simp only [Int.reduceToNat]; rfl) | exact toNat_add1 _ | exact toNat_add2 _ _ | exact toNat_emod _ _ | exact Int.toNat_natCast _ | rfl)) rfl ?_
          clear hl a; intro a hl
          refine d_one (i := 7) (by kernel_rfl) rfl ?_
          try clear hM
          refine id (w_load hl hh rfl trivial one3 rfl (by repeat (first | exact find_head | apply find_tail)) (by first | exact fl_get1 (f := iI) (g := .int .i64) (fun _ => rfl) hz2 jn | exact fl_get1 (f := iI) (g := .int .i64) (fun _ => rfl) hz jn) ?_)
          clear hl a; intro a hl
          have hM : Mem [] w := Mem.nil
          refine d_step (fun _ => hM) ?_
          refine d_takeL (i := 8) hl rfl (by kernel_rfl) (by kernel_rfl) (by kernel_rfl) (by kernel_rfl) (by kernel_rfl) rfl trivial (fun _ _ _ h => h) (fun w => r_field hl rfl fld30_1) rfl ?_
          clear hl a; intro a hl
          refine d_one (i := 9) (by kernel_rfl) rfl ?_
          try clear hM
          refine id (w_store hl hh trivial one3 rfl rfl (by repeat (first | exact find_head | apply find_tail)) (by first | (simp; done) | (simp; omega)) (by first | rfl | assumption | (apply Row.one; assumption)) (by first | (simp only [setL, List.getElem?_cons_zero, List.getElem?_cons_succ, Value.cells, List.take_zero, List.take_succ_cons, List.take_nil, List.drop_zero, List.drop_succ_cons, List.drop_nil, List.length_cons, List.length_nil, List.cons_append, List.nil_append, List.append_nil, Nat.zero_add, Nat.add_zero, Nat.reduceAdd, Nat.reduceBEq, Nat.reduceEqDiff, Nat.ble, BEq.rfl, Bool.and_true, Bool.and_self, cond_true, beq_self_eq_true]; rfl)) ?_)
          clear hh w; intro w hh
          refine d_step (fun h => absurd h (by decide)) ?_
          refine d_done (by kernel_rfl) ?_
          try clear hM
          have hl2 := hl.add (t := 0) (hl.add (t := 1) (hl.add (t := 2) (hl.add (t := 7) (hl.add (t := 8) (hl.add (t := 9) (hl.add (t := 10) (hl.add (t := 20) (hl.add (t := 21) (hl.add (t := 22) (hl.nil) rfl) rfl) rfl) rfl) rfl) rfl) rfl) rfl) rfl) rfl; clear hl; have hl := hl2; clear hl2
          refine then_normal ?_
          refine c_region ?_
          refine wl (wl_val hl rfl trivial (r_move hl rfl) ?_)
          clear hl a; intro a hl
          refine wl (wl_val hl rfl trivial (r_move hl rfl) ?_)
          clear hl a; intro a hl
          first | refine wl (w_loadA hl hh rfl trivial agg30 rfl (by repeat (first | exact find_head | apply find_tail)) (by first | (simp only [List.getElem?_cons_zero, List.getElem?_cons_succ, Value.cells, List.take_zero, List.take_succ_cons, List.take_nil, List.drop_zero, List.drop_succ_cons, List.drop_nil, List.length_cons, List.length_nil, List.cons_append, List.nil_append, List.append_nil, Nat.zero_add, Nat.add_zero, Nat.reduceAdd, Nat.reduceBEq, Nat.reduceEqDiff, Nat.ble, BEq.rfl, Bool.and_true, Bool.and_self, cond_true, beq_self_eq_true]; rfl)) (by first | rfl | (simp; done)) ?_) | refine wl (w_loadRA hl hh rfl trivial agg30 rfl hm (by simpa using hbn) hrd rfl ?_)
          clear hl a; intro a hl
          refine wl (wl_val hl rfl trivial (r_indexS hl rfl rfl slc22 (by omega) (by omega) (by first | (simp only [Int.reduceToNat]; rfl) | exact toNat_add1 _ | exact toNat_add2 _ _ | exact toNat_emod _ _ | exact Int.toNat_natCast _ | rfl)) ?_)
          clear hl a; intro a hl
          refine wl (w_storeA hl hh trivial agg30 rfl rfl (by repeat (first | exact find_head | apply find_tail)) (by first | rfl | (simp; done)) (by rw [hjl2]; omega) (by first | rfl | (simp; done)) (by exact app_tc hol hj4 _) ?_)
          clear hh w; intro w hh
          refine w_nil ?_
          have hl2 := hl.add (t := 0) (hl.add (t := 1) (hl.add (t := 2) (hl.add (t := 7) (hl.add (t := 8) (hl.add (t := 20) (hl.add (t := 21) (hl.add (t := 22) (hl.nil) rfl) rfl) rfl) rfl) rfl) rfl) rfl) rfl; clear hl; have hl := hl2; clear hl2
          refine blk_normal ?_
          refine then_normal ?_
          refine c_region ?_
          first | refine wl (wl_val hl rfl trivial (r_add hl rfl rfl (by simp only [Fits]; omega)) ?_) | refine wl (wl_val hl rfl trivial (r_addW hl rfl rfl) ?_)
          clear hl a; intro a hl
          refine wl (wl_val hl rfl trivial (r_move hl rfl) ?_)
          clear hl a; intro a hl
          refine w_nil ?_
          have hl2 := hl.add (t := 0) (hl.add (t := 1) (hl.add (t := 2) (hl.add (t := 7) (hl.add (t := 8) (hl.add (t := 20) (hl.add (t := 21) (hl.add (t := 22) (hl.nil) rfl) rfl) rfl) rfl) rfl) rfl) rfl) rfl; clear hl; have hl := hl2; clear hl2
          refine then_normal ?_
          first | refine ⟨⟨i + 1, nm.set v ny, ny + 1, ou ++ [ny], jo.drop 4⟩, (by simp only; omega), ⟨by simp only; omega, by rw [take_snoc hvv, rdP_snoc, hst, rd1_yes hz (by assumption)], by simp [hol], by simp [hnl], by simp only; omega, by rw [app_len tc_len ou ny jo hj4]; exact hjl2⟩, hl.addE (t := 22) (hl.addE (t := 8) (hl.addE (t := 0) (hl.addE (t := 1) (hl.addE (t := 2) (hl.addE (t := 7) (hl.addE (t := 20) (hl.addE (t := 21) (hl.nil) rfl (by first | rfl | rfl)) rfl (by first | rfl | rfl)) rfl (by first | rfl | rfl)) rfl (by first | rfl | rfl)) rfl (by first | rfl | rfl)) rfl (by first | rfl | rfl)) rfl (by first | rfl | rfl)) rfl (by first | rfl | rfl), hh.keep (by repeat (first | exact keeps_nil | apply keeps_cons (by repeat (first | exact find_head | apply find_tail)) (by first  | rfl) | exact keeps_self | exact keeps_left | exact keeps_right | exact keeps_swap | apply keeps_mv))⟩ | refine ⟨⟨i + 1, nm, ny, ou ++ [z], jo.drop 4⟩, (by simp only; omega), ⟨by simp only; omega, by rw [take_snoc hvv, rdP_snoc, hst, rd1_no hz (by assumption)], by simp [hol], hnl, by simp only; omega, by rw [app_len tc_len ou z jo hj4]; exact hjl2⟩, hl.addE (t := 22) (hl.addE (t := 8) (hl.addE (t := 0) (hl.addE (t := 1) (hl.addE (t := 2) (hl.addE (t := 7) (hl.addE (t := 20) (hl.addE (t := 21) (hl.nil) rfl (by first | rfl | rfl)) rfl (by first | rfl | rfl)) rfl (by first | rfl | rfl)) rfl (by first | rfl | rfl)) rfl (by first | rfl | rfl)) rfl (by first | rfl | rfl)) rfl (by first | rfl | rfl)) rfl (by first | rfl | rfl), hh.keep (by repeat (first | exact keeps_nil | apply keeps_cons (by repeat (first | exact find_head | apply find_tail)) (by first  | rfl) | exact keeps_self | exact keeps_left | exact keeps_right | exact keeps_swap | apply keeps_mv))⟩
    · intro hc1
      try simp only [decide_eq_true_eq, decide_eq_false_iff_not, Bool.not_eq_true', Bool.not_eq_false', Bool.not_eq_true, Bool.not_eq_false, Bool.and_eq_true, Bool.or_eq_true, Bool.and_eq_false_iff, Bool.or_eq_false_iff, Bool.not_not, ne_eq, Int.not_lt, Int.not_le, Decidable.not_not, beq_iff_eq, bne_iff_ne] at hc1
      exfalso; first | contradiction | omega
  · intro hc0
    try simp only [decide_eq_true_eq, decide_eq_false_iff_not, Bool.not_eq_true', Bool.not_eq_false', Bool.not_eq_true, Bool.not_eq_false, Bool.and_eq_true, Bool.or_eq_true, Bool.and_eq_false_iff, Bool.or_eq_false_iff, Bool.not_not, ne_eq, Int.not_lt, Int.not_le, Decidable.not_not, beq_iff_eq, bne_iff_ne] at hc0
    have hit : i = ts.length := by omega
    rw [hit, List.take_length] at hst
    have hRd := rd_facts hst hv hnum
    refine wp_exit ?_
    refine then_exit ?_
    refine then_exit ?_
    refine blk_exit ?_
    refine then_normal ?_
    refine c_seq ?_
    refine c_seq ?_
    refine c_region ?_
    refine wl (wl_val hl rfl trivial (r_move hl rfl) ?_)
    clear hl a; intro a hl
    refine w_nil ?_
    have hl2 := hl.add (t := 0) (hl.add (t := 1) (hl.add (t := 7) (hl.add (t := 8) (hl.add (t := 63) (hl.nil) rfl) rfl) rfl) rfl) rfl; clear hl; have hl := hl2; clear hl2
    refine then_normal ?_
    refine c_cond hl rfl ?_ ?_
    · intro hc3
      try simp only [decide_eq_true_eq, decide_eq_false_iff_not, Bool.not_eq_true', Bool.not_eq_false', Bool.not_eq_true, Bool.not_eq_false, Bool.and_eq_true, Bool.or_eq_true, Bool.and_eq_false_iff, Bool.or_eq_false_iff, Bool.not_not, ne_eq, Int.not_lt, Int.not_le, Decidable.not_not, beq_iff_eq, bne_iff_ne] at hc3
      exfalso; first | contradiction | omega
    · intro hc3
      try simp only [decide_eq_true_eq, decide_eq_false_iff_not, Bool.not_eq_true', Bool.not_eq_false', Bool.not_eq_true, Bool.not_eq_false, Bool.and_eq_true, Bool.or_eq_true, Bool.and_eq_false_iff, Bool.or_eq_false_iff, Bool.not_not, ne_eq, Int.not_lt, Int.not_le, Decidable.not_not, beq_iff_eq, bne_iff_ne] at hc3
      refine wp_skip ?_
      refine then_normal ?_
      refine c_seq ?_
      refine c_seq ?_
      refine c_region ?_
      refine wl (wl_val hl rfl trivial (r_move hl rfl) ?_)
      clear hl a; intro a hl
      refine wl (wl_val hl rfl trivial (r_lenS hl rfl slc22) ?_)
      clear hl a; intro a hl
      refine wl (wl_val hl rfl trivial (r_move hl rfl) ?_)
      clear hl a; intro a hl
      refine w_nil ?_
      have hl2 := hl.add (t := 1) (hl.add (t := 7) (hl.add (t := 69) (hl.add (t := 70) (hl.add (t := 71) (hl.nil) rfl) rfl) rfl) rfl) rfl; clear hl; have hl := hl2; clear hl2
      refine then_normal ?_
      refine wp_block ?_
      obtain ⟨KS1, hKS1, hk⟩ := (hl.add (t := 1) (hl.add (t := 7) (hl.add (t := 69) (hl.add (t := 70) (hl.nil) rfl) rfl) rfl) rfl).name
      obtain ⟨HS1, hHS1, hh2⟩ := hh.name (keeps_cons (b := fb) (by repeat (first | exact find_head | apply find_tail)) (by first | rfl) (keeps_cons (b := nb) (o' := C (fl iI nm ++ jn) 3) (by repeat (first | exact find_head | apply find_tail)) (by first | rfl) (keeps_cons (b := k15) (by repeat (first | exact find_head | apply find_tail)) (by first | rfl) (keeps_nil))))
      refine c_loop (α := Nat × List Int) (fun s => ts.length - s.1) (fun s a w => (s.1 ≤ ts.length ∧ Unr num ts s.1 nm s.2) ∧ Sl 102 ([(71, .int .i64 (s.1 : Int))] ++ KS1) a ∧ Has _ w0 ([(fb, C fc T), (nb, C (fl iI s.2 ++ jn) 3), (k15, C (fl tc ou ++ jo) 30)] ++ HS1) w) (0, nm) ⟨⟨Nat.zero_le _, Unr.start⟩, hl.addE (t := 71) (hk) rfl (by first | rfl), hh2⟩ ?_
      clear hk hh2 hl hh a w
      intro s a w hI
      obtain ⟨⟨hi9, hU⟩, hl, hh⟩ := hI
      subst hKS1; subst hHS1
      simp only [List.cons_append, List.nil_append, List.append_nil] at hl hh
      obtain ⟨i, nm⟩ := s
      simp only at hi9 hU hl hh
      refine c_seq ?_
      refine c_region ?_
      refine wl (wl_val hl rfl trivial (r_lss hl rfl rfl) ?_)
      clear hl a; intro a hl
      refine w_nil ?_
      have hl2 := hl.add (t := 1) (hl.add (t := 7) (hl.add (t := 69) (hl.add (t := 70) (hl.add (t := 71) (hl.add (t := 72) (hl.nil) rfl) rfl) rfl) rfl) rfl) rfl; clear hl; have hl := hl2; clear hl2
      refine then_normal ?_
      refine c_seq ?_
      refine c_cond hl rfl ?_ ?_
      · intro hc4
        try simp only [decide_eq_true_eq, decide_eq_false_iff_not, Bool.not_eq_true', Bool.not_eq_false', Bool.not_eq_true, Bool.not_eq_false, Bool.and_eq_true, Bool.or_eq_true, Bool.and_eq_false_iff, Bool.or_eq_false_iff, Bool.not_not, ne_eq, Int.not_lt, Int.not_le, Decidable.not_not, beq_iff_eq, bne_iff_ne] at hc4
        obtain ⟨v, hvv⟩ : ∃ v, ts[i]? = some v := ⟨_, List.getElem?_eq_getElem (by omega)⟩
        have hvi : (ts.map fun (v : Nat) => (v : Int))[i]? = some (v : Int) := by rw [List.getElem?_map, hvv]; rfl
        obtain ⟨b, junk, rfl, hjl, hjc, rfl⟩ := row_pos hT (by omega)
        have hbn := hne _ (List.mem_singleton.2 rfl)
        have hm : w0.heap[b]? = some (C (fl tc (ts.map fun (v : Nat) => (v : Int)) ++ junk) 30) := hpre _ _ (List.mem_singleton.2 rfl)
        have hrd := fl_at tc_len hvi junk
        simp only [tc] at hrd
        have hvl := hv v (List.mem_of_getElem? hvv)
        have hUl := hU.len
        obtain ⟨z, hz⟩ : ∃ z, nm[v]? = some z := ⟨_, List.getElem?_eq_getElem (by omega)⟩
        refine wp_skip ?_
        refine then_normal ?_
        refine c_seq ?_
        refine wp_block ?_
        refine c_seq ?_
        refine c_region ?_
        refine wl (wl_val hl rfl trivial (r_indexS hl rfl rfl slc22 (by omega) (by omega) (by first | (simp only [Int.reduceToNat]; rfl) | exact toNat_add1 _ | exact toNat_add2 _ _ | exact toNat_emod _ _ | exact Int.toNat_natCast _ | rfl)) ?_)
        clear hl a; intro a hl
        first | refine wl (w_loadA hl hh rfl trivial agg30 rfl (by repeat (first | exact find_head | apply find_tail)) (by first | (simp only [List.getElem?_cons_zero, List.getElem?_cons_succ, Value.cells, List.take_zero, List.take_succ_cons, List.take_nil, List.drop_zero, List.drop_succ_cons, List.drop_nil, List.length_cons, List.length_nil, List.cons_append, List.nil_append, List.append_nil, Nat.zero_add, Nat.add_zero, Nat.reduceAdd, Nat.reduceBEq, Nat.reduceEqDiff, Nat.ble, BEq.rfl, Bool.and_true, Bool.and_self, cond_true, beq_self_eq_true]; rfl)) (by first | rfl | (simp; done)) ?_) | refine wl (w_loadRA hl hh rfl trivial agg30 rfl hm (by simpa using hbn) hrd rfl ?_)
        clear hl a; intro a hl
        refine wl (w_alloc hl hh rfl trivial zero30 rfl ?_)
        clear hl hh a w; intro k12 a w hl hh
        refine wl (w_storeA hl hh trivial agg30 rfl rfl (by repeat (first | exact find_head | apply find_tail)) (by first | rfl | (simp; done)) (by first | (simp; done) | (simp; omega)) (by first | rfl | (simp; done)) (by first | (simp only [setL, List.getElem?_cons_zero, List.getElem?_cons_succ, Value.cells, List.take_zero, List.take_succ_cons, List.take_nil, List.drop_zero, List.drop_succ_cons, List.drop_nil, List.length_cons, List.length_nil, List.cons_append, List.nil_append, List.append_nil, Nat.zero_add, Nat.add_zero, Nat.reduceAdd, Nat.reduceBEq, Nat.reduceEqDiff, Nat.ble, BEq.rfl, Bool.and_true, Bool.and_self, cond_true, beq_self_eq_true]; rfl)) ?_)
        clear hh w; intro w hh
        refine w_nil ?_
        have hl2 := hl.add (t := 1) (hl.add (t := 7) (hl.add (t := 12) (hl.add (t := 69) (hl.add (t := 70) (hl.add (t := 71) (hl.nil) rfl) rfl) rfl) rfl) rfl) rfl; clear hl; have hl := hl2; clear hl2
        refine then_normal ?_
        refine c_seq ?_
        refine c_draw [(fb, C fc T), (nb, C (fl iI (nm) ++ jn) 3), (k12, C [.int .u8 0, .int .i64 (v : Int), .int .i64 0, .string ⟨#[]⟩] 30)] [16, 17] mixed hh ?_
        clear hh w; intro w hh
        have hM : Mem [(fb, C fc T), (nb, C (fl iI (nm) ++ jn) 3), (k12, C [.int .u8 0, .int .i64 (v : Int), .int .i64 0, .string ⟨#[]⟩] 30)] w := (by repeat (first | exact Mem.nil | refine Mem.cons hh.mem (by repeat (first | exact find_head | apply find_tail)) ?_ | refine Mem.consR hh (by assumption) (by simp) ?_))
        refine d_take (i := 0) hl rfl (by kernel_rfl) (by kernel_rfl) (by kernel_rfl) (by kernel_rfl) (by kernel_rfl) rfl trivial (fun _ _ _ h => h) hM (fun w hC => r_field hl rfl fld30_0) rfl ?_
        clear hl a; intro a hl
        refine d_take (i := 1) hl rfl (by kernel_rfl) (by kernel_rfl) (by kernel_rfl) (by kernel_rfl) (by kernel_rfl) rfl trivial (fun _ _ _ h => h) hM (fun w hC => r_loadC hl rfl one28 hC (by repeat (first | exact find_head | apply find_tail)) (by first | rfl)) rfl ?_
        clear hl a; intro a hl
        refine d_take (i := 2) hl rfl (by kernel_rfl) (by kernel_rfl) (by kernel_rfl) (by kernel_rfl) (by kernel_rfl) rfl trivial (fun _ _ _ h => h) hM (fun w hC => r_eql hl rfl rfl) rfl ?_
        clear hl a; intro a hl
        refine d_take (i := 3) hl rfl (by kernel_rfl) (by kernel_rfl) (by kernel_rfl) (by kernel_rfl) (by kernel_rfl) rfl trivial (fun _ _ _ h => h) hM (fun w hC => r_move hl rfl) rfl ?_
        clear hl a; intro a hl
        refine sl_split (t := 78) hl rfl ?_ ?_
        · intro hg1; clear hl; intro hl
          try simp only [decide_eq_true_eq, decide_eq_false_iff_not, Bool.not_eq_true', Bool.not_eq_false', Bool.not_eq_true, Bool.not_eq_false, Bool.and_eq_true, Bool.or_eq_true, Bool.and_eq_false_iff, Bool.or_eq_false_iff, Bool.not_not, ne_eq, Int.not_lt, Int.not_le, Decidable.not_not, beq_iff_eq, bne_iff_ne] at hg1
          refine d_take (i := 4) hl rfl (by kernel_rfl) (by kernel_rfl) (by kernel_rfl) (by kernel_rfl) (by kernel_rfl) rfl ⟨_, _, rfl, rfl, rfl⟩ (fun _ _ _ h => h) hM (fun w hC => r_move hl rfl) rfl ?_
          clear hl a; intro a hl
          refine d_take (i := 5) hl rfl (by kernel_rfl) (by kernel_rfl) (by kernel_rfl) (by kernel_rfl) (by kernel_rfl) rfl ⟨_, _, rfl, rfl, rfl⟩ (fun _ _ _ h => h) hM (fun w hC => r_nilCheck hl rfl) rfl ?_
          clear hl a; intro a hl
          refine d_take (i := 6) hl rfl (by kernel_rfl) (by kernel_rfl) (by kernel_rfl) (by kernel_rfl) (by kernel_rfl) rfl ⟨_, _, rfl, rfl, rfl⟩ (fun _ _ _ h => h) hM (fun w hC => r_field hl rfl fld47_1) rfl ?_
          clear hl a; intro a hl
          refine d_take (i := 7) hl rfl (by kernel_rfl) (by kernel_rfl) (by kernel_rfl) (by kernel_rfl) (by kernel_rfl) rfl ⟨_, _, rfl, rfl, rfl⟩ (fun _ _ _ h => h) hM (fun w hC => r_loadC hl rfl one41 hC (by repeat (first | exact find_head | apply find_tail)) (by exact hs1)) rfl ?_
          clear hl a; intro a hl
          refine d_take (i := 8) hl rfl (by kernel_rfl) (by kernel_rfl) (by kernel_rfl) (by kernel_rfl) (by kernel_rfl) rfl ⟨_, _, rfl, rfl, rfl⟩ (fun _ _ _ h => h) hM (fun w hC => r_field hl rfl fld30_1) rfl ?_
          clear hl a; intro a hl
          refine d_take (i := 9) hl rfl (by kernel_rfl) (by kernel_rfl) (by kernel_rfl) (by kernel_rfl) (by kernel_rfl) rfl ⟨_, _, rfl, rfl, rfl⟩ (fun _ _ _ h => h) hM (fun w hC => r_loadC hl rfl one3 hC (by repeat (first | exact find_head | apply find_tail)) (by first | rfl)) rfl ?_
          clear hl a; intro a hl
          refine d_take (i := 10) hl rfl (by kernel_rfl) (by kernel_rfl) (by kernel_rfl) (by kernel_rfl) (by kernel_rfl) rfl ⟨_, _, rfl, rfl, rfl⟩ (fun _ _ _ h => h) hM (fun w hC => r_indexS hl rfl rfl slc41 (by omega) (by omega) (by first | (simp only [Int.reduceToNat]; rfl) | exact toNat_add1 _ | exact toNat_add2 _ _ | exact toNat_emod _ _ | exact Int.toNat_natCast _ | rfl)) rfl ?_
          clear hl a; intro a hl
          refine d_take (i := 11) hl rfl (by kernel_rfl) (by kernel_rfl) (by kernel_rfl) (by kernel_rfl) (by kernel_rfl) rfl ⟨_, _, rfl, rfl, rfl⟩ (fun _ _ _ h => h) hM (fun w hC => r_loadC hl rfl one3 hC (by repeat (first | exact find_head | apply find_tail)) (by first | exact fl_get1 (f := iI) (g := .int .i64) (fun _ => rfl) hz2 jn | exact fl_get1 (f := iI) (g := .int .i64) (fun _ => rfl) hz jn)) rfl ?_
          clear hl a; intro a hl
          refine d_take (i := 12) hl rfl (by kernel_rfl) (by kernel_rfl) (by kernel_rfl) (by kernel_rfl) (by kernel_rfl) rfl ⟨_, _, rfl, rfl, rfl⟩ (fun _ _ _ h => h) hM (fun w hC => r_move hl rfl) rfl ?_
          clear hl a; intro a hl
          refine d_take (i := 13) hl rfl (by kernel_rfl) (by kernel_rfl) (by kernel_rfl) (by kernel_rfl) (by kernel_rfl) rfl ⟨_, _, rfl, rfl, rfl⟩ (fun _ _ _ h => h) hM (fun w hC => r_nilCheck hl rfl) rfl ?_
          clear hl a; intro a hl
          refine d_take (i := 14) hl rfl (by kernel_rfl) (by kernel_rfl) (by kernel_rfl) (by kernel_rfl) (by kernel_rfl) rfl ⟨_, _, rfl, rfl, rfl⟩ (fun _ _ _ h => h) hM (fun w hC => r_field hl rfl fld47_2) rfl ?_
          clear hl a; intro a hl
          refine d_take (i := 15) hl rfl (by kernel_rfl) (by kernel_rfl) (by kernel_rfl) (by kernel_rfl) (by kernel_rfl) rfl ⟨_, _, rfl, rfl, rfl⟩ (fun _ _ _ h => h) hM (fun w hC => r_loadC hl rfl one3 hC (by repeat (first | exact find_head | apply find_tail)) (by exact hs2)) rfl ?_
          clear hl a; intro a hl
          refine d_takeL (i := 16) hl rfl (by kernel_rfl) (by kernel_rfl) (by kernel_rfl) (by kernel_rfl) (by kernel_rfl) rfl ⟨_, _, rfl, rfl, rfl⟩ (fun _ _ _ h => h) (fun w => r_geq hl rfl rfl) rfl ?_
          clear hl a; intro a hl
          refine d_takeL (i := 17) hl rfl (by kernel_rfl) (by kernel_rfl) (by kernel_rfl) (by kernel_rfl) (by kernel_rfl) rfl trivial (fun _ _ _ h => h) (fun w => r_pickT hl rfl rfl) rfl ?_
          clear hl a; intro a hl
          refine d_done (by kernel_rfl) ?_
          try clear hM
          have hl2 := hl.add (t := 1) (hl.add (t := 7) (hl.add (t := 12) (hl.add (t := 69) (hl.add (t := 70) (hl.add (t := 71) (hl.add (t := 92) (hl.nil) rfl) rfl) rfl) rfl) rfl) rfl) rfl; clear hl; have hl := hl2; clear hl2
          refine then_normal ?_
          refine c_cond hl rfl ?_ ?_
          · intro hc5
            try simp only [decide_eq_true_eq, decide_eq_false_iff_not, Bool.not_eq_true', Bool.not_eq_false', Bool.not_eq_true, Bool.not_eq_false, Bool.and_eq_true, Bool.or_eq_true, Bool.and_eq_false_iff, Bool.or_eq_false_iff, Bool.not_not, ne_eq, Int.not_lt, Int.not_le, Decidable.not_not, beq_iff_eq, bne_iff_ne] at hc5
            refine c_draw [(fb, C fc T), (k12, C [.int .u8 0, .int .i64 (v : Int), .int .i64 0, .string ⟨#[]⟩] 30)] [6, 7] mixed hh ?_
            clear hh w; intro w hh
            have hM : Mem [(fb, C fc T), (k12, C [.int .u8 0, .int .i64 (v : Int), .int .i64 0, .string ⟨#[]⟩] 30)] w := (by repeat (first | exact Mem.nil | refine Mem.cons hh.mem (by repeat (first | exact find_head | apply find_tail)) ?_ | refine Mem.consR hh (by assumption) (by simp) ?_))
            refine d_take (i := 0) hl rfl (by kernel_rfl) (by kernel_rfl) (by kernel_rfl) (by kernel_rfl) (by kernel_rfl) rfl trivial (fun _ _ _ h => h) hM (fun w hC => r_move hl rfl) rfl ?_
            clear hl a; intro a hl
            refine d_take (i := 1) hl rfl (by kernel_rfl) (by kernel_rfl) (by kernel_rfl) (by kernel_rfl) (by kernel_rfl) rfl trivial (fun _ _ _ h => h) hM (fun w hC => r_nilCheck hl rfl) rfl ?_
            clear hl a; intro a hl
            refine d_take (i := 2) hl rfl (by kernel_rfl) (by kernel_rfl) (by kernel_rfl) (by kernel_rfl) (by kernel_rfl) rfl trivial (fun _ _ _ h => h) hM (fun w hC => r_field hl rfl fld47_1) rfl ?_
            clear hl a; intro a hl
            refine d_take (i := 3) hl rfl (by kernel_rfl) (by kernel_rfl) (by kernel_rfl) (by kernel_rfl) (by kernel_rfl) rfl trivial (fun _ _ _ h => h) hM (fun w hC => r_loadC hl rfl one41 hC (by repeat (first | exact find_head | apply find_tail)) (by exact hs1)) rfl ?_
            clear hl a; intro a hl
            refine d_take (i := 4) hl rfl (by kernel_rfl) (by kernel_rfl) (by kernel_rfl) (by kernel_rfl) (by kernel_rfl) rfl trivial (fun _ _ _ h => h) hM (fun w hC => r_field hl rfl fld30_1) rfl ?_
            clear hl a; intro a hl
            refine d_take (i := 5) hl rfl (by kernel_rfl) (by kernel_rfl) (by kernel_rfl) (by kernel_rfl) (by kernel_rfl) rfl trivial (fun _ _ _ h => h) hM (fun w hC => r_loadC hl rfl one3 hC (by repeat (first | exact find_head | apply find_tail)) (by first | rfl)) rfl ?_
            clear hl a; intro a hl
            refine d_takeL (i := 6) hl rfl (by kernel_rfl) (by kernel_rfl) (by kernel_rfl) (by kernel_rfl) (by kernel_rfl) rfl trivial (fun _ _ _ h => h) (fun w => r_indexS hl rfl rfl slc41 (by omega) (by omega) (by first | (simp only [Int.reduceToNat]; rfl) | exact toNat_add1 _ | exact toNat_add2 _ _ | exact toNat_emod _ _ | exact Int.toNat_natCast _ | rfl)) rfl ?_
            clear hl a; intro a hl
            refine d_one (i := 7) (by kernel_rfl) rfl ?_
            try clear hM
            refine id (w_store hl hh trivial one3 rfl rfl (by repeat (first | exact find_head | apply find_tail)) (by rw [List.length_append, fl_len iI_len]; omega) (by first | rfl | assumption | (apply Row.one; assumption)) (by exact fl_set iI_len nm _ jn v (by omega)) ?_)
            clear hh w; intro w hh
            refine d_step (fun h => absurd h (by decide)) ?_
            refine d_done (by kernel_rfl) ?_
            try clear hM
            have hl2 := hl.add (t := 1) (hl.add (t := 7) (hl.add (t := 69) (hl.add (t := 70) (hl.add (t := 71) (hl.nil) rfl) rfl) rfl) rfl) rfl; clear hl; have hl := hl2; clear hl2
            refine blk_normal ?_
            refine then_normal ?_
            refine c_region ?_
            first | refine wl (wl_val hl rfl trivial (r_add hl rfl rfl (by simp only [Fits]; omega)) ?_) | refine wl (wl_val hl rfl trivial (r_addW hl rfl rfl) ?_)
            clear hl a; intro a hl
            refine wl (wl_val hl rfl trivial (r_move hl rfl) ?_)
            clear hl a; intro a hl
            refine w_nil ?_
            have hl2 := hl.add (t := 1) (hl.add (t := 7) (hl.add (t := 69) (hl.add (t := 70) (hl.add (t := 71) (hl.nil) rfl) rfl) rfl) rfl) rfl; clear hl; have hl := hl2; clear hl2
            refine then_normal ?_
            first | refine ⟨(i + 1, nm.set v (-1)), (by simp only; omega), ⟨by simp only; omega, hU.yes hRd hvv hz (by omega)⟩, hl.addE (t := 71) (hl.addE (t := 1) (hl.addE (t := 7) (hl.addE (t := 69) (hl.addE (t := 70) (hl.nil) rfl (by first | rfl | rfl)) rfl (by first | rfl | rfl)) rfl (by first | rfl | rfl)) rfl (by first | rfl | rfl)) rfl (by first | rfl | rfl), hh.keep (by repeat (first | exact keeps_nil | apply keeps_cons (by repeat (first | exact find_head | apply find_tail)) (by first  | rfl) | exact keeps_self | exact keeps_left | exact keeps_right | exact keeps_swap | apply keeps_mv))⟩ | refine ⟨(i + 1, nm), (by simp only; omega), ⟨by simp only; omega, hU.no hRd hvv hz (by omega)⟩, hl.addE (t := 71) (hl.addE (t := 1) (hl.addE (t := 7) (hl.addE (t := 69) (hl.addE (t := 70) (hl.nil) rfl (by first | rfl | rfl)) rfl (by first | rfl | rfl)) rfl (by first | rfl | rfl)) rfl (by first | rfl | rfl)) rfl (by first | rfl | rfl), hh.keep (by repeat (first | exact keeps_nil | apply keeps_cons (by repeat (first | exact find_head | apply find_tail)) (by first  | rfl) | exact keeps_self | exact keeps_left | exact keeps_right | exact keeps_swap | apply keeps_mv))⟩
          · intro hc5
            try simp only [decide_eq_true_eq, decide_eq_false_iff_not, Bool.not_eq_true', Bool.not_eq_false', Bool.not_eq_true, Bool.not_eq_false, Bool.and_eq_true, Bool.or_eq_true, Bool.and_eq_false_iff, Bool.or_eq_false_iff, Bool.not_not, ne_eq, Int.not_lt, Int.not_le, Decidable.not_not, beq_iff_eq, bne_iff_ne] at hc5
            refine wp_skip ?_
            refine blk_normal ?_
            refine then_normal ?_
            refine c_region ?_
            first | refine wl (wl_val hl rfl trivial (r_add hl rfl rfl (by simp only [Fits]; omega)) ?_) | refine wl (wl_val hl rfl trivial (r_addW hl rfl rfl) ?_)
            clear hl a; intro a hl
            refine wl (wl_val hl rfl trivial (r_move hl rfl) ?_)
            clear hl a; intro a hl
            refine w_nil ?_
            have hl2 := hl.add (t := 1) (hl.add (t := 7) (hl.add (t := 69) (hl.add (t := 70) (hl.add (t := 71) (hl.nil) rfl) rfl) rfl) rfl) rfl; clear hl; have hl := hl2; clear hl2
            refine then_normal ?_
            first | refine ⟨(i + 1, nm.set v (-1)), (by simp only; omega), ⟨by simp only; omega, hU.yes hRd hvv hz (by omega)⟩, hl.addE (t := 71) (hl.addE (t := 1) (hl.addE (t := 7) (hl.addE (t := 69) (hl.addE (t := 70) (hl.nil) rfl (by first | rfl | rfl)) rfl (by first | rfl | rfl)) rfl (by first | rfl | rfl)) rfl (by first | rfl | rfl)) rfl (by first | rfl | rfl), hh.keep (by repeat (first | exact keeps_nil | apply keeps_cons (by repeat (first | exact find_head | apply find_tail)) (by first  | rfl) | exact keeps_self | exact keeps_left | exact keeps_right | exact keeps_swap | apply keeps_mv))⟩ | refine ⟨(i + 1, nm), (by simp only; omega), ⟨by simp only; omega, hU.no hRd hvv hz (by omega)⟩, hl.addE (t := 71) (hl.addE (t := 1) (hl.addE (t := 7) (hl.addE (t := 69) (hl.addE (t := 70) (hl.nil) rfl (by first | rfl | rfl)) rfl (by first | rfl | rfl)) rfl (by first | rfl | rfl)) rfl (by first | rfl | rfl)) rfl (by first | rfl | rfl), hh.keep (by repeat (first | exact keeps_nil | apply keeps_cons (by repeat (first | exact find_head | apply find_tail)) (by first  | rfl) | exact keeps_self | exact keeps_left | exact keeps_right | exact keeps_swap | apply keeps_mv))⟩
        · intro hg1; clear hl; intro hl
          try simp only [decide_eq_true_eq, decide_eq_false_iff_not, Bool.not_eq_true', Bool.not_eq_false', Bool.not_eq_true, Bool.not_eq_false, Bool.and_eq_true, Bool.or_eq_true, Bool.and_eq_false_iff, Bool.or_eq_false_iff, Bool.not_not, ne_eq, Int.not_lt, Int.not_le, Decidable.not_not, beq_iff_eq, bne_iff_ne] at hg1
          exfalso; first | contradiction | omega
      · intro hc4
        try simp only [decide_eq_true_eq, decide_eq_false_iff_not, Bool.not_eq_true', Bool.not_eq_false', Bool.not_eq_true, Bool.not_eq_false, Bool.and_eq_true, Bool.or_eq_true, Bool.and_eq_false_iff, Bool.or_eq_false_iff, Bool.not_not, ne_eq, Int.not_lt, Int.not_le, Decidable.not_not, beq_iff_eq, bne_iff_ne] at hc4
        have hdn := hU.done hRd (by omega)
        rw [hdn] at hh
        refine wp_exit ?_
        refine then_exit ?_
        refine then_exit ?_
        refine blk_exit ?_
        refine then_normal ?_
        refine c_seq ?_
        refine c_region ?_
        refine wl (wl_val hl rfl trivial (r_move hl rfl) ?_)
        clear hl a; intro a hl
        refine wl (wl_val hl rfl trivial (r_assign hl rfl) ?_)
        clear hl a; intro a hl
        refine w_nil ?_
        have hl2 := hl.add (t := 6) (hl.nil) rfl; clear hl; have hl := hl2; clear hl2
        refine then_normal ?_
        refine wp_ret ?_
        refine f_ret1 (F' := [(k15, C (fl tc ou ++ jo) 30)] ++ [(fb, C fc T), (nb, C (fl iI (num) ++ jn) 3)]) hl hh rfl rfl (by repeat (first | exact keeps_nil | apply keeps_cons (by repeat (first | exact find_head | apply find_tail)) (by first  | rfl) | exact keeps_self | exact keeps_left | exact keeps_right | exact keeps_swap | apply keeps_mv)) ?_
        exact ⟨[(k15, C (fl tc ou ++ jo) 30)], .inr ⟨k15, ts.length, jo, rfl, by rw [hst, fl_len tc_len]; show ou.length * 4 = _; rw [hol, hit], by rw [hst]; exact hjl2, Nat.le_refl _, by rw [hst]⟩, rfl⟩
end Go.Proofs.Qxb6500915a

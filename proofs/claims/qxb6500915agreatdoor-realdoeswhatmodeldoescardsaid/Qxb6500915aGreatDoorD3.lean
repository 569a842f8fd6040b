import Derived.Test.Qxb6500915aGreatDoorD2
namespace Go.Proofs.Qxb6500915aGreatDoor
open Go.Eng
set_option linter.unusedVariables false
set_option linter.unusedSimpArgs false

theorem by_dec (x y : ByteArray) : (x.toList == y.toList) = decide (x = y) := by
  cases hq : x.toList == y.toList with
  | true => exact (decide_eq_true (by_t (by simpa using hq))).symm
  | false => exact (decide_eq_false (by_f hq)).symm
theorem fin0 {t : Tm} (hk : t.k = 0) (hv : 0 ≤ t.v) (hi : t.i = 0) : (t.s.toList == e0.toList) = decide (fineT t) := by
  rw [by_dec]
  refine decide_eq_decide.2 ⟨fun h => .inl ⟨hk, hv, hi, h⟩, ?_⟩
  rintro (⟨_, _, _, h⟩ | ⟨h, _⟩ | ⟨h, _⟩)
  · exact h
  · omega
  · omega
theorem fin0n {t : Tm} (hk : t.k = 0) (h : ¬ 0 ≤ t.v ∨ ¬ t.i = 0) : false = decide (fineT t) := by
  refine (decide_eq_false ?_).symm
  rintro (⟨_, h1, h2, _⟩ | ⟨h1, _⟩ | ⟨h1, _⟩) <;> omega
theorem fin1 {t : Tm} (hk : t.k = 1) (hv : t.v = 0) : (t.s.toList == e0.toList) = decide (fineT t) := by
  rw [by_dec]
  refine decide_eq_decide.2 ⟨fun h => .inr (.inl ⟨hk, hv, h⟩), ?_⟩
  rintro (⟨h, _⟩ | ⟨_, _, h⟩ | ⟨h, _⟩)
  · omega
  · exact h
  · omega
theorem fin1n {t : Tm} (hk : t.k = 1) (h : ¬ t.v = 0) : false = decide (fineT t) := by
  refine (decide_eq_false ?_).symm
  rintro (⟨h1, _⟩ | ⟨_, h1, _⟩ | ⟨h1, _⟩) <;> omega
theorem fin2 {t : Tm} (hk : t.k = 2) (hv : t.v = 0) : decide (t.i = 0) = decide (fineT t) := by
  refine decide_eq_decide.2 ⟨fun h => .inr (.inr ⟨hk, hv, h⟩), ?_⟩
  rintro (⟨h, _⟩ | ⟨h, _⟩ | ⟨_, _, h⟩) <;> omega
theorem fin2n {t : Tm} (hk : t.k = 2) (h : ¬ t.v = 0) : false = decide (fineT t) := by
  refine (decide_eq_false ?_).symm
  rintro (⟨h1, _⟩ | ⟨h1, _⟩ | ⟨_, h1, _⟩) <;> omega
/-! ## the model's check -/
def ckX (ri : Nat) : List Pd → Int → List Lt → Option Ft × List Pd
  | ps, _, [] => (none, ps)
  | ps, li, l :: ls => if (ckL ps l).1.1 = 0 then ckX ri (ckL ps l).2 (li + 1) ls else (some ⟨(ckL ps l).1.1, ri, li, (ckL ps l).1.2⟩, (ckL ps l).2)
theorem ckX_bd (ri : Nat) : ∀ (ls : List Lt) (ps : List Pd) (li : Nat), ckX ri ps (li : Int) ls = ckBd ri ps li ls
  | [], _, _ => rfl
  | l :: ls, ps, li => by
    unfold ckX ckBd
    split
    · rw [show ((li : Int) + 1) = ((li + 1 : Nat) : Int) by omega, ckX_bd ri ls]
    · rfl
def hdl (r : RV) : LV := ⟨⟨0, 0, r.p, r.a⟩, r.hp, r.hc, r.hE⟩
def alls (r : RV) : List LV := hdl r :: r.ls
theorem ckL_hd (ps : List Pd) (p : ByteArray) (a : List Tm) : ckL ps ⟨0, 0, p, a⟩ = ckA ps p a := (if_pos (.inl rfl)).trans (if_pos rfl)
theorem ckRu_X {ri : Nat} {ps : List Pd} {r : RV} (h : ¬ 64 < r.ls.length) : ckRu ri ps r.ru = ckX ri ps (-1) ((alls r).map LV.l) := by
  have h1 : ckRu ri ps r.ru = if (ckA ps r.p r.a).1.1 = 0 then ckBd ri (ckA ps r.p r.a).2 0 (r.ls.map LV.l) else (some ⟨(ckA ps r.p r.a).1.1, ri, -1, (ckA ps r.p r.a).1.2⟩, (ckA ps r.p r.a).2) := if_neg (by show ¬ 64 < (r.ls.map LV.l).length; rw [List.length_map]; exact h)
  rw [h1]
  show _ = ckX ri ps (-1) (⟨0, 0, r.p, r.a⟩ :: r.ls.map LV.l)
  unfold ckX
  rw [ckL_hd]
  split
  · exact (ckX_bd ri _ _ 0).symm
  · rfl
theorem ckX_step {ri : Nat} {ps : List Pd} {ls : List Lt} {i : Nat} {l : Lt} {li : Int} (h : ls[i]? = some l) : ckX ri ps li (ls.drop i) = if (ckL ps l).1.1 = 0 then ckX ri (ckL ps l).2 (li + 1) (ls.drop (i + 1)) else (some ⟨(ckL ps l).1.1, ri, li, (ckL ps l).1.2⟩, (ckL ps l).2) := by
  obtain ⟨hi, rfl⟩ := List.getElem?_eq_some_iff.1 h
  rw [List.drop_eq_getElem_cons hi]; rfl
theorem ckX_end {ri : Nat} {ps : List Pd} {ls : List Lt} {i : Nat} {li : Int} (h : ls.length ≤ i) : ckX ri ps li (ls.drop i) = (none, ps) := by
  rw [List.drop_of_length_le h]; rfl
def arf (ps : List Pd) : List (ByteArray × Value) := ps.map fun q => (q.n, .int .i64 (q.a : Int))
theorem mget_arf (n : ByteArray) : ∀ ps : List Pd, mget (arf ps) n = ((pos ps n).bind fun i => ps[i]?).map fun q => Value.int .i64 (q.a : Int)
  | [] => rfl
  | p :: ps => by
    show (if n = p.n then some (Value.int .i64 (p.a : Int)) else mget (arf ps) n) = _
    unfold pos
    split
    · rfl
    · rw [mget_arf n ps]
      cases pos ps n with
      | none => rfl
      | some i => simp
theorem mput_arf_old (n : ByteArray) : ∀ (ps : List Pd) (i : Nat) (q : Pd), pos ps n = some i → ps[i]? = some q → mput (arf ps) n (.int .i64 (q.a : Int)) = arf ps
  | [], _, _, h, _ => by cases h
  | p :: ps, i, q, h, hq => by
    unfold pos at h
    show mput ((p.n, Value.int .i64 (p.a : Int)) :: arf ps) n _ = (p.n, Value.int .i64 (p.a : Int)) :: arf ps
    unfold mput
    split at h
    · rename_i e
      injection h with h; subst h
      simp at hq; subst hq
      rw [if_pos e]
    · rename_i e
      rw [if_neg e]
      cases hp : pos ps n with
      | none => rw [hp] at h; cases h
      | some j =>
        rw [hp] at h; injection h with h; subst h
        rw [mput_arf_old n ps j q hp (by simpa using hq)]
theorem mput_arf_new (n : ByteArray) (m : Nat) : ∀ (ps : List Pd), pos ps n = none → mput (arf ps) n (.int .i64 (m : Int)) = arf (ps ++ [⟨n, m, 0⟩])
  | [], _ => rfl
  | p :: ps, h => by
    unfold pos at h
    split at h
    · cases h
    · rename_i e
      have h1 : pos ps n = none := by
        cases hq : pos ps n with
        | none => rfl
        | some j => rw [hq] at h; cases h
      show mput ((p.n, Value.int .i64 (p.a : Int)) :: arf ps) n _ = (p.n, Value.int .i64 (p.a : Int)) :: arf (ps ++ [⟨n, m, 0⟩])
      unfold mput
      rw [if_neg e, mput_arf_new n m ps h1]
/-- what the map of arities tells of a name -/
theorem ar_some {ps : List Pd} {n : ByteArray} (h : (mget (arf ps) n).isSome = true) : ∃ i q, pos ps n = some i ∧ ps[i]? = some q ∧ mget (arf ps) n = some (.int .i64 (q.a : Int)) := by
  rw [mget_arf] at h ⊢
  cases hq : pos ps n with
  | none => rw [hq] at h; cases h
  | some i =>
    obtain ⟨q, h1, _⟩ := pos_lt hq
    exact ⟨i, q, rfl, h1, by simp [h1]⟩
theorem ar_none {ps : List Pd} {n : ByteArray} (h : (mget (arf ps) n).isSome = false) : pos ps n = none := by
  rw [mget_arf] at h
  cases hq : pos ps n with
  | none => rfl
  | some i =>
    obtain ⟨q, h1, _⟩ := pos_lt hq
    rw [hq] at h; simp [h1] at h
theorem put_note {ps : List Pd} {n : ByteArray} {m : Nat} (h : (noteP ps n m).1 = true) : mput (arf ps) n (.int .i64 (m : Int)) = arf (noteP ps n m).2 := by
  cases hq : pos ps n with
  | none => rw [noteP_new hq]; exact mput_arf_new n m ps hq
  | some i =>
    obtain ⟨q, h1, _⟩ := pos_lt hq
    rw [noteP_old hq h1] at h ⊢
    have : q.a = m := by simpa using h
    subst this
    exact mput_arf_old n ps i q hq h1
theorem alls_ok {r : RV} (hr : r.ok) {x : LV} (h : x ∈ alls r) : x.ok := by
  rcases List.mem_cons.1 h with rfl | h
  · exact ⟨hr.hd, ⟨Int.le_refl 0, (by decide : (0 : Int) ≤ 255)⟩, ⟨Int.le_refl 0, (by decide : (0 : Int) ≤ 255)⟩, hr.p⟩
  · exact hr.ls x h
theorem alls_mem {r : RV} {w : World} (h : Mem r.E w) {x : LV} (hx : x ∈ alls r) : Mem x.E w := by
  rcases List.mem_cons.1 hx with rfl | hx
  · exact RV.mh h
  · exact RV.ml h hx
structure MC where
  i : Nat
  ps : List Pd
theorem ckL_good {ps : List Pd} {l : Lt} (hk : l.k = 0 ∨ l.k = 2) (ho : l.o = 0) (hp : ¬ l.p = e0) (ht : bad l.a = none) (hn : (noteP ps l.p l.a.length).1 = true) : ckL ps l = ((0, -1), (noteP ps l.p l.a.length).2) :=
  (if_pos hk).trans ((if_pos ho).trans ((if_neg hp).trans ((if_pos (ck_ok ht).1).trans (if_pos hn))))
theorem ckL_ar {ps : List Pd} {l : Lt} (hk : l.k = 0 ∨ l.k = 2) (ho : l.o = 0) (hp : ¬ l.p = e0) (ht : bad l.a = none) (hn : (noteP ps l.p l.a.length).1 = false) : ckL ps l = ((3, -1), (noteP ps l.p l.a.length).2) :=
  (if_pos hk).trans ((if_pos ho).trans ((if_neg hp).trans ((if_pos (ck_ok ht).1).trans (if_neg (by rw [hn]; decide)))))
theorem ckL_tm {ps : List Pd} {l : Lt} {i : Nat} (hk : l.k = 0 ∨ l.k = 2) (ho : l.o = 0) (hp : ¬ l.p = e0) (ht : bad l.a = some i) : ckL ps l = ((2, (i : Int)), ps) := by
  have h := ck_bad ht
  refine (if_pos hk).trans ((if_pos ho).trans ((if_neg hp).trans ((if_neg (by rw [h.1]; decide)).trans ?_)))
  rw [h.1, h.2]
theorem ckL_atm {ps : List Pd} {l : Lt} (hk : l.k = 0 ∨ l.k = 2) (h : ¬ l.o = 0 ∨ l.p = e0) : ckL ps l = ((2, -1), ps) := by
  refine (if_pos hk).trans ?_
  by_cases ho : l.o = 0
  · rw [if_pos ho]; exact if_pos (h.resolve_left (fun h9 => h9 ho))
  · rw [if_neg ho]
theorem ckL_cmp {ps : List Pd} {l : Lt} (hk : l.k = 1) (h : ¬ (l.p = e0 ∧ l.o < 6 ∧ l.a.length = 2)) : ckL ps l = ((2, -1), ps) := (if_neg (by omega)).trans ((if_pos hk).trans (if_neg h))
theorem ckL_cmt {ps : List Pd} {l : Lt} {i : Nat} (hk : l.k = 1) (h : l.p = e0 ∧ l.o < 6 ∧ l.a.length = 2) (ht : bad l.a = some i) : ckL ps l = ((2, (i : Int)), ps) := by
  have h9 := ck_bad ht
  refine (if_neg (by omega)).trans ((if_pos hk).trans ((if_pos h).trans ?_))
  rw [h9.1, h9.2]
theorem ckL_cmg {ps : List Pd} {l : Lt} (hk : l.k = 1) (h : l.p = e0 ∧ l.o < 6 ∧ l.a.length = 2) (ht : bad l.a = none) : ckL ps l = ((0, -1), ps) := by
  have h9 := ck_ok ht
  refine (if_neg (by omega)).trans ((if_pos hk).trans ((if_pos h).trans ?_))
  rw [h9.1, h9.2]
theorem ckL_oth {ps : List Pd} {l : Lt} (h0 : ¬ l.k = 0) (h2 : ¬ l.k = 2) (h1 : ¬ l.k = 1) : ckL ps l = ((2, -1), ps) := (if_neg (by omega)).trans (if_neg h1)
theorem kinds4 (k : Int) : k = 0 ∨ k = 2 ∨ k = 1 ∨ (¬ k = 0 ∧ ¬ k = 2 ∧ ¬ k = 1) := by omega
theorem build1_row {k : Nat} {r : RV} : Row (.slice (some ⟨k, 0, none⟩) 1 1) 1 [.int .u8 0, .int .u8 0, .string r.p, .slice r.hp r.a.length r.hc] 4 48 [(k, C [.int .u8 0, .int .u8 0, .string r.p, .slice r.hp r.a.length r.hc] 48)] :=
  .inr ⟨k, 1, [], rfl, rfl, rfl, Nat.le_refl _, by rw [List.append_nil]⟩
theorem alls_len (r : RV) : (alls r).length = 1 + r.ls.length := by unfold alls; rw [List.length_cons]; omega
theorem alls_row {r : RV} {p : Option Addr} {c : Nat} {E : List (Nat × Obj)} (h : Row (.slice p (1 + r.ls.length) c) (1 + r.ls.length) ([.int .u8 0, .int .u8 0, .string r.p, .slice r.hp r.a.length r.hc] ++ fl LV.c4 r.ls) 4 48 E) : Row (.slice p (alls r).length c) (alls r).length (fl LV.c4 (alls r)) 4 48 E := by
  rw [alls_len, show fl LV.c4 (alls r) = LV.c4 (hdl r) ++ fl LV.c4 r.ls from fl_cons _ _]
  exact h
theorem ckX_ok {ri : Nat} {ps ps' : List Pd} {ls : List Lt} {i : Nat} {l : Lt} {a : Int} (h : ls[i]? = some l) (hq : ckL ps l = ((0, a), ps')) : ckX ri ps ((i : Int) - 1) (ls.drop i) = ckX ri ps' (((i + 1 : Nat) : Int) - 1) (ls.drop (i + 1)) := by
  rw [ckX_step h, hq, if_pos rfl]
  rw [show (i : Int) - 1 + 1 = ((i + 1 : Nat) : Int) - 1 by omega]
theorem ckX_bad {ri : Nat} {ps ps' : List Pd} {ls : List Lt} {i : Nat} {l : Lt} {li c a : Int} (h : ls[i]? = some l) (hq : ckL ps l = ((c, a), ps')) (hc : ¬ c = 0) : ckX ri ps li (ls.drop i) = (some ⟨c, ri, li, a⟩, ps') := by
  rw [ckX_step h, hq, if_neg hc]
theorem ar_or (ps : List Pd) (n : ByteArray) (m : Nat) : (mget (arf ps) n = none ∧ noteP ps n m = (true, ps ++ [⟨n, m, 0⟩])) ∨ ∃ q : Pd, mget (arf ps) n = some (.int .i64 (q.a : Int)) ∧ noteP ps n m = (decide (q.a = m), ps) := by
  cases hq : pos ps n with
  | none => exact .inl ⟨by rw [mget_arf, hq]; rfl, noteP_new hq⟩
  | some i =>
    obtain ⟨q, h1, _⟩ := pos_lt hq
    exact .inr ⟨q, by rw [mget_arf, hq]; simp [h1], noteP_old hq h1⟩


set_option maxHeartbeats 1000000 in
theorem fine_spec (t : Tm) (ht : t.ok) : Sp Tryz.prog 65 #[.agg ⟨[.int .u8 t.k, .int .i64 t.v, .int .i64 t.i, .string t.s]⟩] [] (fun v F' => v = .bool (decide (fineT t)) ∧ F' = []) := by
  refine f_enter (args := [.agg ⟨[.int .u8 t.k, .int .i64 t.v, .int .i64 t.i, .string t.s]⟩]) Tryz.func65 rfl Tryz.ntmps65 rfl ?_
  intro w0 w a hpre hl hh
  have htk := ht.k
  simp only [slotsFrom, Nat.reduceAdd] at hl
  refine c_seq ?_
  refine c_region ?_
  refine wl (w_box hl hh rfl trivial rfl rfl ?_)
  clear hl hh a w; intro k1 a w hl hh
  refine wl (wl_val hl rfl trivial (r_assign hl rfl) ?_)
  clear hl a; intro a hl
  refine w_nil ?_
  have hl2 := hl.add (t := 1) (hl.nil) rfl; clear hl; have hl := hl2; clear hl2
  refine then_normal ?_
  refine c_seq ?_
  refine c_seq ?_
  refine c_region ?_
  refine wl (wl_val hl rfl trivial (r_field hl rfl fld54_0) ?_)
  clear hl a; intro a hl
  refine wl (w_load hl hh rfl trivial one52 rfl (by repeat (first | exact find_head | apply find_tail)) (by first | rfl) ?_)
  clear hl a; intro a hl
  refine w_nil ?_
  have hl2 := hl.add (t := 1) (hl.add (t := 4) (hl.nil) rfl) rfl; clear hl; have hl := hl2; clear hl2
  refine then_normal ?_
  refine wp_block ?_
  refine c_seq ?_
  refine c_region ?_
  refine wl (wl_val hl rfl trivial (r_eql hl rfl rfl) ?_)
  clear hl a; intro a hl
  refine wl (wl_val hl rfl trivial (r_assign hl rfl) ?_)
  clear hl a; intro a hl
  refine w_nil ?_
  have hl2 := hl.add (t := 1) (hl.add (t := 4) (hl.add (t := 5) (hl.nil) rfl) rfl) rfl; clear hl; have hl := hl2; clear hl2
  refine then_normal ?_
  refine c_cond hl rfl ?_ ?_
  · intro hc0
    try simp only [decide_eq_true_eq, decide_eq_false_iff_not, Bool.not_eq_true', Bool.not_eq_false', Bool.not_eq_true, Bool.not_eq_false, Bool.and_eq_true, Bool.or_eq_true, Bool.and_eq_false_iff, Bool.or_eq_false_iff, Bool.not_not, ne_eq, Int.not_lt, Int.not_le, Decidable.not_not, beq_iff_eq, bne_iff_ne] at hc0
    refine c_seq ?_
    refine c_region ?_
    refine wl (wl_val hl rfl trivial (r_field hl rfl fld54_1) ?_)
    clear hl a; intro a hl
    refine wl (w_load hl hh rfl trivial one3 rfl (by repeat (first | exact find_head | apply find_tail)) (by first | rfl) ?_)
    clear hl a; intro a hl
    refine wl (wl_val hl rfl trivial (r_geq hl rfl rfl) ?_)
    clear hl a; intro a hl
    refine wl (wl_val hl rfl trivial (r_move hl rfl) ?_)
    clear hl a; intro a hl
    refine sl_split (t := 10) hl rfl ?_ ?_
    · intro hg1; clear hl; intro hl
      try simp only [decide_eq_true_eq, decide_eq_false_iff_not, Bool.not_eq_true', Bool.not_eq_false', Bool.not_eq_true, Bool.not_eq_false, Bool.and_eq_true, Bool.or_eq_true, Bool.and_eq_false_iff, Bool.or_eq_false_iff, Bool.not_not, ne_eq, Int.not_lt, Int.not_le, Decidable.not_not, beq_iff_eq, bne_iff_ne] at hg1
      refine wl (wl_val hl rfl ⟨_, _, rfl, rfl, rfl⟩ (r_field hl rfl fld54_2) ?_)
      clear hl a; intro a hl
      refine wl (w_load hl hh rfl ⟨_, _, rfl, rfl, rfl⟩ one2 rfl (by repeat (first | exact find_head | apply find_tail)) (by first | rfl) ?_)
      clear hl a; intro a hl
      refine wl (wl_val hl rfl ⟨_, _, rfl, rfl, rfl⟩ (r_eql hl rfl rfl) ?_)
      clear hl a; intro a hl
      refine wl (wl_val hl rfl trivial (r_pickT hl rfl rfl) ?_)
      clear hl a; intro a hl
      refine wl (wl_val hl rfl trivial (r_move hl rfl) ?_)
      clear hl a; intro a hl
      refine sl_split (t := 15) hl rfl ?_ ?_
      · intro hg2; clear hl; intro hl
        try simp only [decide_eq_true_eq, decide_eq_false_iff_not, Bool.not_eq_true', Bool.not_eq_false', Bool.not_eq_true, Bool.not_eq_false, Bool.and_eq_true, Bool.or_eq_true, Bool.and_eq_false_iff, Bool.or_eq_false_iff, Bool.not_not, ne_eq, Int.not_lt, Int.not_le, Decidable.not_not, beq_iff_eq, bne_iff_ne] at hg2
        refine wl (wl_val hl rfl ⟨_, _, rfl, rfl, rfl⟩ (r_field hl rfl fld54_3) ?_)
        clear hl a; intro a hl
        refine wl (w_load hl hh rfl ⟨_, _, rfl, rfl, rfl⟩ one9 rfl (by repeat (first | exact find_head | apply find_tail)) (by first | rfl) ?_)
        clear hl a; intro a hl
        refine wl (wl_val hl rfl ⟨_, _, rfl, rfl, rfl⟩ (r_eql_string hl rfl rfl) ?_)
        clear hl a; intro a hl
        refine wl (wl_val hl rfl trivial (r_pickT hl rfl rfl) ?_)
        clear hl a; intro a hl
        refine wl (wl_val hl rfl trivial (r_assign hl rfl) ?_)
        clear hl a; intro a hl
        refine w_nil ?_
        have hl2 := hl.add (t := 2) (hl.nil) rfl; clear hl; have hl := hl2; clear hl2
        refine then_normal ?_
        refine wp_ret ?_
        refine blk_ret ?_
        refine then_ret ?_
        refine f_ret1 (F' := []) hl hh rfl rfl (by repeat (first | exact keeps_nil | apply keeps_cons (by repeat (first | exact find_head | apply find_tail)) (by first  | rfl) | exact keeps_self | apply keeps_mv)) ?_
        first | exact ⟨congrArg Value.bool (fin0 (by omega) (by omega) (by omega)), rfl⟩ | exact ⟨congrArg Value.bool (fin0n (by omega) (by omega)), rfl⟩
      · intro hg2; clear hl; intro hl
        try simp only [decide_eq_true_eq, decide_eq_false_iff_not, Bool.not_eq_true', Bool.not_eq_false', Bool.not_eq_true, Bool.not_eq_false, Bool.and_eq_true, Bool.or_eq_true, Bool.and_eq_false_iff, Bool.or_eq_false_iff, Bool.not_not, ne_eq, Int.not_lt, Int.not_le, Decidable.not_not, beq_iff_eq, bne_iff_ne] at hg2
        refine wl (wl_skip hl rfl ⟨_, _, rfl, rfl, rfl⟩ ?_)
        clear hl a; intro a hl
        refine wl (wl_skip hl rfl ⟨_, _, rfl, rfl, rfl⟩ ?_)
        clear hl a; intro a hl
        refine wl (wl_skip hl rfl ⟨_, _, rfl, rfl, rfl⟩ ?_)
        clear hl a; intro a hl
        refine wl (wl_val hl rfl trivial (r_pickF hl rfl rfl) ?_)
        clear hl a; intro a hl
        refine wl (wl_val hl rfl trivial (r_assign hl rfl) ?_)
        clear hl a; intro a hl
        refine w_nil ?_
        have hl2 := hl.add (t := 2) (hl.nil) rfl; clear hl; have hl := hl2; clear hl2
        refine then_normal ?_
        refine wp_ret ?_
        refine blk_ret ?_
        refine then_ret ?_
        refine f_ret1 (F' := []) hl hh rfl rfl (by repeat (first | exact keeps_nil | apply keeps_cons (by repeat (first | exact find_head | apply find_tail)) (by first  | rfl) | exact keeps_self | apply keeps_mv)) ?_
        first | exact ⟨congrArg Value.bool (fin0 (by omega) (by omega) (by omega)), rfl⟩ | exact ⟨congrArg Value.bool (fin0n (by omega) (by omega)), rfl⟩
    · intro hg1; clear hl; intro hl
      try simp only [decide_eq_true_eq, decide_eq_false_iff_not, Bool.not_eq_true', Bool.not_eq_false', Bool.not_eq_true, Bool.not_eq_false, Bool.and_eq_true, Bool.or_eq_true, Bool.and_eq_false_iff, Bool.or_eq_false_iff, Bool.not_not, ne_eq, Int.not_lt, Int.not_le, Decidable.not_not, beq_iff_eq, bne_iff_ne] at hg1
      refine wl (wl_skip hl rfl ⟨_, _, rfl, rfl, rfl⟩ ?_)
      clear hl a; intro a hl
      refine wl (wl_skip hl rfl ⟨_, _, rfl, rfl, rfl⟩ ?_)
      clear hl a; intro a hl
      refine wl (wl_skip hl rfl ⟨_, _, rfl, rfl, rfl⟩ ?_)
      clear hl a; intro a hl
      refine wl (wl_val hl rfl trivial (r_pickF hl rfl rfl) ?_)
      clear hl a; intro a hl
      refine wl (wl_val hl rfl trivial (r_move hl rfl) ?_)
      clear hl a; intro a hl
      refine wl (wl_skip hl rfl ⟨_, _, rfl, rfl, rfl⟩ ?_)
      clear hl a; intro a hl
      refine wl (wl_skip hl rfl ⟨_, _, rfl, rfl, rfl⟩ ?_)
      clear hl a; intro a hl
      refine wl (wl_skip hl rfl ⟨_, _, rfl, rfl, rfl⟩ ?_)
      clear hl a; intro a hl
      refine wl (wl_val hl rfl trivial (r_pickF hl rfl rfl) ?_)
      clear hl a; intro a hl
      refine wl (wl_val hl rfl trivial (r_assign hl rfl) ?_)
      clear hl a; intro a hl
      refine w_nil ?_
      have hl2 := hl.add (t := 2) (hl.nil) rfl; clear hl; have hl := hl2; clear hl2
      refine then_normal ?_
      refine wp_ret ?_
      refine blk_ret ?_
      refine then_ret ?_
      refine f_ret1 (F' := []) hl hh rfl rfl (by repeat (first | exact keeps_nil | apply keeps_cons (by repeat (first | exact find_head | apply find_tail)) (by first  | rfl) | exact keeps_self | apply keeps_mv)) ?_
      first | exact ⟨congrArg Value.bool (fin0 (by omega) (by omega) (by omega)), rfl⟩ | exact ⟨congrArg Value.bool (fin0n (by omega) (by omega)), rfl⟩
  · intro hc0
    try simp only [decide_eq_true_eq, decide_eq_false_iff_not, Bool.not_eq_true', Bool.not_eq_false', Bool.not_eq_true, Bool.not_eq_false, Bool.and_eq_true, Bool.or_eq_true, Bool.and_eq_false_iff, Bool.or_eq_false_iff, Bool.not_not, ne_eq, Int.not_lt, Int.not_le, Decidable.not_not, beq_iff_eq, bne_iff_ne] at hc0
    refine c_seq ?_
    refine c_region ?_
    refine wl (wl_val hl rfl trivial (r_eql hl rfl rfl) ?_)
    clear hl a; intro a hl
    refine wl (wl_val hl rfl trivial (r_assign hl rfl) ?_)
    clear hl a; intro a hl
    refine w_nil ?_
    have hl2 := hl.add (t := 1) (hl.add (t := 4) (hl.add (t := 20) (hl.nil) rfl) rfl) rfl; clear hl; have hl := hl2; clear hl2
    refine then_normal ?_
    refine c_cond hl rfl ?_ ?_
    · intro hc1
      try simp only [decide_eq_true_eq, decide_eq_false_iff_not, Bool.not_eq_true', Bool.not_eq_false', Bool.not_eq_true, Bool.not_eq_false, Bool.and_eq_true, Bool.or_eq_true, Bool.and_eq_false_iff, Bool.or_eq_false_iff, Bool.not_not, ne_eq, Int.not_lt, Int.not_le, Decidable.not_not, beq_iff_eq, bne_iff_ne] at hc1
      refine c_seq ?_
      refine c_region ?_
      refine wl (wl_val hl rfl trivial (r_field hl rfl fld54_1) ?_)
      clear hl a; intro a hl
      refine wl (w_load hl hh rfl trivial one3 rfl (by repeat (first | exact find_head | apply find_tail)) (by first | rfl) ?_)
      clear hl a; intro a hl
      refine wl (wl_val hl rfl trivial (r_eql hl rfl rfl) ?_)
      clear hl a; intro a hl
      refine wl (wl_val hl rfl trivial (r_move hl rfl) ?_)
      clear hl a; intro a hl
      refine sl_split (t := 25) hl rfl ?_ ?_
      · intro hg3; clear hl; intro hl
        try simp only [decide_eq_true_eq, decide_eq_false_iff_not, Bool.not_eq_true', Bool.not_eq_false', Bool.not_eq_true, Bool.not_eq_false, Bool.and_eq_true, Bool.or_eq_true, Bool.and_eq_false_iff, Bool.or_eq_false_iff, Bool.not_not, ne_eq, Int.not_lt, Int.not_le, Decidable.not_not, beq_iff_eq, bne_iff_ne] at hg3
        refine wl (wl_val hl rfl ⟨_, _, rfl, rfl, rfl⟩ (r_field hl rfl fld54_3) ?_)
        clear hl a; intro a hl
        refine wl (w_load hl hh rfl ⟨_, _, rfl, rfl, rfl⟩ one9 rfl (by repeat (first | exact find_head | apply find_tail)) (by first | rfl) ?_)
        clear hl a; intro a hl
        refine wl (wl_val hl rfl ⟨_, _, rfl, rfl, rfl⟩ (r_eql_string hl rfl rfl) ?_)
        clear hl a; intro a hl
        refine wl (wl_val hl rfl trivial (r_pickT hl rfl rfl) ?_)
        clear hl a; intro a hl
        refine wl (wl_val hl rfl trivial (r_assign hl rfl) ?_)
        clear hl a; intro a hl
        refine w_nil ?_
        have hl2 := hl.add (t := 2) (hl.nil) rfl; clear hl; have hl := hl2; clear hl2
        refine then_normal ?_
        refine wp_ret ?_
        refine blk_ret ?_
        refine then_ret ?_
        refine f_ret1 (F' := []) hl hh rfl rfl (by repeat (first | exact keeps_nil | apply keeps_cons (by repeat (first | exact find_head | apply find_tail)) (by first  | rfl) | exact keeps_self | apply keeps_mv)) ?_
        first | exact ⟨congrArg Value.bool (fin1 (by omega) (by omega)), rfl⟩ | exact ⟨congrArg Value.bool (fin1n (by omega) (by omega)), rfl⟩
      · intro hg3; clear hl; intro hl
        try simp only [decide_eq_true_eq, decide_eq_false_iff_not, Bool.not_eq_true', Bool.not_eq_false', Bool.not_eq_true, Bool.not_eq_false, Bool.and_eq_true, Bool.or_eq_true, Bool.and_eq_false_iff, Bool.or_eq_false_iff, Bool.not_not, ne_eq, Int.not_lt, Int.not_le, Decidable.not_not, beq_iff_eq, bne_iff_ne] at hg3
        refine wl (wl_skip hl rfl ⟨_, _, rfl, rfl, rfl⟩ ?_)
        clear hl a; intro a hl
        refine wl (wl_skip hl rfl ⟨_, _, rfl, rfl, rfl⟩ ?_)
        clear hl a; intro a hl
        refine wl (wl_skip hl rfl ⟨_, _, rfl, rfl, rfl⟩ ?_)
        clear hl a; intro a hl
        refine wl (wl_val hl rfl trivial (r_pickF hl rfl rfl) ?_)
        clear hl a; intro a hl
        refine wl (wl_val hl rfl trivial (r_assign hl rfl) ?_)
        clear hl a; intro a hl
        refine w_nil ?_
        have hl2 := hl.add (t := 2) (hl.nil) rfl; clear hl; have hl := hl2; clear hl2
        refine then_normal ?_
        refine wp_ret ?_
        refine blk_ret ?_
        refine then_ret ?_
        refine f_ret1 (F' := []) hl hh rfl rfl (by repeat (first | exact keeps_nil | apply keeps_cons (by repeat (first | exact find_head | apply find_tail)) (by first  | rfl) | exact keeps_self | apply keeps_mv)) ?_
        first | exact ⟨congrArg Value.bool (fin1 (by omega) (by omega)), rfl⟩ | exact ⟨congrArg Value.bool (fin1n (by omega) (by omega)), rfl⟩
    · intro hc1
      try simp only [decide_eq_true_eq, decide_eq_false_iff_not, Bool.not_eq_true', Bool.not_eq_false', Bool.not_eq_true, Bool.not_eq_false, Bool.and_eq_true, Bool.or_eq_true, Bool.and_eq_false_iff, Bool.or_eq_false_iff, Bool.not_not, ne_eq, Int.not_lt, Int.not_le, Decidable.not_not, beq_iff_eq, bne_iff_ne] at hc1
      refine c_seq ?_
      refine c_region ?_
      refine wl (wl_val hl rfl trivial (r_eql hl rfl rfl) ?_)
      clear hl a; intro a hl
      refine wl (wl_val hl rfl trivial (r_assign hl rfl) ?_)
      clear hl a; intro a hl
      refine w_nil ?_
      have hl2 := hl.add (t := 1) (hl.add (t := 30) (hl.nil) rfl) rfl; clear hl; have hl := hl2; clear hl2
      refine then_normal ?_
      refine c_cond hl rfl ?_ ?_
      · intro hc2
        try simp only [decide_eq_true_eq, decide_eq_false_iff_not, Bool.not_eq_true', Bool.not_eq_false', Bool.not_eq_true, Bool.not_eq_false, Bool.and_eq_true, Bool.or_eq_true, Bool.and_eq_false_iff, Bool.or_eq_false_iff, Bool.not_not, ne_eq, Int.not_lt, Int.not_le, Decidable.not_not, beq_iff_eq, bne_iff_ne] at hc2
        refine c_seq ?_
        refine c_region ?_
        refine wl (wl_val hl rfl trivial (r_field hl rfl fld54_1) ?_)
        clear hl a; intro a hl
        refine wl (w_load hl hh rfl trivial one3 rfl (by repeat (first | exact find_head | apply find_tail)) (by first | rfl) ?_)
        clear hl a; intro a hl
        refine wl (wl_val hl rfl trivial (r_eql hl rfl rfl) ?_)
        clear hl a; intro a hl
        refine wl (wl_val hl rfl trivial (r_move hl rfl) ?_)
        clear hl a; intro a hl
        refine sl_split (t := 35) hl rfl ?_ ?_
        · intro hg4; clear hl; intro hl
          try simp only [decide_eq_true_eq, decide_eq_false_iff_not, Bool.not_eq_true', Bool.not_eq_false', Bool.not_eq_true, Bool.not_eq_false, Bool.and_eq_true, Bool.or_eq_true, Bool.and_eq_false_iff, Bool.or_eq_false_iff, Bool.not_not, ne_eq, Int.not_lt, Int.not_le, Decidable.not_not, beq_iff_eq, bne_iff_ne] at hg4
          refine wl (wl_val hl rfl ⟨_, _, rfl, rfl, rfl⟩ (r_field hl rfl fld54_2) ?_)
          clear hl a; intro a hl
          refine wl (w_load hl hh rfl ⟨_, _, rfl, rfl, rfl⟩ one2 rfl (by repeat (first | exact find_head | apply find_tail)) (by first | rfl) ?_)
          clear hl a; intro a hl
          refine wl (wl_val hl rfl ⟨_, _, rfl, rfl, rfl⟩ (r_eql hl rfl rfl) ?_)
          clear hl a; intro a hl
          refine wl (wl_val hl rfl trivial (r_pickT hl rfl rfl) ?_)
          clear hl a; intro a hl
          refine wl (wl_val hl rfl trivial (r_assign hl rfl) ?_)
          clear hl a; intro a hl
          refine w_nil ?_
          have hl2 := hl.add (t := 2) (hl.nil) rfl; clear hl; have hl := hl2; clear hl2
          refine then_normal ?_
          refine wp_ret ?_
          refine blk_ret ?_
          refine then_ret ?_
          refine f_ret1 (F' := []) hl hh rfl rfl (by repeat (first | exact keeps_nil | apply keeps_cons (by repeat (first | exact find_head | apply find_tail)) (by first  | rfl) | exact keeps_self | apply keeps_mv)) ?_
          first | exact ⟨congrArg Value.bool (fin2 (by omega) (by omega)), rfl⟩ | exact ⟨congrArg Value.bool (fin2n (by omega) (by omega)), rfl⟩
        · intro hg4; clear hl; intro hl
          try simp only [decide_eq_true_eq, decide_eq_false_iff_not, Bool.not_eq_true', Bool.not_eq_false', Bool.not_eq_true, Bool.not_eq_false, Bool.and_eq_true, Bool.or_eq_true, Bool.and_eq_false_iff, Bool.or_eq_false_iff, Bool.not_not, ne_eq, Int.not_lt, Int.not_le, Decidable.not_not, beq_iff_eq, bne_iff_ne] at hg4
          refine wl (wl_skip hl rfl ⟨_, _, rfl, rfl, rfl⟩ ?_)
          clear hl a; intro a hl
          refine wl (wl_skip hl rfl ⟨_, _, rfl, rfl, rfl⟩ ?_)
          clear hl a; intro a hl
          refine wl (wl_skip hl rfl ⟨_, _, rfl, rfl, rfl⟩ ?_)
          clear hl a; intro a hl
          refine wl (wl_val hl rfl trivial (r_pickF hl rfl rfl) ?_)
          clear hl a; intro a hl
          refine wl (wl_val hl rfl trivial (r_assign hl rfl) ?_)
          clear hl a; intro a hl
          refine w_nil ?_
          have hl2 := hl.add (t := 2) (hl.nil) rfl; clear hl; have hl := hl2; clear hl2
          refine then_normal ?_
          refine wp_ret ?_
          refine blk_ret ?_
          refine then_ret ?_
          refine f_ret1 (F' := []) hl hh rfl rfl (by repeat (first | exact keeps_nil | apply keeps_cons (by repeat (first | exact find_head | apply find_tail)) (by first  | rfl) | exact keeps_self | apply keeps_mv)) ?_
          first | exact ⟨congrArg Value.bool (fin2 (by omega) (by omega)), rfl⟩ | exact ⟨congrArg Value.bool (fin2n (by omega) (by omega)), rfl⟩
      · intro hc2
        try simp only [decide_eq_true_eq, decide_eq_false_iff_not, Bool.not_eq_true', Bool.not_eq_false', Bool.not_eq_true, Bool.not_eq_false, Bool.and_eq_true, Bool.or_eq_true, Bool.and_eq_false_iff, Bool.or_eq_false_iff, Bool.not_not, ne_eq, Int.not_lt, Int.not_le, Decidable.not_not, beq_iff_eq, bne_iff_ne] at hc2
        refine wp_skip ?_
        refine blk_normal ?_
        refine then_normal ?_
        refine c_seq ?_
        refine c_region ?_
        refine wl (wl_val hl rfl trivial (r_assign hl rfl) ?_)
        clear hl a; intro a hl
        refine w_nil ?_
        have hl2 := hl.add (t := 2) (hl.nil) rfl; clear hl; have hl := hl2; clear hl2
        refine then_normal ?_
        refine wp_ret ?_
        refine f_ret1 (F' := []) hl hh rfl rfl (by repeat (first | exact keeps_nil | apply keeps_cons (by repeat (first | exact find_head | apply find_tail)) (by first  | rfl) | exact keeps_self | apply keeps_mv)) ?_
        exact ⟨congrArg Value.bool (decide_eq_false (fineN (by omega) (by omega) (by omega))).symm, rfl⟩
end Go.Proofs.Qxb6500915aGreatDoor

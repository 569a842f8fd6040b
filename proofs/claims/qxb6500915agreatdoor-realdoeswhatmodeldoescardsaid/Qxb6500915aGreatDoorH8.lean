import Derived.Test.Qxb6500915aGreatDoorH7
namespace Go.Proofs.Qxb6500915aGreatDoor
open Go.Eng
set_option linter.unusedVariables false
set_option linter.unusedSimpArgs false
theorem cal56 : callable Tryz.prog 56 = true := by kernel_rfl
theorem cal58 : callable Tryz.prog 58 = true := by kernel_rfl
theorem cal59 : callable Tryz.prog 59 = true := by kernel_rfl
theorem own_apart {D : List Nat} {w0 w : World} {F A Zf E G : List (Nat × Obj)} (hh : Has D w0 F w) (hk : Keeps F (A ++ Zf) G) (hE : ∀ z, z ∈ E → z ∈ Zf) : ∀ z, z ∈ E → z.1 ∉ List.map Prod.fst A := by
  intro z hz hm
  have h1 := (hh.perm hk.perm).nodup
  rw [List.map_append, List.map_append, List.nodup_append, List.nodup_append] at h1
  exact h1.1.2.2 z.1 hm z.1 (List.mem_map.2 ⟨z, hE z hz, rfl⟩) rfl
theorem rnLs_ge (ls : List Lt) : ∀ vs : List Int, vs.length ≤ (rnLs vs ls).1.length := by
  induction ls with
  | nil => intro vs; exact Nat.le_refl _
  | cons l ls ih =>
    intro vs
    have h1 := (rnTs_bd vs l.a).1.1
    have h2 := ih (rnL vs l).1
    show vs.length ≤ (rnLs (rnL vs l).1 ls).1.length
    exact Nat.le_trans h1 h2
theorem fn_m1 (n u : Nat) : fnI (List.replicate n (-1)) u = -1 := by
  by_cases h : u < n
  · have := fnI_get (l := List.replicate n (-1)) (i := u) (by simpa using h)
    rw [List.getElem?_replicate, if_pos h] at this
    injection this with this; exact this.symm
  · exact fnI_out (by simpa using h)
theorem CZI.start (X : SX) (ts : List Tm) (hts : ts.length ≤ 65536) (k22 k52 k55 : Nat) (jk52 : List Value) (hj : jk52.length = X.xs.length * 4) : CZI X [(0, (rdTs (List.replicate X.vs (-1), 0) ts).1)] ⟨0, [], some ⟨k52, 0, none⟩, X.xs.length, [(k52, C jk52 48)], [⟨0, (rdTs (List.replicate X.vs (-1), 0) ts).1.1, (rdTs (List.replicate X.vs (-1), 0) ts).1.2, some ⟨k22, 0, none⟩, X.vs, []⟩], k55, 1, []⟩ := by
  have h1 := rdTs_nl (List.replicate X.vs (-1), 0) ts
  simp only [List.length_replicate] at h1
  refine ⟨Nat.zero_le _, rfl, rfl, fun x hx => (by cases hx), row_mk0 hj, fun b hb => ?_, fun c hc => ?_, Nat.one_pos, by simp⟩
  · rw [List.mem_singleton.1 hb]
    refine ⟨⟨h1.1, .inr ⟨k22, rfl, by simp only [List.length_nil]; rw [h1.1]; rfl⟩, ⟨h1.2.1, by simp only; omega⟩, rd_lt (s := (List.replicate X.vs (-1), 0)) (Int.le_refl _) (fun u => by simp only; rw [fn_m1]; omega) ts⟩, by simp only; omega⟩
  · have hc9 : c ∈ [SQ.core _] := hc
    rw [List.mem_singleton.1 hc9]; exact CoI.start _ _
theorem s0_cells {num : List Int} {nx : Int} {k22 vs : Nat} (h : num.length = vs) : C [.int .u64 0, .slice (some ⟨k22, 0, none⟩) vs vs, .int .i64 nx] 129 = C (fl SQ.cells [(⟨0, num, nx, some ⟨k22, 0, none⟩, vs, []⟩ : SQ)] ++ []) 129 := by
  rw [List.append_nil, fl_sing]
  unfold SQ.cells
  simp only
  rw [h]


attribute [local irreducible] RV.E

set_option maxHeartbeats 16000000 in
theorem canon_spec (r : RV) (hr : r.ok) (h64 : r.ls.length ≤ 64) (hvs : (canI r.ru).vs ≤ 1000) : SpK Tryz.prog 23 #[.agg ⟨[.string r.p, .slice r.hp r.a.length r.hc, .slice r.bp r.ls.length r.bc]⟩] (Mem r.E) [] (fun v F' => (canR r.ru = none ∧ v = .tuple #[.agg ⟨[.string ⟨#[]⟩, .slice none 0 0, .slice none 0 0]⟩, .int .u8 6] ∧ F' = []) ∨ ∃ q : RV, q.ok ∧ canR r.ru = some q.ru ∧ v = .tuple #[.agg ⟨[.string q.p, .slice q.hp q.a.length q.hc, .slice q.bp q.ls.length q.bc]⟩, .int .u8 0] ∧ F' = q.E) := by
  refine f_enter (args := [.agg ⟨[.string r.p, .slice r.hp r.a.length r.hc, .slice r.bp r.ls.length r.bc]⟩]) Tryz.func23 rfl Tryz.ntmps23 rfl ?_
  intro w0 w a hpre hl hh
  have hra := hr.hd.len; have hrl := hr.len
  have hvs9 : (rnLs (rnTs [] r.a).1 r.ru.b).1.length ≤ 1000 := hvs
  simp only [slotsFrom, Nat.reduceAdd] at hl
  refine c_seq ?_
  refine c_region ?_
  refine wl (w_box hl hh rfl trivial rfl rfl ?_)
  clear hl hh a w; intro k1 a w hl hh
  refine wl (w_alloc hl hh rfl trivial zero57 rfl ?_)
  clear hl hh a w; intro k2 a w hl hh
  refine wl (wl_val hl rfl trivial (r_assign hl rfl) ?_)
  clear hl a; intro a hl
  refine w_nil ?_
  have hl2 := hl.add (t := 1) (hl.add (t := 2) (hl.nil) rfl) rfl; clear hl; have hl := hl2; clear hl2
  refine then_normal ?_
  refine c_seq ?_
  refine c_seq ?_
  refine c_region ?_
  refine wl (wl_val hl rfl trivial (r_field hl rfl fld57_1) ?_)
  clear hl a; intro a hl
  first | refine wl (w_load hl hh rfl trivial one55 rfl (by repeat (first | exact find_head | apply find_tail | apply find_skip)) (by first | rfl | rfl) ?_) | refine wl (wl_val hl rfl trivial (r_load hl rfl one55 (hh.mem _ _ (by repeat (first | exact hms | exact List.mem_append_left _ hms | apply List.mem_cons_of_mem | apply List.mem_append_right))) rfl) ?_)
  clear hl a; intro a hl
  refine wl (wl_val hl rfl trivial (r_lenS hl rfl slc55) ?_)
  clear hl a; intro a hl
  refine wl (wl_val hl rfl trivial (r_gtr hl rfl rfl) ?_)
  clear hl a; intro a hl
  refine w_nil ?_
  have hl2 := hl.add (t := 1) (hl.add (t := 2) (hl.add (t := 14) (hl.nil) rfl) rfl) rfl; clear hl; have hl := hl2; clear hl2
  refine then_normal ?_
  refine c_cond hl rfl ?_ ?_
  · intro hc0
    try simp only [decide_eq_true_eq, decide_eq_false_iff_not, Bool.not_eq_true', Bool.not_eq_false', Bool.not_eq_true, Bool.not_eq_false, Bool.and_eq_true, Bool.or_eq_true, Bool.and_eq_false_iff, Bool.or_eq_false_iff, Bool.not_not, ne_eq, Int.not_lt, Int.not_le, Decidable.not_not, beq_iff_eq, bne_iff_ne] at hc0
    exfalso; first | contradiction | omega
  · intro hc0
    try simp only [decide_eq_true_eq, decide_eq_false_iff_not, Bool.not_eq_true', Bool.not_eq_false', Bool.not_eq_true, Bool.not_eq_false, Bool.and_eq_true, Bool.or_eq_true, Bool.and_eq_false_iff, Bool.or_eq_false_iff, Bool.not_not, ne_eq, Int.not_lt, Int.not_le, Decidable.not_not, beq_iff_eq, bne_iff_ne] at hc0
    refine wp_skip ?_
    refine then_normal ?_
    refine c_seq ?_
    refine c_region ?_
    refine wl (w_loadA hl hh rfl trivial agg57 rfl (by repeat (first | exact find_head | apply find_tail | apply find_skip)) (by first | (simp only [List.getElem?_cons_zero, List.getElem?_cons_succ, Value.cells, List.take_zero, List.take_succ_cons, List.take_nil, List.drop_zero, List.drop_succ_cons, List.drop_nil, List.length_cons, List.length_nil, List.cons_append, List.nil_append, List.append_nil, Nat.zero_add, Nat.add_zero, Nat.reduceAdd, Nat.reduceBEq, Nat.reduceEqDiff, Nat.ble, BEq.rfl, Bool.and_true, Bool.and_self, cond_true, beq_self_eq_true]; rfl)) (by first | rfl | (simp; done)) ?_)
    clear hl a; intro a hl
    refine wl (w_call hl hh rfl trivial rfl cal56 rfl (search_spec r hr h64 (by omega)) (by repeat (first | exact keeps_nil | apply keeps_cons (by repeat (first | exact find_head | apply find_tail | apply find_skip)) (by first  | rfl) | exact keeps_self | exact keeps_left | apply keeps_app | apply keeps_mv | apply keeps_skip)) (mem_keep hh hpre) ?_)
    clear hl hh a w; intro vc Fc a w hR hl hh
    obtain ⟨X, hp, hc, hE, hX, rfl, hXs, hXv, hRh, hhE, hXB, hXvs, hXn, hXo⟩ := hR
    try simp only [List.cons_append, List.nil_append, List.append_assoc, List.append_nil] at hh
    generalize Fc = ZF at hh hX hhE
    have hv1000 : X.vs ≤ 1000 := by rw [hXvs]; exact hvs9
    have hn64 := hX.n64
    have hms : (X.sb, C [.string r.p, .slice hp r.a.length hc, .slice (some ⟨X.bb, 0, none⟩) X.xs.length X.xs.length, .int .i64 (X.vs : Int), .slice (some ⟨X.ob, 0, none⟩) X.vs X.vs] 127) ∈ ZF := by have h9 := hX.s; rw [hXs, hXv] at h9; exact h9
    have hAh : Ags (.slice hp (rnTs [] r.a).2.length hc) (rnTs [] r.a).2 hE := ⟨by rw [rnTs_len]; exact hRh, by rw [rnTs_len]; exact hra, (rnTs_bd [] r.a).2.2 hr.hd.ok (by simp only [List.length_nil]; omega)⟩
    have hcan : canR r.ru = (canP X.B X.oc X.xs.length [(0, (rdTs ((List.replicate X.vs (-1)), 0) (rnTs [] r.a).2).1)] []).map fun b => ⟨r.p, (rdTs ((List.replicate X.vs (-1)), 0) (rnTs [] r.a).2).2, b⟩ := by
      have e1 : (rnLs (rnTs [] r.ru.a).1 r.ru.b).2 = X.B := hXB.symm
      have e2 : (rnLs (rnTs [] r.ru.a).1 r.ru.b).1.length = X.vs := hXvs.symm
      unfold canR canI
      simp only [e1, e2]
      rw [X.bl, ← hXo]; rfl
    have hvb0 : ∀ t, t ∈ (rnTs [] r.a).2 → t.k = 0 → 0 ≤ t.v ∧ t.v < (List.replicate X.vs (-1 : Int)).length := fun t ht hk => by
      have h8 := (rnTs_bd [] r.a).2.1 t ht hk
      have h9 := rnLs_ge r.ru.b (rnTs [] r.a).1
      rw [List.length_replicate, hXvs]; omega
    have hh9l := (rdTs_nl ((List.replicate X.vs (-1)), 0) (rnTs [] r.a).2).1
    simp only [List.length_replicate] at hh9l
    refine wl (wl_val hl rfl trivial (r_assign hl rfl) ?_)
    clear hl a; intro a hl
    refine w_nil ?_
    have hl2 := hl.add (t := 2) (hl.add (t := 4) (hl.nil) rfl) rfl; clear hl; have hl := hl2; clear hl2
    refine then_normal ?_
    refine c_seq ?_
    refine c_region ?_
    refine wl (wl_val hl rfl trivial (r_move hl rfl) ?_)
    clear hl a; intro a hl
    refine wl (wl_val hl rfl trivial (r_nilCheck hl rfl) ?_)
    clear hl a; intro a hl
    refine wl (wl_val hl rfl trivial (r_field hl rfl fld127_2) ?_)
    clear hl a; intro a hl
    first | refine wl (w_load hl hh rfl trivial one3 rfl (by repeat (first | exact find_head | apply find_tail | apply find_skip)) (by first | rfl | rfl) ?_) | refine wl (wl_val hl rfl trivial (r_load hl rfl one3 (hh.mem _ _ (by repeat (first | exact hms | exact List.mem_append_left _ hms | apply List.mem_cons_of_mem | apply List.mem_append_right))) rfl) ?_)
    clear hl a; intro a hl
    refine wl (w_makeSliceN hl hh rfl trivial app58 zero3 rfl rfl (by omega) (by decide) ?_)
    clear hl hh a w; intro k22 jk22 a w hjk22 hl hh
    refine wl (wl_val hl rfl trivial (r_build hl rfl zero129 bld129 (by simp only [fillL, setL, List.getElem?_cons_zero, List.getElem?_cons_succ, Value.cells, List.take_zero, List.take_succ_cons, List.take_nil, List.drop_zero, List.drop_succ_cons, List.drop_nil, List.length_cons, List.length_nil, List.cons_append, List.nil_append, List.append_nil, Nat.zero_add, Nat.add_zero, Nat.reduceAdd, Nat.reduceBEq, Nat.reduceEqDiff, Nat.ble, BEq.rfl, Bool.and_true, Bool.and_self, cond_true, beq_self_eq_true]; rfl)) ?_)
    clear hl a; intro a hl
    refine wl (w_alloc hl hh rfl trivial zero129 rfl ?_)
    clear hl hh a w; intro k5 a w hl hh
    refine wl (w_storeA hl hh trivial agg129 rfl rfl (by repeat (first | exact find_head | apply find_tail | apply find_skip)) (by first | rfl | (simp; done)) (by first | (simp; done) | (simp; omega) | exact fm0 (by rw [nm_len (by omega)]; omega)) (by first | rfl | (simp; done) | rfl) (by first | exact nm_set (by omega) | (simp only [setL, List.getElem?_cons_zero, List.getElem?_cons_succ, Value.cells, List.take_zero, List.take_succ_cons, List.take_nil, List.drop_zero, List.drop_succ_cons, List.drop_nil, List.length_cons, List.length_nil, List.cons_append, List.nil_append, List.append_nil, Nat.zero_add, Nat.add_zero, Nat.reduceAdd, Nat.reduceBEq, Nat.reduceEqDiff, Nat.ble, BEq.rfl, Bool.and_true, Bool.and_self, cond_true, beq_self_eq_true]; rfl)) ?_)
    clear hh w; intro w hh
    refine w_nil ?_
    have hl2 := hl.add (t := 2) (hl.add (t := 4) (hl.add (t := 5) (hl.nil) rfl) rfl) rfl; clear hl; have hl := hl2; clear hl2
    rw [zeros_eq hjk22] at hh
    refine then_normal ?_
    refine c_seq ?_
    refine c_seq ?_
    refine c_region ?_
    refine wl (wl_val hl rfl trivial (r_field hl rfl fld129_1) ?_)
    clear hl a; intro a hl
    first | refine wl (w_load hl hh rfl trivial one58 rfl (by repeat (first | exact find_head | apply find_tail | apply find_skip)) (by first | rfl | rfl) ?_) | refine wl (wl_val hl rfl trivial (r_load hl rfl one58 (hh.mem _ _ (by repeat (first | exact hms | exact List.mem_append_left _ hms | apply List.mem_cons_of_mem | apply List.mem_append_right))) rfl) ?_)
    clear hl a; intro a hl
    refine wl (wl_val hl rfl trivial (r_lenS hl rfl slc58) ?_)
    clear hl a; intro a hl
    refine wl (wl_val hl rfl trivial (r_move hl rfl) ?_)
    clear hl a; intro a hl
    refine w_nil ?_
    have hl2 := hl.add (t := 2) (hl.add (t := 4) (hl.add (t := 5) (hl.add (t := 26) (hl.add (t := 27) (hl.nil) rfl) rfl) rfl) rfl) rfl; clear hl; have hl := hl2; clear hl2
    refine then_normal ?_
    refine wp_block ?_
    obtain ⟨KS0, hKS0, hk⟩ := (hl.add (t := 2) (hl.add (t := 4) (hl.add (t := 5) (hl.add (t := 26) (hl.nil) rfl) rfl) rfl) rfl).name
    obtain ⟨HS0, hHS0, hh2⟩ := hh.name (keeps_cons (b := k22) (o' := C (fl iI (List.replicate X.vs 0)) 3) (by repeat (first | exact find_head | apply find_tail | apply find_skip)) (by first | rfl) (keeps_nil))
    refine c_loop (α := Nat) (fun i => X.vs - i) (fun i a w => (i ≤ X.vs) ∧ Sl 85 ([(27, .int .i64 (i : Int))] ++ KS0) a ∧ Has _ w0 ([(k22, C (fl iI (nmI X.vs i)) 3)] ++ HS0) w) 0 ⟨Nat.zero_le _, hl.addE (t := 27) (hk) rfl (by first | rfl), (by rw [nm_zero]; exact hh2)⟩ ?_
    clear hk hh2 hl hh a w
    intro i a w hI
    obtain ⟨hi, hl, hh⟩ := hI
    subst hKS0; subst hHS0
    simp only [List.cons_append, List.nil_append, List.append_nil, List.append_assoc] at hl hh
    refine c_seq ?_
    refine c_region ?_
    refine wl (wl_val hl rfl trivial (r_lss hl rfl rfl) ?_)
    clear hl a; intro a hl
    refine w_nil ?_
    have hl2 := hl.add (t := 2) (hl.add (t := 4) (hl.add (t := 5) (hl.add (t := 26) (hl.add (t := 27) (hl.add (t := 28) (hl.nil) rfl) rfl) rfl) rfl) rfl) rfl; clear hl; have hl := hl2; clear hl2
    refine then_normal ?_
    refine c_seq ?_
    refine c_cond hl rfl ?_ ?_
    · intro hc1
      try simp only [decide_eq_true_eq, decide_eq_false_iff_not, Bool.not_eq_true', Bool.not_eq_false', Bool.not_eq_true, Bool.not_eq_false, Bool.and_eq_true, Bool.or_eq_true, Bool.and_eq_false_iff, Bool.or_eq_false_iff, Bool.not_not, ne_eq, Int.not_lt, Int.not_le, Decidable.not_not, beq_iff_eq, bne_iff_ne] at hc1
      refine wp_skip ?_
      refine then_normal ?_
      refine c_seq ?_
      refine wp_block ?_
      refine c_seq ?_
      refine c_region ?_
      refine wl (wl_val hl rfl trivial (r_move hl rfl) ?_)
      clear hl a; intro a hl
      refine wl (wl_val hl rfl trivial (r_assign hl rfl) ?_)
      clear hl a; intro a hl
      refine w_nil ?_
      have hl2 := hl.add (t := 2) (hl.add (t := 4) (hl.add (t := 5) (hl.add (t := 6) (hl.add (t := 26) (hl.add (t := 27) (hl.nil) rfl) rfl) rfl) rfl) rfl) rfl; clear hl; have hl := hl2; clear hl2
      refine then_normal ?_
      refine c_region ?_
      refine wl (wl_val hl rfl trivial (r_field hl rfl fld129_1) ?_)
      clear hl a; intro a hl
      first | refine wl (w_load hl hh rfl trivial one58 rfl (by repeat (first | exact find_head | apply find_tail | apply find_skip)) (by first | rfl | rfl) ?_) | refine wl (wl_val hl rfl trivial (r_load hl rfl one58 (hh.mem _ _ (by repeat (first | exact hms | exact List.mem_append_left _ hms | apply List.mem_cons_of_mem | apply List.mem_append_right))) rfl) ?_)
      clear hl a; intro a hl
      refine wl (wl_val hl rfl trivial (r_move hl rfl) ?_)
      clear hl a; intro a hl
      refine wl (wl_val hl rfl trivial (r_indexS hl rfl rfl slc58 (by omega) (by omega) (by first | (simp only [Int.reduceToNat]; rfl) | exact toNat_add1 _ | exact toNat_add2 _ _ | exact toNat_emod _ _ | exact Int.toNat_natCast _ | rfl)) ?_)
      clear hl a; intro a hl
      refine wl (w_store hl hh trivial one3 rfl rfl (by repeat (first | exact find_head | apply find_tail | apply find_skip)) (by first | (simp; done) | (simp; omega) | exact fm0 (by rw [nm_len (by omega)]; omega)) (by first | rfl | assumption | (apply Row.one; assumption)) (by first | exact nm_set (by omega) | (simp only [setL, List.getElem?_cons_zero, List.getElem?_cons_succ, Value.cells, List.take_zero, List.take_succ_cons, List.take_nil, List.drop_zero, List.drop_succ_cons, List.drop_nil, List.length_cons, List.length_nil, List.cons_append, List.nil_append, List.append_nil, Nat.zero_add, Nat.add_zero, Nat.reduceAdd, Nat.reduceBEq, Nat.reduceEqDiff, Nat.ble, BEq.rfl, Bool.and_true, Bool.and_self, cond_true, beq_self_eq_true]; rfl)) ?_)
      clear hh w; intro w hh
      refine w_nil ?_
      have hl2 := hl.add (t := 2) (hl.add (t := 4) (hl.add (t := 5) (hl.add (t := 26) (hl.add (t := 27) (hl.nil) rfl) rfl) rfl) rfl) rfl; clear hl; have hl := hl2; clear hl2
      refine blk_normal ?_
      refine then_normal ?_
      refine c_region ?_
      first | refine wl (wl_val hl rfl trivial (r_add hl rfl rfl (by simp only [Fits]; omega)) ?_) | refine wl (wl_val hl rfl trivial (r_addW hl rfl rfl) ?_)
      clear hl a; intro a hl
      refine wl (wl_val hl rfl trivial (r_move hl rfl) ?_)
      clear hl a; intro a hl
      refine w_nil ?_
      have hl2 := hl.add (t := 2) (hl.add (t := 4) (hl.add (t := 5) (hl.add (t := 26) (hl.add (t := 27) (hl.nil) rfl) rfl) rfl) rfl) rfl; clear hl; have hl := hl2; clear hl2
      refine then_normal ?_
      refine ⟨i + 1, (by omega), (by omega), hl.addE (t := 27) (hl.addE (t := 2) (hl.addE (t := 4) (hl.addE (t := 5) (hl.addE (t := 26) (hl.nil) rfl (by first | rfl | exact congrArg (Value.int .i64) (show (i : Int) + 1 = ((i + 1 : Nat) : Int) by omega))) rfl (by first | rfl | exact congrArg (Value.int .i64) (show (i : Int) + 1 = ((i + 1 : Nat) : Int) by omega))) rfl (by first | rfl | exact congrArg (Value.int .i64) (show (i : Int) + 1 = ((i + 1 : Nat) : Int) by omega))) rfl (by first | rfl | exact congrArg (Value.int .i64) (show (i : Int) + 1 = ((i + 1 : Nat) : Int) by omega))) rfl (by first | rfl | exact congrArg (Value.int .i64) (show (i : Int) + 1 = ((i + 1 : Nat) : Int) by omega)), hh.keep (by repeat (first | exact keeps_nil | apply keeps_cons (by repeat (first | exact find_head | apply find_tail | apply find_skip)) (by first  | rfl) | exact keeps_self | exact keeps_left | apply keeps_app | apply keeps_mv | apply keeps_skip))⟩
    · intro hc1
      try simp only [decide_eq_true_eq, decide_eq_false_iff_not, Bool.not_eq_true', Bool.not_eq_false', Bool.not_eq_true, Bool.not_eq_false, Bool.and_eq_true, Bool.or_eq_true, Bool.and_eq_false_iff, Bool.or_eq_false_iff, Bool.not_not, ne_eq, Int.not_lt, Int.not_le, Decidable.not_not, beq_iff_eq, bne_iff_ne] at hc1
      have hie : i = X.vs := by omega
      rw [hie, nm_full] at hh
      rw [show fl iI (List.replicate X.vs (-1)) = fl iI (List.replicate X.vs (-1)) ++ [] from (List.append_nil _).symm] at hh
      refine wp_exit ?_
      refine then_exit ?_
      refine then_exit ?_
      refine blk_exit ?_
      refine then_normal ?_
      refine c_seq ?_
      refine cut_region (fun a w => ∃ (k7 k52 : Nat) (jk52 : List Value) (oh : Option Addr) (ohc : Nat) (oE : List (Nat × Obj)), (jk52.length = X.xs.length * 4 ∧ Row (.slice oh (rdTs ((List.replicate X.vs (-1)), 0) (rnTs [] r.a).2).2.length ohc) (rdTs ((List.replicate X.vs (-1)), 0) (rnTs [] r.a).2).2.length (fl tmc (rdTs ((List.replicate X.vs (-1)), 0) (rnTs [] r.a).2).2) 4 54 oE) ∧ Sl 85 [(2, .pointer (some ⟨k2, 0, none⟩)), (4, .pointer (some ⟨X.sb, 0, none⟩)), (5, .pointer (some ⟨k5, 0, none⟩)), (7, .pointer (some ⟨k7, 0, none⟩))] a ∧ Has (List.map Prod.fst ([] : List (Nat × Obj))) w0 ((k7, C [.string r.p, .slice oh (rdTs ((List.replicate X.vs (-1)), 0) (rnTs [] r.a).2).2.length ohc, .slice (some ⟨k52, 0, none⟩) 0 X.xs.length] 57) :: (k2, C [.string ⟨#[]⟩, .slice none 0 0, .slice none 0 0] 57) :: (k52, C jk52 48) :: (k5, C [.int .u64 0, .slice (some ⟨k22, 0, none⟩) X.vs X.vs, .int .i64 (rdTs ((List.replicate X.vs (-1)), 0) (rnTs [] r.a).2).1.2] 129) :: (nbE (some ⟨k22, 0, none⟩) [] (rdTs ((List.replicate X.vs (-1)), 0) (rnTs [] r.a).2).1.1 ++ (oE ++ ZF))) w) ?_ ?_
      ·
        refine c_draw [(X.sb, C [.string r.p, .slice hp r.a.length hc, .slice (some ⟨X.bb, 0, none⟩) X.xs.length X.xs.length, .int .i64 (X.vs : Int), .slice (some ⟨X.ob, 0, none⟩) X.vs X.vs] 127)] [20] mixed hh ?_
        clear hh w; intro w hh
        have hM : Mem [(X.sb, C [.string r.p, .slice hp r.a.length hc, .slice (some ⟨X.bb, 0, none⟩) X.xs.length X.xs.length, .int .i64 (X.vs : Int), .slice (some ⟨X.ob, 0, none⟩) X.vs X.vs] 127)] w := (fun b o m => by rw [List.mem_singleton] at m; cases m; exact hh.mem _ _ (by repeat (first | exact hms | exact List.mem_append_left _ hms | apply List.mem_cons_of_mem | apply List.mem_append_right)))
        refine d_take (i := 0) hl rfl (by kernel_rfl) (by kernel_rfl) (by kernel_rfl) (by kernel_rfl) (by kernel_rfl) rfl trivial (fun _ _ _ h => by cases h.1) hM (fun w hC => r_move hl rfl) rfl ?_
        clear hl a; intro a hl
        refine d_take (i := 1) hl rfl (by kernel_rfl) (by kernel_rfl) (by kernel_rfl) (by kernel_rfl) (by kernel_rfl) rfl trivial (fun _ _ _ h => by cases h.1) hM (fun w hC => r_nilCheck hl rfl) rfl ?_
        clear hl a; intro a hl
        refine d_take (i := 2) hl rfl (by kernel_rfl) (by kernel_rfl) (by kernel_rfl) (by kernel_rfl) (by kernel_rfl) rfl trivial (fun _ _ _ h => by cases h.1) hM (fun w hC => r_field hl rfl fld127_0) rfl ?_
        clear hl a; intro a hl
        refine d_take (i := 3) hl rfl (by kernel_rfl) (by kernel_rfl) (by kernel_rfl) (by kernel_rfl) (by kernel_rfl) rfl trivial (fun _ _ _ h => by cases h.1) hM (fun w hC => r_field hl rfl fld46_0) rfl ?_
        clear hl a; intro a hl
        refine d_take (i := 4) hl rfl (by kernel_rfl) (by kernel_rfl) (by kernel_rfl) (by kernel_rfl) (by kernel_rfl) rfl trivial (fun _ _ _ h => by cases h.1) hM (fun w hC => r_loadC hl rfl one9 hC (by repeat (first | exact find_head | apply find_tail | apply find_skip)) (by first | rfl | rfl)) rfl ?_
        clear hl a; intro a hl
        refine d_take (i := 5) hl rfl (by kernel_rfl) (by kernel_rfl) (by kernel_rfl) (by kernel_rfl) (by kernel_rfl) rfl trivial (fun _ _ _ h => by cases h.1) hM (fun w hC => r_move hl rfl) rfl ?_
        clear hl a; intro a hl
        refine d_take (i := 6) hl rfl (by kernel_rfl) (by kernel_rfl) (by kernel_rfl) (by kernel_rfl) (by kernel_rfl) rfl trivial (fun _ _ _ h => by cases h.1) hM (fun w hC => r_nilCheck hl rfl) rfl ?_
        clear hl a; intro a hl
        refine d_take (i := 7) hl rfl (by kernel_rfl) (by kernel_rfl) (by kernel_rfl) (by kernel_rfl) (by kernel_rfl) rfl trivial (fun _ _ _ h => by cases h.1) hM (fun w hC => r_field hl rfl fld127_0) rfl ?_
        clear hl a; intro a hl
        refine d_take (i := 8) hl rfl (by kernel_rfl) (by kernel_rfl) (by kernel_rfl) (by kernel_rfl) (by kernel_rfl) rfl trivial (fun _ _ _ h => by cases h.1) hM (fun w hC => r_field hl rfl fld46_1) rfl ?_
        clear hl a; intro a hl
        refine d_take (i := 9) hl rfl (by kernel_rfl) (by kernel_rfl) (by kernel_rfl) (by kernel_rfl) (by kernel_rfl) rfl trivial (fun _ _ _ h => by cases h.1) hM (fun w hC => r_loadC hl rfl one42 hC (by repeat (first | exact find_head | apply find_tail | apply find_skip)) (by first | rfl | rfl)) rfl ?_
        clear hl a; intro a hl
        rw [show r.a.length = (rnTs [] r.a).2.length from (rnTs_len _ _).symm] at hl
        refine d_take (i := 12) hl rfl (by kernel_rfl) (by kernel_rfl) (by kernel_rfl) (by kernel_rfl) (by kernel_rfl) rfl trivial (fun _ _ _ h => by cases h.1) hM (fun w hC => r_move hl rfl) rfl ?_
        clear hl a; intro a hl
        refine d_take (i := 13) hl rfl (by kernel_rfl) (by kernel_rfl) (by kernel_rfl) (by kernel_rfl) (by kernel_rfl) rfl trivial (fun _ _ _ h => by cases h.1) hM (fun w hC => r_nilCheck hl rfl) rfl ?_
        clear hl a; intro a hl
        refine d_take (i := 14) hl rfl (by kernel_rfl) (by kernel_rfl) (by kernel_rfl) (by kernel_rfl) (by kernel_rfl) rfl trivial (fun _ _ _ h => by cases h.1) hM (fun w hC => r_field hl rfl fld127_1) rfl ?_
        clear hl a; intro a hl
        refine d_take (i := 15) hl rfl (by kernel_rfl) (by kernel_rfl) (by kernel_rfl) (by kernel_rfl) (by kernel_rfl) rfl trivial (fun _ _ _ h => by cases h.1) hM (fun w hC => r_loadC hl rfl one55 hC (by repeat (first | exact find_head | apply find_tail | apply find_skip)) (by first | rfl | rfl)) rfl ?_
        clear hl a; intro a hl
        refine d_take (i := 16) hl rfl (by kernel_rfl) (by kernel_rfl) (by kernel_rfl) (by kernel_rfl) (by kernel_rfl) rfl trivial (fun _ _ _ h => by cases h.1) hM (fun w hC => r_lenS hl rfl slc55) rfl ?_
        clear hl a; intro a hl
        refine d_three (i := 10) (j := 17) (k := 19) (by kernel_rfl) rfl rfl rfl ?_ ?_ ?_
        ·
          try clear hM
          refine id (w_call hl hh rfl trivial rfl cal57 rfl (read_keep k5 0 [.int .u64 0, .slice (some ⟨k22, 0, none⟩) X.vs X.vs, .int .i64 0] 129 (List.replicate X.vs (-1)) (some ⟨k22, 0, none⟩) X.vs [] (.inr ⟨k22, rfl, by simp⟩) 0 (rnTs [] r.a).2 hp hc hE hAh (own_apart hh (A := (k5, C [.int .u64 0, .slice (some ⟨k22, 0, none⟩) X.vs X.vs, .int .i64 0] 129) :: nbE (some ⟨k22, 0, none⟩) [] (List.replicate X.vs (-1))) (Zf := ZF) (by repeat (first | exact keeps_nil | apply keeps_cons (by repeat (first | exact find_head | apply find_tail | apply find_skip)) (by first  | rfl) | exact keeps_self | exact keeps_left | apply keeps_app | apply keeps_mv | apply keeps_skip)) hhE) (by rw [List.length_replicate]; rfl) rfl hvb0 (by simp; omega) (by omega)) (by repeat (first | exact keeps_nil | apply keeps_cons (by repeat (first | exact find_head | apply find_tail | apply find_skip)) (by first  | rfl) | exact keeps_self | exact keeps_left | apply keeps_app | apply keeps_mv | apply keeps_skip)) (fun b o m => hh.mem _ _ (by repeat (first | exact (hhE _ m) | exact List.mem_append_left _ (hhE _ m) | apply List.mem_cons_of_mem | apply List.mem_append_right))) ?_)
          clear hl hh a w; intro vc Fc a w hR hl hh
          obtain ⟨oE, hRo, rfl⟩ := hR
          try simp only [List.cons_append, List.nil_append, List.append_assoc, List.append_nil] at hh
          simp only [setL, Nat.zero_add, List.take_succ_cons, List.take_zero, List.drop_succ_cons, List.drop_zero, List.drop_nil, List.cons_append, List.nil_append, List.length_cons, List.length_nil, Nat.reduceAdd, List.append_nil] at hh
          obtain ⟨oh, ohc, hvo⟩ := row_val hRo
          subst hvo
          rw [show (rnTs [] r.a).2.length = (rdTs ((List.replicate X.vs (-1)), 0) (rnTs [] r.a).2).2.length from (rdTs_len _ _).symm] at hl hRo
          have hM : Mem [(X.sb, C [.string r.p, .slice hp r.a.length hc, .slice (some ⟨X.bb, 0, none⟩) X.xs.length X.xs.length, .int .i64 (X.vs : Int), .slice (some ⟨X.ob, 0, none⟩) X.vs X.vs] 127)] w := (fun b o m => by rw [List.mem_singleton] at m; cases m; exact hh.mem _ _ (by repeat (first | exact hms | exact List.mem_append_left _ hms | apply List.mem_cons_of_mem | apply List.mem_append_right)))
          refine d_step (fun _ => hM) ?_
          refine d_take (i := 11) hl rfl (by kernel_rfl) (by kernel_rfl) (by kernel_rfl) (by kernel_rfl) (by kernel_rfl) rfl trivial (fun _ _ _ h => by cases h.1) hM (fun w hC => r_build hl rfl zero46 bld46 (by simp only [fillL, setL, List.getElem?_cons_zero, List.getElem?_cons_succ, Value.cells, List.take_zero, List.take_succ_cons, List.take_nil, List.drop_zero, List.drop_succ_cons, List.drop_nil, List.length_cons, List.length_nil, List.cons_append, List.nil_append, List.append_nil, Nat.zero_add, Nat.add_zero, Nat.reduceAdd, Nat.reduceBEq, Nat.reduceEqDiff, Nat.ble, BEq.rfl, Bool.and_true, Bool.and_self, cond_true, beq_self_eq_true]; rfl)) rfl ?_
          clear hl a; intro a hl
          refine d_two (i := 17) (j := 19) (by kernel_rfl) rfl rfl ?_ ?_
          ·
            try clear hM
            refine id (w_makeSlice0 hl hh rfl trivial app55 rfl rfl (by omega) (by decide) ?_)
            clear hl hh a w; intro k52 jk52 a w hjk52 hl hh
            have hjk52 := hjk52
            have hM : Mem [(X.sb, C [.string r.p, .slice hp r.a.length hc, .slice (some ⟨X.bb, 0, none⟩) X.xs.length X.xs.length, .int .i64 (X.vs : Int), .slice (some ⟨X.ob, 0, none⟩) X.vs X.vs] 127)] w := (fun b o m => by rw [List.mem_singleton] at m; cases m; exact hh.mem _ _ (by repeat (first | exact hms | exact List.mem_append_left _ hms | apply List.mem_cons_of_mem | apply List.mem_append_right)))
            refine d_step (fun _ => hM) ?_
            refine d_take (i := 18) hl rfl (by kernel_rfl) (by kernel_rfl) (by kernel_rfl) (by kernel_rfl) (by kernel_rfl) rfl trivial (fun _ _ _ h => by cases h.1) hM (fun w hC => r_build hl rfl zero57 bld57 (by simp only [fillL, setL, List.getElem?_cons_zero, List.getElem?_cons_succ, Value.cells, List.take_zero, List.take_succ_cons, List.take_nil, List.drop_zero, List.drop_succ_cons, List.drop_nil, List.length_cons, List.length_nil, List.cons_append, List.nil_append, List.append_nil, Nat.zero_add, Nat.add_zero, Nat.reduceAdd, Nat.reduceBEq, Nat.reduceEqDiff, Nat.ble, BEq.rfl, Bool.and_true, Bool.and_self, cond_true, beq_self_eq_true]; rfl)) rfl ?_
            clear hl a; intro a hl
            refine d_one (i := 19) (by kernel_rfl) rfl ?_
            try clear hM
            refine id (w_alloc hl hh rfl trivial zero57 rfl ?_)
            clear hl hh a w; intro k7 a w hl hh
            have hM : Mem [(X.sb, C [.string r.p, .slice hp r.a.length hc, .slice (some ⟨X.bb, 0, none⟩) X.xs.length X.xs.length, .int .i64 (X.vs : Int), .slice (some ⟨X.ob, 0, none⟩) X.vs X.vs] 127)] w := (fun b o m => by rw [List.mem_singleton] at m; cases m; exact hh.mem _ _ (by repeat (first | exact hms | exact List.mem_append_left _ hms | apply List.mem_cons_of_mem | apply List.mem_append_right)))
            refine d_step (fun _ => hM) ?_
            refine d_one (i := 20) (by kernel_rfl) rfl ?_
            try clear hM
            refine id (w_storeA hl hh trivial agg57 rfl rfl (by repeat (first | exact find_head | apply find_tail | apply find_skip)) (by first | rfl | (simp; done)) (by first | (simp; done) | (simp; omega) | exact fm0 (by rw [nm_len (by omega)]; omega)) (by first | rfl | (simp; done) | rfl) (by first | exact nm_set (by omega) | (simp only [setL, List.getElem?_cons_zero, List.getElem?_cons_succ, Value.cells, List.take_zero, List.take_succ_cons, List.take_nil, List.drop_zero, List.drop_succ_cons, List.drop_nil, List.length_cons, List.length_nil, List.cons_append, List.nil_append, List.append_nil, Nat.zero_add, Nat.add_zero, Nat.reduceAdd, Nat.reduceBEq, Nat.reduceEqDiff, Nat.ble, BEq.rfl, Bool.and_true, Bool.and_self, cond_true, beq_self_eq_true]; rfl)) ?_)
            clear hh w; intro w hh
            refine d_step (fun h => absurd h (by decide)) ?_
            refine d_done (by kernel_rfl) ?_
            try clear hM
            exact ⟨rfl, k7, k52, jk52, oh, ohc, oE, ⟨hjk52, hRo⟩, hl.addE (t := 2) (hl.addE (t := 4) (hl.addE (t := 5) (hl.addE (t := 7) (hl.nil) rfl (by first | rfl)) rfl (by first | rfl)) rfl (by first | rfl)) rfl (by first | rfl), hh.keep (by repeat (first | exact keeps_nil | apply keeps_cons (by repeat (first | exact find_head | apply find_tail | apply find_skip)) (by first  | rfl) | exact keeps_self | exact keeps_left | apply keeps_app | apply keeps_mv | apply keeps_skip))⟩
          ·
            try clear hM
            refine id (w_alloc hl hh rfl trivial zero57 rfl ?_)
            clear hl hh a w; intro k7 a w hl hh
            have hM : Mem [(X.sb, C [.string r.p, .slice hp r.a.length hc, .slice (some ⟨X.bb, 0, none⟩) X.xs.length X.xs.length, .int .i64 (X.vs : Int), .slice (some ⟨X.ob, 0, none⟩) X.vs X.vs] 127)] w := (fun b o m => by rw [List.mem_singleton] at m; cases m; exact hh.mem _ _ (by repeat (first | exact hms | exact List.mem_append_left _ hms | apply List.mem_cons_of_mem | apply List.mem_append_right)))
            refine d_step (fun _ => hM) ?_
            refine d_one (i := 17) (by kernel_rfl) rfl ?_
            try clear hM
            refine id (w_makeSlice0 hl hh rfl trivial app55 rfl rfl (by omega) (by decide) ?_)
            clear hl hh a w; intro k52 jk52 a w hjk52 hl hh
            have hjk52 := hjk52
            have hM : Mem [(X.sb, C [.string r.p, .slice hp r.a.length hc, .slice (some ⟨X.bb, 0, none⟩) X.xs.length X.xs.length, .int .i64 (X.vs : Int), .slice (some ⟨X.ob, 0, none⟩) X.vs X.vs] 127)] w := (fun b o m => by rw [List.mem_singleton] at m; cases m; exact hh.mem _ _ (by repeat (first | exact hms | exact List.mem_append_left _ hms | apply List.mem_cons_of_mem | apply List.mem_append_right)))
            refine d_step (fun _ => hM) ?_
            refine d_take (i := 18) hl rfl (by kernel_rfl) (by kernel_rfl) (by kernel_rfl) (by kernel_rfl) (by kernel_rfl) rfl trivial (fun _ _ _ h => by cases h.1) hM (fun w hC => r_build hl rfl zero57 bld57 (by simp only [fillL, setL, List.getElem?_cons_zero, List.getElem?_cons_succ, Value.cells, List.take_zero, List.take_succ_cons, List.take_nil, List.drop_zero, List.drop_succ_cons, List.drop_nil, List.length_cons, List.length_nil, List.cons_append, List.nil_append, List.append_nil, Nat.zero_add, Nat.add_zero, Nat.reduceAdd, Nat.reduceBEq, Nat.reduceEqDiff, Nat.ble, BEq.rfl, Bool.and_true, Bool.and_self, cond_true, beq_self_eq_true]; rfl)) rfl ?_
            clear hl a; intro a hl
            refine d_one (i := 20) (by kernel_rfl) rfl ?_
            try clear hM
            refine id (w_storeA hl hh trivial agg57 rfl rfl (by repeat (first | exact find_head | apply find_tail | apply find_skip)) (by first | rfl | (simp; done)) (by first | (simp; done) | (simp; omega) | exact fm0 (by rw [nm_len (by omega)]; omega)) (by first | rfl | (simp; done) | rfl) (by first | exact nm_set (by omega) | (simp only [setL, List.getElem?_cons_zero, List.getElem?_cons_succ, Value.cells, List.take_zero, List.take_succ_cons, List.take_nil, List.drop_zero, List.drop_succ_cons, List.drop_nil, List.length_cons, List.length_nil, List.cons_append, List.nil_append, List.append_nil, Nat.zero_add, Nat.add_zero, Nat.reduceAdd, Nat.reduceBEq, Nat.reduceEqDiff, Nat.ble, BEq.rfl, Bool.and_true, Bool.and_self, cond_true, beq_self_eq_true]; rfl)) ?_)
            clear hh w; intro w hh
            refine d_step (fun h => absurd h (by decide)) ?_
            refine d_done (by kernel_rfl) ?_
            try clear hM
            exact ⟨rfl, k7, k52, jk52, oh, ohc, oE, ⟨hjk52, hRo⟩, hl.addE (t := 2) (hl.addE (t := 4) (hl.addE (t := 5) (hl.addE (t := 7) (hl.nil) rfl (by first | rfl)) rfl (by first | rfl)) rfl (by first | rfl)) rfl (by first | rfl), hh.keep (by repeat (first | exact keeps_nil | apply keeps_cons (by repeat (first | exact find_head | apply find_tail | apply find_skip)) (by first  | rfl) | exact keeps_self | exact keeps_left | apply keeps_app | apply keeps_mv | apply keeps_skip))⟩
        ·
          try clear hM
          refine id (w_makeSlice0 hl hh rfl trivial app55 rfl rfl (by omega) (by decide) ?_)
          clear hl hh a w; intro k52 jk52 a w hjk52 hl hh
          have hjk52 := hjk52
          have hM : Mem [(X.sb, C [.string r.p, .slice hp r.a.length hc, .slice (some ⟨X.bb, 0, none⟩) X.xs.length X.xs.length, .int .i64 (X.vs : Int), .slice (some ⟨X.ob, 0, none⟩) X.vs X.vs] 127)] w := (fun b o m => by rw [List.mem_singleton] at m; cases m; exact hh.mem _ _ (by repeat (first | exact hms | exact List.mem_append_left _ hms | apply List.mem_cons_of_mem | apply List.mem_append_right)))
          refine d_step (fun _ => hM) ?_
          refine d_two (i := 10) (j := 19) (by kernel_rfl) rfl rfl ?_ ?_
          ·
            try clear hM
            refine id (w_call hl hh rfl trivial rfl cal57 rfl (read_keep k5 0 [.int .u64 0, .slice (some ⟨k22, 0, none⟩) X.vs X.vs, .int .i64 0] 129 (List.replicate X.vs (-1)) (some ⟨k22, 0, none⟩) X.vs [] (.inr ⟨k22, rfl, by simp⟩) 0 (rnTs [] r.a).2 hp hc hE hAh (own_apart hh (A := (k5, C [.int .u64 0, .slice (some ⟨k22, 0, none⟩) X.vs X.vs, .int .i64 0] 129) :: nbE (some ⟨k22, 0, none⟩) [] (List.replicate X.vs (-1))) (Zf := ZF) (by repeat (first | exact keeps_nil | apply keeps_cons (by repeat (first | exact find_head | apply find_tail | apply find_skip)) (by first  | rfl) | exact keeps_self | exact keeps_left | apply keeps_app | apply keeps_mv | apply keeps_skip)) hhE) (by rw [List.length_replicate]; rfl) rfl hvb0 (by simp; omega) (by omega)) (by repeat (first | exact keeps_nil | apply keeps_cons (by repeat (first | exact find_head | apply find_tail | apply find_skip)) (by first  | rfl) | exact keeps_self | exact keeps_left | apply keeps_app | apply keeps_mv | apply keeps_skip)) (fun b o m => hh.mem _ _ (by repeat (first | exact (hhE _ m) | exact List.mem_append_left _ (hhE _ m) | apply List.mem_cons_of_mem | apply List.mem_append_right))) ?_)
            clear hl hh a w; intro vc Fc a w hR hl hh
            obtain ⟨oE, hRo, rfl⟩ := hR
            try simp only [List.cons_append, List.nil_append, List.append_assoc, List.append_nil] at hh
            simp only [setL, Nat.zero_add, List.take_succ_cons, List.take_zero, List.drop_succ_cons, List.drop_zero, List.drop_nil, List.cons_append, List.nil_append, List.length_cons, List.length_nil, Nat.reduceAdd, List.append_nil] at hh
            obtain ⟨oh, ohc, hvo⟩ := row_val hRo
            subst hvo
            rw [show (rnTs [] r.a).2.length = (rdTs ((List.replicate X.vs (-1)), 0) (rnTs [] r.a).2).2.length from (rdTs_len _ _).symm] at hl hRo
            have hM : Mem [(X.sb, C [.string r.p, .slice hp r.a.length hc, .slice (some ⟨X.bb, 0, none⟩) X.xs.length X.xs.length, .int .i64 (X.vs : Int), .slice (some ⟨X.ob, 0, none⟩) X.vs X.vs] 127)] w := (fun b o m => by rw [List.mem_singleton] at m; cases m; exact hh.mem _ _ (by repeat (first | exact hms | exact List.mem_append_left _ hms | apply List.mem_cons_of_mem | apply List.mem_append_right)))
            refine d_step (fun _ => hM) ?_
            refine d_take (i := 11) hl rfl (by kernel_rfl) (by kernel_rfl) (by kernel_rfl) (by kernel_rfl) (by kernel_rfl) rfl trivial (fun _ _ _ h => by cases h.1) hM (fun w hC => r_build hl rfl zero46 bld46 (by simp only [fillL, setL, List.getElem?_cons_zero, List.getElem?_cons_succ, Value.cells, List.take_zero, List.take_succ_cons, List.take_nil, List.drop_zero, List.drop_succ_cons, List.drop_nil, List.length_cons, List.length_nil, List.cons_append, List.nil_append, List.append_nil, Nat.zero_add, Nat.add_zero, Nat.reduceAdd, Nat.reduceBEq, Nat.reduceEqDiff, Nat.ble, BEq.rfl, Bool.and_true, Bool.and_self, cond_true, beq_self_eq_true]; rfl)) rfl ?_
            clear hl a; intro a hl
            refine d_take (i := 18) hl rfl (by kernel_rfl) (by kernel_rfl) (by kernel_rfl) (by kernel_rfl) (by kernel_rfl) rfl trivial (fun _ _ _ h => by cases h.1) hM (fun w hC => r_build hl rfl zero57 bld57 (by simp only [fillL, setL, List.getElem?_cons_zero, List.getElem?_cons_succ, Value.cells, List.take_zero, List.take_succ_cons, List.take_nil, List.drop_zero, List.drop_succ_cons, List.drop_nil, List.length_cons, List.length_nil, List.cons_append, List.nil_append, List.append_nil, Nat.zero_add, Nat.add_zero, Nat.reduceAdd, Nat.reduceBEq, Nat.reduceEqDiff, Nat.ble, BEq.rfl, Bool.and_true, Bool.and_self, cond_true, beq_self_eq_true]; rfl)) rfl ?_
            clear hl a; intro a hl
            refine d_one (i := 19) (by kernel_rfl) rfl ?_
            try clear hM
            refine id (w_alloc hl hh rfl trivial zero57 rfl ?_)
            clear hl hh a w; intro k7 a w hl hh
            have hM : Mem [(X.sb, C [.string r.p, .slice hp r.a.length hc, .slice (some ⟨X.bb, 0, none⟩) X.xs.length X.xs.length, .int .i64 (X.vs : Int), .slice (some ⟨X.ob, 0, none⟩) X.vs X.vs] 127)] w := (fun b o m => by rw [List.mem_singleton] at m; cases m; exact hh.mem _ _ (by repeat (first | exact hms | exact List.mem_append_left _ hms | apply List.mem_cons_of_mem | apply List.mem_append_right)))
            refine d_step (fun _ => hM) ?_
            refine d_one (i := 20) (by kernel_rfl) rfl ?_
            try clear hM
            refine id (w_storeA hl hh trivial agg57 rfl rfl (by repeat (first | exact find_head | apply find_tail | apply find_skip)) (by first | rfl | (simp; done)) (by first | (simp; done) | (simp; omega) | exact fm0 (by rw [nm_len (by omega)]; omega)) (by first | rfl | (simp; done) | rfl) (by first | exact nm_set (by omega) | (simp only [setL, List.getElem?_cons_zero, List.getElem?_cons_succ, Value.cells, List.take_zero, List.take_succ_cons, List.take_nil, List.drop_zero, List.drop_succ_cons, List.drop_nil, List.length_cons, List.length_nil, List.cons_append, List.nil_append, List.append_nil, Nat.zero_add, Nat.add_zero, Nat.reduceAdd, Nat.reduceBEq, Nat.reduceEqDiff, Nat.ble, BEq.rfl, Bool.and_true, Bool.and_self, cond_true, beq_self_eq_true]; rfl)) ?_)
            clear hh w; intro w hh
            refine d_step (fun h => absurd h (by decide)) ?_
            refine d_done (by kernel_rfl) ?_
            try clear hM
            exact ⟨rfl, k7, k52, jk52, oh, ohc, oE, ⟨hjk52, hRo⟩, hl.addE (t := 2) (hl.addE (t := 4) (hl.addE (t := 5) (hl.addE (t := 7) (hl.nil) rfl (by first | rfl)) rfl (by first | rfl)) rfl (by first | rfl)) rfl (by first | rfl), hh.keep (by repeat (first | exact keeps_nil | apply keeps_cons (by repeat (first | exact find_head | apply find_tail | apply find_skip)) (by first  | rfl) | exact keeps_self | exact keeps_left | apply keeps_app | apply keeps_mv | apply keeps_skip))⟩
          ·
            try clear hM
            refine id (w_alloc hl hh rfl trivial zero57 rfl ?_)
            clear hl hh a w; intro k7 a w hl hh
            have hM : Mem [(X.sb, C [.string r.p, .slice hp r.a.length hc, .slice (some ⟨X.bb, 0, none⟩) X.xs.length X.xs.length, .int .i64 (X.vs : Int), .slice (some ⟨X.ob, 0, none⟩) X.vs X.vs] 127)] w := (fun b o m => by rw [List.mem_singleton] at m; cases m; exact hh.mem _ _ (by repeat (first | exact hms | exact List.mem_append_left _ hms | apply List.mem_cons_of_mem | apply List.mem_append_right)))
            refine d_step (fun _ => hM) ?_
            refine d_one (i := 10) (by kernel_rfl) rfl ?_
            try clear hM
            refine id (w_call hl hh rfl trivial rfl cal57 rfl (read_keep k5 0 [.int .u64 0, .slice (some ⟨k22, 0, none⟩) X.vs X.vs, .int .i64 0] 129 (List.replicate X.vs (-1)) (some ⟨k22, 0, none⟩) X.vs [] (.inr ⟨k22, rfl, by simp⟩) 0 (rnTs [] r.a).2 hp hc hE hAh (own_apart hh (A := (k5, C [.int .u64 0, .slice (some ⟨k22, 0, none⟩) X.vs X.vs, .int .i64 0] 129) :: nbE (some ⟨k22, 0, none⟩) [] (List.replicate X.vs (-1))) (Zf := ZF) (by repeat (first | exact keeps_nil | apply keeps_cons (by repeat (first | exact find_head | apply find_tail | apply find_skip)) (by first  | rfl) | exact keeps_self | exact keeps_left | apply keeps_app | apply keeps_mv | apply keeps_skip)) hhE) (by rw [List.length_replicate]; rfl) rfl hvb0 (by simp; omega) (by omega)) (by repeat (first | exact keeps_nil | apply keeps_cons (by repeat (first | exact find_head | apply find_tail | apply find_skip)) (by first  | rfl) | exact keeps_self | exact keeps_left | apply keeps_app | apply keeps_mv | apply keeps_skip)) (fun b o m => hh.mem _ _ (by repeat (first | exact (hhE _ m) | exact List.mem_append_left _ (hhE _ m) | apply List.mem_cons_of_mem | apply List.mem_append_right))) ?_)
            clear hl hh a w; intro vc Fc a w hR hl hh
            obtain ⟨oE, hRo, rfl⟩ := hR
            try simp only [List.cons_append, List.nil_append, List.append_assoc, List.append_nil] at hh
            simp only [setL, Nat.zero_add, List.take_succ_cons, List.take_zero, List.drop_succ_cons, List.drop_zero, List.drop_nil, List.cons_append, List.nil_append, List.length_cons, List.length_nil, Nat.reduceAdd, List.append_nil] at hh
            obtain ⟨oh, ohc, hvo⟩ := row_val hRo
            subst hvo
            rw [show (rnTs [] r.a).2.length = (rdTs ((List.replicate X.vs (-1)), 0) (rnTs [] r.a).2).2.length from (rdTs_len _ _).symm] at hl hRo
            have hM : Mem [(X.sb, C [.string r.p, .slice hp r.a.length hc, .slice (some ⟨X.bb, 0, none⟩) X.xs.length X.xs.length, .int .i64 (X.vs : Int), .slice (some ⟨X.ob, 0, none⟩) X.vs X.vs] 127)] w := (fun b o m => by rw [List.mem_singleton] at m; cases m; exact hh.mem _ _ (by repeat (first | exact hms | exact List.mem_append_left _ hms | apply List.mem_cons_of_mem | apply List.mem_append_right)))
            refine d_step (fun _ => hM) ?_
            refine d_take (i := 11) hl rfl (by kernel_rfl) (by kernel_rfl) (by kernel_rfl) (by kernel_rfl) (by kernel_rfl) rfl trivial (fun _ _ _ h => by cases h.1) hM (fun w hC => r_build hl rfl zero46 bld46 (by simp only [fillL, setL, List.getElem?_cons_zero, List.getElem?_cons_succ, Value.cells, List.take_zero, List.take_succ_cons, List.take_nil, List.drop_zero, List.drop_succ_cons, List.drop_nil, List.length_cons, List.length_nil, List.cons_append, List.nil_append, List.append_nil, Nat.zero_add, Nat.add_zero, Nat.reduceAdd, Nat.reduceBEq, Nat.reduceEqDiff, Nat.ble, BEq.rfl, Bool.and_true, Bool.and_self, cond_true, beq_self_eq_true]; rfl)) rfl ?_
            clear hl a; intro a hl
            refine d_take (i := 18) hl rfl (by kernel_rfl) (by kernel_rfl) (by kernel_rfl) (by kernel_rfl) (by kernel_rfl) rfl trivial (fun _ _ _ h => by cases h.1) hM (fun w hC => r_build hl rfl zero57 bld57 (by simp only [fillL, setL, List.getElem?_cons_zero, List.getElem?_cons_succ, Value.cells, List.take_zero, List.take_succ_cons, List.take_nil, List.drop_zero, List.drop_succ_cons, List.drop_nil, List.length_cons, List.length_nil, List.cons_append, List.nil_append, List.append_nil, Nat.zero_add, Nat.add_zero, Nat.reduceAdd, Nat.reduceBEq, Nat.reduceEqDiff, Nat.ble, BEq.rfl, Bool.and_true, Bool.and_self, cond_true, beq_self_eq_true]; rfl)) rfl ?_
            clear hl a; intro a hl
            refine d_one (i := 20) (by kernel_rfl) rfl ?_
            try clear hM
            refine id (w_storeA hl hh trivial agg57 rfl rfl (by repeat (first | exact find_head | apply find_tail | apply find_skip)) (by first | rfl | (simp; done)) (by first | (simp; done) | (simp; omega) | exact fm0 (by rw [nm_len (by omega)]; omega)) (by first | rfl | (simp; done) | rfl) (by first | exact nm_set (by omega) | (simp only [setL, List.getElem?_cons_zero, List.getElem?_cons_succ, Value.cells, List.take_zero, List.take_succ_cons, List.take_nil, List.drop_zero, List.drop_succ_cons, List.drop_nil, List.length_cons, List.length_nil, List.cons_append, List.nil_append, List.append_nil, Nat.zero_add, Nat.add_zero, Nat.reduceAdd, Nat.reduceBEq, Nat.reduceEqDiff, Nat.ble, BEq.rfl, Bool.and_true, Bool.and_self, cond_true, beq_self_eq_true]; rfl)) ?_)
            clear hh w; intro w hh
            refine d_step (fun h => absurd h (by decide)) ?_
            refine d_done (by kernel_rfl) ?_
            try clear hM
            exact ⟨rfl, k7, k52, jk52, oh, ohc, oE, ⟨hjk52, hRo⟩, hl.addE (t := 2) (hl.addE (t := 4) (hl.addE (t := 5) (hl.addE (t := 7) (hl.nil) rfl (by first | rfl)) rfl (by first | rfl)) rfl (by first | rfl)) rfl (by first | rfl), hh.keep (by repeat (first | exact keeps_nil | apply keeps_cons (by repeat (first | exact find_head | apply find_tail | apply find_skip)) (by first  | rfl) | exact keeps_self | exact keeps_left | apply keeps_app | apply keeps_mv | apply keeps_skip))⟩
        ·
          try clear hM
          refine id (w_alloc hl hh rfl trivial zero57 rfl ?_)
          clear hl hh a w; intro k7 a w hl hh
          have hM : Mem [(X.sb, C [.string r.p, .slice hp r.a.length hc, .slice (some ⟨X.bb, 0, none⟩) X.xs.length X.xs.length, .int .i64 (X.vs : Int), .slice (some ⟨X.ob, 0, none⟩) X.vs X.vs] 127)] w := (fun b o m => by rw [List.mem_singleton] at m; cases m; exact hh.mem _ _ (by repeat (first | exact hms | exact List.mem_append_left _ hms | apply List.mem_cons_of_mem | apply List.mem_append_right)))
          refine d_step (fun _ => hM) ?_
          refine d_two (i := 10) (j := 17) (by kernel_rfl) rfl rfl ?_ ?_
          ·
            try clear hM
            refine id (w_call hl hh rfl trivial rfl cal57 rfl (read_keep k5 0 [.int .u64 0, .slice (some ⟨k22, 0, none⟩) X.vs X.vs, .int .i64 0] 129 (List.replicate X.vs (-1)) (some ⟨k22, 0, none⟩) X.vs [] (.inr ⟨k22, rfl, by simp⟩) 0 (rnTs [] r.a).2 hp hc hE hAh (own_apart hh (A := (k5, C [.int .u64 0, .slice (some ⟨k22, 0, none⟩) X.vs X.vs, .int .i64 0] 129) :: nbE (some ⟨k22, 0, none⟩) [] (List.replicate X.vs (-1))) (Zf := ZF) (by repeat (first | exact keeps_nil | apply keeps_cons (by repeat (first | exact find_head | apply find_tail | apply find_skip)) (by first  | rfl) | exact keeps_self | exact keeps_left | apply keeps_app | apply keeps_mv | apply keeps_skip)) hhE) (by rw [List.length_replicate]; rfl) rfl hvb0 (by simp; omega) (by omega)) (by repeat (first | exact keeps_nil | apply keeps_cons (by repeat (first | exact find_head | apply find_tail | apply find_skip)) (by first  | rfl) | exact keeps_self | exact keeps_left | apply keeps_app | apply keeps_mv | apply keeps_skip)) (fun b o m => hh.mem _ _ (by repeat (first | exact (hhE _ m) | exact List.mem_append_left _ (hhE _ m) | apply List.mem_cons_of_mem | apply List.mem_append_right))) ?_)
            clear hl hh a w; intro vc Fc a w hR hl hh
            obtain ⟨oE, hRo, rfl⟩ := hR
            try simp only [List.cons_append, List.nil_append, List.append_assoc, List.append_nil] at hh
            simp only [setL, Nat.zero_add, List.take_succ_cons, List.take_zero, List.drop_succ_cons, List.drop_zero, List.drop_nil, List.cons_append, List.nil_append, List.length_cons, List.length_nil, Nat.reduceAdd, List.append_nil] at hh
            obtain ⟨oh, ohc, hvo⟩ := row_val hRo
            subst hvo
            rw [show (rnTs [] r.a).2.length = (rdTs ((List.replicate X.vs (-1)), 0) (rnTs [] r.a).2).2.length from (rdTs_len _ _).symm] at hl hRo
            have hM : Mem [(X.sb, C [.string r.p, .slice hp r.a.length hc, .slice (some ⟨X.bb, 0, none⟩) X.xs.length X.xs.length, .int .i64 (X.vs : Int), .slice (some ⟨X.ob, 0, none⟩) X.vs X.vs] 127)] w := (fun b o m => by rw [List.mem_singleton] at m; cases m; exact hh.mem _ _ (by repeat (first | exact hms | exact List.mem_append_left _ hms | apply List.mem_cons_of_mem | apply List.mem_append_right)))
            refine d_step (fun _ => hM) ?_
            refine d_take (i := 11) hl rfl (by kernel_rfl) (by kernel_rfl) (by kernel_rfl) (by kernel_rfl) (by kernel_rfl) rfl trivial (fun _ _ _ h => by cases h.1) hM (fun w hC => r_build hl rfl zero46 bld46 (by simp only [fillL, setL, List.getElem?_cons_zero, List.getElem?_cons_succ, Value.cells, List.take_zero, List.take_succ_cons, List.take_nil, List.drop_zero, List.drop_succ_cons, List.drop_nil, List.length_cons, List.length_nil, List.cons_append, List.nil_append, List.append_nil, Nat.zero_add, Nat.add_zero, Nat.reduceAdd, Nat.reduceBEq, Nat.reduceEqDiff, Nat.ble, BEq.rfl, Bool.and_true, Bool.and_self, cond_true, beq_self_eq_true]; rfl)) rfl ?_
            clear hl a; intro a hl
            refine d_one (i := 17) (by kernel_rfl) rfl ?_
            try clear hM
            refine id (w_makeSlice0 hl hh rfl trivial app55 rfl rfl (by omega) (by decide) ?_)
            clear hl hh a w; intro k52 jk52 a w hjk52 hl hh
            have hjk52 := hjk52
            have hM : Mem [(X.sb, C [.string r.p, .slice hp r.a.length hc, .slice (some ⟨X.bb, 0, none⟩) X.xs.length X.xs.length, .int .i64 (X.vs : Int), .slice (some ⟨X.ob, 0, none⟩) X.vs X.vs] 127)] w := (fun b o m => by rw [List.mem_singleton] at m; cases m; exact hh.mem _ _ (by repeat (first | exact hms | exact List.mem_append_left _ hms | apply List.mem_cons_of_mem | apply List.mem_append_right)))
            refine d_step (fun _ => hM) ?_
            refine d_take (i := 18) hl rfl (by kernel_rfl) (by kernel_rfl) (by kernel_rfl) (by kernel_rfl) (by kernel_rfl) rfl trivial (fun _ _ _ h => by cases h.1) hM (fun w hC => r_build hl rfl zero57 bld57 (by simp only [fillL, setL, List.getElem?_cons_zero, List.getElem?_cons_succ, Value.cells, List.take_zero, List.take_succ_cons, List.take_nil, List.drop_zero, List.drop_succ_cons, List.drop_nil, List.length_cons, List.length_nil, List.cons_append, List.nil_append, List.append_nil, Nat.zero_add, Nat.add_zero, Nat.reduceAdd, Nat.reduceBEq, Nat.reduceEqDiff, Nat.ble, BEq.rfl, Bool.and_true, Bool.and_self, cond_true, beq_self_eq_true]; rfl)) rfl ?_
            clear hl a; intro a hl
            refine d_one (i := 20) (by kernel_rfl) rfl ?_
            try clear hM
            refine id (w_storeA hl hh trivial agg57 rfl rfl (by repeat (first | exact find_head | apply find_tail | apply find_skip)) (by first | rfl | (simp; done)) (by first | (simp; done) | (simp; omega) | exact fm0 (by rw [nm_len (by omega)]; omega)) (by first | rfl | (simp; done) | rfl) (by first | exact nm_set (by omega) | (simp only [setL, List.getElem?_cons_zero, List.getElem?_cons_succ, Value.cells, List.take_zero, List.take_succ_cons, List.take_nil, List.drop_zero, List.drop_succ_cons, List.drop_nil, List.length_cons, List.length_nil, List.cons_append, List.nil_append, List.append_nil, Nat.zero_add, Nat.add_zero, Nat.reduceAdd, Nat.reduceBEq, Nat.reduceEqDiff, Nat.ble, BEq.rfl, Bool.and_true, Bool.and_self, cond_true, beq_self_eq_true]; rfl)) ?_)
            clear hh w; intro w hh
            refine d_step (fun h => absurd h (by decide)) ?_
            refine d_done (by kernel_rfl) ?_
            try clear hM
            exact ⟨rfl, k7, k52, jk52, oh, ohc, oE, ⟨hjk52, hRo⟩, hl.addE (t := 2) (hl.addE (t := 4) (hl.addE (t := 5) (hl.addE (t := 7) (hl.nil) rfl (by first | rfl)) rfl (by first | rfl)) rfl (by first | rfl)) rfl (by first | rfl), hh.keep (by repeat (first | exact keeps_nil | apply keeps_cons (by repeat (first | exact find_head | apply find_tail | apply find_skip)) (by first  | rfl) | exact keeps_self | exact keeps_left | apply keeps_app | apply keeps_mv | apply keeps_skip))⟩
          ·
            try clear hM
            refine id (w_makeSlice0 hl hh rfl trivial app55 rfl rfl (by omega) (by decide) ?_)
            clear hl hh a w; intro k52 jk52 a w hjk52 hl hh
            have hjk52 := hjk52
            have hM : Mem [(X.sb, C [.string r.p, .slice hp r.a.length hc, .slice (some ⟨X.bb, 0, none⟩) X.xs.length X.xs.length, .int .i64 (X.vs : Int), .slice (some ⟨X.ob, 0, none⟩) X.vs X.vs] 127)] w := (fun b o m => by rw [List.mem_singleton] at m; cases m; exact hh.mem _ _ (by repeat (first | exact hms | exact List.mem_append_left _ hms | apply List.mem_cons_of_mem | apply List.mem_append_right)))
            refine d_step (fun _ => hM) ?_
            refine d_one (i := 10) (by kernel_rfl) rfl ?_
            try clear hM
            refine id (w_call hl hh rfl trivial rfl cal57 rfl (read_keep k5 0 [.int .u64 0, .slice (some ⟨k22, 0, none⟩) X.vs X.vs, .int .i64 0] 129 (List.replicate X.vs (-1)) (some ⟨k22, 0, none⟩) X.vs [] (.inr ⟨k22, rfl, by simp⟩) 0 (rnTs [] r.a).2 hp hc hE hAh (own_apart hh (A := (k5, C [.int .u64 0, .slice (some ⟨k22, 0, none⟩) X.vs X.vs, .int .i64 0] 129) :: nbE (some ⟨k22, 0, none⟩) [] (List.replicate X.vs (-1))) (Zf := ZF) (by repeat (first | exact keeps_nil | apply keeps_cons (by repeat (first | exact find_head | apply find_tail | apply find_skip)) (by first  | rfl) | exact keeps_self | exact keeps_left | apply keeps_app | apply keeps_mv | apply keeps_skip)) hhE) (by rw [List.length_replicate]; rfl) rfl hvb0 (by simp; omega) (by omega)) (by repeat (first | exact keeps_nil | apply keeps_cons (by repeat (first | exact find_head | apply find_tail | apply find_skip)) (by first  | rfl) | exact keeps_self | exact keeps_left | apply keeps_app | apply keeps_mv | apply keeps_skip)) (fun b o m => hh.mem _ _ (by repeat (first | exact (hhE _ m) | exact List.mem_append_left _ (hhE _ m) | apply List.mem_cons_of_mem | apply List.mem_append_right))) ?_)
            clear hl hh a w; intro vc Fc a w hR hl hh
            obtain ⟨oE, hRo, rfl⟩ := hR
            try simp only [List.cons_append, List.nil_append, List.append_assoc, List.append_nil] at hh
            simp only [setL, Nat.zero_add, List.take_succ_cons, List.take_zero, List.drop_succ_cons, List.drop_zero, List.drop_nil, List.cons_append, List.nil_append, List.length_cons, List.length_nil, Nat.reduceAdd, List.append_nil] at hh
            obtain ⟨oh, ohc, hvo⟩ := row_val hRo
            subst hvo
            rw [show (rnTs [] r.a).2.length = (rdTs ((List.replicate X.vs (-1)), 0) (rnTs [] r.a).2).2.length from (rdTs_len _ _).symm] at hl hRo
            have hM : Mem [(X.sb, C [.string r.p, .slice hp r.a.length hc, .slice (some ⟨X.bb, 0, none⟩) X.xs.length X.xs.length, .int .i64 (X.vs : Int), .slice (some ⟨X.ob, 0, none⟩) X.vs X.vs] 127)] w := (fun b o m => by rw [List.mem_singleton] at m; cases m; exact hh.mem _ _ (by repeat (first | exact hms | exact List.mem_append_left _ hms | apply List.mem_cons_of_mem | apply List.mem_append_right)))
            refine d_step (fun _ => hM) ?_
            refine d_take (i := 11) hl rfl (by kernel_rfl) (by kernel_rfl) (by kernel_rfl) (by kernel_rfl) (by kernel_rfl) rfl trivial (fun _ _ _ h => by cases h.1) hM (fun w hC => r_build hl rfl zero46 bld46 (by simp only [fillL, setL, List.getElem?_cons_zero, List.getElem?_cons_succ, Value.cells, List.take_zero, List.take_succ_cons, List.take_nil, List.drop_zero, List.drop_succ_cons, List.drop_nil, List.length_cons, List.length_nil, List.cons_append, List.nil_append, List.append_nil, Nat.zero_add, Nat.add_zero, Nat.reduceAdd, Nat.reduceBEq, Nat.reduceEqDiff, Nat.ble, BEq.rfl, Bool.and_true, Bool.and_self, cond_true, beq_self_eq_true]; rfl)) rfl ?_
            clear hl a; intro a hl
            refine d_take (i := 18) hl rfl (by kernel_rfl) (by kernel_rfl) (by kernel_rfl) (by kernel_rfl) (by kernel_rfl) rfl trivial (fun _ _ _ h => by cases h.1) hM (fun w hC => r_build hl rfl zero57 bld57 (by simp only [fillL, setL, List.getElem?_cons_zero, List.getElem?_cons_succ, Value.cells, List.take_zero, List.take_succ_cons, List.take_nil, List.drop_zero, List.drop_succ_cons, List.drop_nil, List.length_cons, List.length_nil, List.cons_append, List.nil_append, List.append_nil, Nat.zero_add, Nat.add_zero, Nat.reduceAdd, Nat.reduceBEq, Nat.reduceEqDiff, Nat.ble, BEq.rfl, Bool.and_true, Bool.and_self, cond_true, beq_self_eq_true]; rfl)) rfl ?_
            clear hl a; intro a hl
            refine d_one (i := 20) (by kernel_rfl) rfl ?_
            try clear hM
            refine id (w_storeA hl hh trivial agg57 rfl rfl (by repeat (first | exact find_head | apply find_tail | apply find_skip)) (by first | rfl | (simp; done)) (by first | (simp; done) | (simp; omega) | exact fm0 (by rw [nm_len (by omega)]; omega)) (by first | rfl | (simp; done) | rfl) (by first | exact nm_set (by omega) | (simp only [setL, List.getElem?_cons_zero, List.getElem?_cons_succ, Value.cells, List.take_zero, List.take_succ_cons, List.take_nil, List.drop_zero, List.drop_succ_cons, List.drop_nil, List.length_cons, List.length_nil, List.cons_append, List.nil_append, List.append_nil, Nat.zero_add, Nat.add_zero, Nat.reduceAdd, Nat.reduceBEq, Nat.reduceEqDiff, Nat.ble, BEq.rfl, Bool.and_true, Bool.and_self, cond_true, beq_self_eq_true]; rfl)) ?_)
            clear hh w; intro w hh
            refine d_step (fun h => absurd h (by decide)) ?_
            refine d_done (by kernel_rfl) ?_
            try clear hM
            exact ⟨rfl, k7, k52, jk52, oh, ohc, oE, ⟨hjk52, hRo⟩, hl.addE (t := 2) (hl.addE (t := 4) (hl.addE (t := 5) (hl.addE (t := 7) (hl.nil) rfl (by first | rfl)) rfl (by first | rfl)) rfl (by first | rfl)) rfl (by first | rfl), hh.keep (by repeat (first | exact keeps_nil | apply keeps_cons (by repeat (first | exact find_head | apply find_tail | apply find_skip)) (by first  | rfl) | exact keeps_self | exact keeps_left | apply keeps_app | apply keeps_mv | apply keeps_skip))⟩
      ·
        clear hl hh a w; intro a w hI
        obtain ⟨k7, k52, jk52, oh, ohc, oE, ⟨hjk52, hRo⟩, hl, hh⟩ := hI
        have hl2 := hl.add (t := 2) (hl.add (t := 4) (hl.add (t := 5) (hl.add (t := 7) (hl.nil) rfl) rfl) rfl) rfl; clear hl; have hl := hl2; clear hl2
        refine then_normal ?_
        refine c_seq ?_
        refine c_region ?_
        refine wl (w_loadA hl hh rfl trivial agg129 rfl (by repeat (first | exact find_head | apply find_tail | apply find_skip)) (by first | (simp only [List.getElem?_cons_zero, List.getElem?_cons_succ, Value.cells, List.take_zero, List.take_succ_cons, List.take_nil, List.drop_zero, List.drop_succ_cons, List.drop_nil, List.length_cons, List.length_nil, List.cons_append, List.nil_append, List.append_nil, Nat.zero_add, Nat.add_zero, Nat.reduceAdd, Nat.reduceBEq, Nat.reduceEqDiff, Nat.ble, BEq.rfl, Bool.and_true, Bool.and_self, cond_true, beq_self_eq_true]; rfl)) (by first | rfl | (simp; done)) ?_)
        clear hl a; intro a hl
        refine wl (w_buildSlice hl hh rfl trivial app132 zero129 rfl rfl rfl rfl rfl (by simp only [fillL, arrPl, List.range_succ, List.range_zero, List.map_cons, List.map_nil, List.map_append, List.nil_append, List.replicate_succ, List.replicate_zero, List.flatten_cons, List.flatten_nil, Nat.zero_mul, Nat.mul_one, Nat.one_mul, Nat.reduceMul, setL, List.getElem?_cons_zero, List.getElem?_cons_succ, Value.cells, List.take_zero, List.take_succ_cons, List.take_nil, List.drop_zero, List.drop_succ_cons, List.drop_nil, List.length_cons, List.length_nil, List.cons_append, List.nil_append, List.append_nil, Nat.zero_add, Nat.add_zero, Nat.reduceAdd, Nat.reduceBEq, Nat.reduceEqDiff, Nat.ble, BEq.rfl, Bool.and_true, Bool.and_self, cond_true, beq_self_eq_true]; rfl) ?_)
        clear hl hh a w; intro k55 a w hl hh
        refine wl (wl_val hl rfl trivial (r_assign hl rfl) ?_)
        clear hl a; intro a hl
        refine w_nil ?_
        have hl2 := hl.add (t := 2) (hl.add (t := 4) (hl.add (t := 7) (hl.add (t := 8) (hl.nil) rfl) rfl) rfl) rfl; clear hl; have hl := hl2; clear hl2
        rw [s0_cells hh9l] at hh
        refine then_normal ?_
        refine c_seq ?_
        refine c_seq ?_
        refine c_region ?_
        refine wl (wl_val hl rfl trivial (r_move hl rfl) ?_)
        clear hl a; intro a hl
        refine wl (wl_val hl rfl trivial (r_nilCheck hl rfl) ?_)
        clear hl a; intro a hl
        refine wl (wl_val hl rfl trivial (r_field hl rfl fld127_1) ?_)
        clear hl a; intro a hl
        first | refine wl (w_load hl hh rfl trivial one55 rfl (by repeat (first | exact find_head | apply find_tail | apply find_skip)) (by first | rfl | rfl) ?_) | refine wl (wl_val hl rfl trivial (r_load hl rfl one55 (hh.mem _ _ (by repeat (first | exact hms | exact List.mem_append_left _ hms | apply List.mem_cons_of_mem | apply List.mem_append_right))) rfl) ?_)
        clear hl a; intro a hl
        refine wl (wl_val hl rfl trivial (r_lenS hl rfl slc55) ?_)
        clear hl a; intro a hl
        refine wl (wl_val hl rfl trivial (r_move hl rfl) ?_)
        clear hl a; intro a hl
        refine w_nil ?_
        have hl2 := hl.add (t := 2) (hl.add (t := 4) (hl.add (t := 7) (hl.add (t := 8) (hl.add (t := 60) (hl.add (t := 61) (hl.nil) rfl) rfl) rfl) rfl) rfl) rfl; clear hl; have hl := hl2; clear hl2
        refine then_normal ?_
        refine wp_block ?_
        obtain ⟨KS1, hKS1, hk⟩ := (hl.add (t := 2) (hl.add (t := 4) (hl.add (t := 7) (hl.add (t := 60) (hl.nil) rfl) rfl) rfl) rfl).name
        obtain ⟨HS1, hHS1, hh2⟩ := hh.nameT (A := [(k7, C [.string r.p, .slice oh (rdTs ((List.replicate X.vs (-1)), 0) (rnTs [] r.a).2).2.length ohc, .slice (some ⟨k52, 0, none⟩) 0 X.xs.length] 57)]) (U := ((k55, C (fl SQ.cells [(⟨0, (rdTs ((List.replicate X.vs (-1)), 0) (rnTs [] r.a).2).1.1, (rdTs ((List.replicate X.vs (-1)), 0) (rnTs [] r.a).2).1.2, some ⟨k22, 0, none⟩, X.vs, []⟩ : SQ)] ++ []) 129) :: (nbE (some ⟨k22, 0, none⟩) [] (rdTs ((List.replicate X.vs (-1)), 0) (rnTs [] r.a).2).1.1 ++ [(k52, C jk52 48)]))) (keeps_cons (b := k7) (o' := C [.string r.p, .slice oh (rdTs ((List.replicate X.vs (-1)), 0) (rnTs [] r.a).2).2.length ohc, .slice (some ⟨k52, 0, none⟩) 0 X.xs.length] 57) (by repeat (first | exact find_head | apply find_tail | apply find_skip)) (by first | rfl) ((by repeat (first | exact keeps_nil | apply keeps_cons (by repeat (first | exact find_head | apply find_tail | apply find_skip)) (by first  | rfl) | exact keeps_self | exact keeps_left | apply keeps_app | apply keeps_mv | apply keeps_skip))))
        refine c_loop (α := CZ) (fun z => X.xs.length - z.i) (fun z a w => (CZI X [(0, (rdTs ((List.replicate X.vs (-1)), 0) (rnTs [] r.a).2).1)] z) ∧ Sl 85 ([(61, .int .i64 (z.i : Int)), (8, .slice (some ⟨z.fb, 0, none⟩) z.bs.length z.cap)] ++ KS1) a ∧ Has _ w0 ([(k7, C [.string r.p, .slice oh (rdTs ((List.replicate X.vs (-1)), 0) (rnTs [] r.a).2).2.length ohc, .slice z.op z.out.length z.oc] 57)] ++ (HS1 ++ (((z.fb, C (fl SQ.cells z.bs ++ z.jf) 129) :: List.flatMap SQ.blk z.bs) ++ (z.oE ++ List.flatMap LV.E z.out)))) w) ⟨0, [], some ⟨k52, 0, none⟩, X.xs.length, [(k52, C jk52 48)], [(⟨0, (rdTs ((List.replicate X.vs (-1)), 0) (rnTs [] r.a).2).1.1, (rdTs ((List.replicate X.vs (-1)), 0) (rnTs [] r.a).2).1.2, some ⟨k22, 0, none⟩, X.vs, []⟩ : SQ)], k55, 1, []⟩ ⟨CZI.start X (rnTs [] r.a).2 (by rw [rnTs_len]; exact hra) k22 k52 k55 jk52 hjk52, hl.addE (t := 61) (hl.addE (t := 8) (hk) rfl (by first | rfl)) rfl (by first | rfl), hh2⟩ ?_
        clear hk hh2 hl hh a w
        intro z a w hI
        obtain ⟨hz, hl, hh⟩ := hI
        subst hKS1; subst hHS1
        simp only [List.cons_append, List.nil_append, List.append_nil, List.append_assoc] at hl hh
        have hzi0 := hz.i; have hzol := hz.ol; have hzfl := hz.fl; have hzne := hz.ne
        rw [show ([] : List (Nat × Obj)).append (oE ++ ZF) = oE ++ ZF from rfl] at hh
        simp only [List.append_assoc] at hh
        refine c_seq ?_
        refine c_region ?_
        refine wl (wl_val hl rfl trivial (r_lss hl rfl rfl) ?_)
        clear hl a; intro a hl
        refine w_nil ?_
        have hl2 := hl.add (t := 2) (hl.add (t := 4) (hl.add (t := 7) (hl.add (t := 8) (hl.add (t := 60) (hl.add (t := 61) (hl.add (t := 62) (hl.nil) rfl) rfl) rfl) rfl) rfl) rfl) rfl; clear hl; have hl := hl2; clear hl2
        refine then_normal ?_
        refine c_seq ?_
        refine c_cond hl rfl ?_ ?_
        · intro hc2
          try simp only [decide_eq_true_eq, decide_eq_false_iff_not, Bool.not_eq_true', Bool.not_eq_false', Bool.not_eq_true, Bool.not_eq_false, Bool.and_eq_true, Bool.or_eq_true, Bool.and_eq_false_iff, Bool.or_eq_false_iff, Bool.not_not, ne_eq, Int.not_lt, Int.not_le, Decidable.not_not, beq_iff_eq, bne_iff_ne] at hc2
          have hzi : z.i < X.xs.length := by omega
          have hFr : FrI X (ZF ++ ((z.fb, C (fl SQ.cells z.bs ++ z.jf) 129) :: List.flatMap SQ.blk z.bs)) z.bs z.fb z.jf := ⟨by simp, fun s q hs hq => List.mem_append_right _ (List.mem_cons_of_mem _ (List.mem_flatMap.2 ⟨s, hs, hq⟩)), fun s hs => (hz.fo s hs).1⟩
          have hpl9 : (outerP X.B (z.bs.map SQ.core) z.bs.length).2.length ≤ 900000 := by
            have h8 := outer_len (B := X.B) (cs := z.bs.map SQ.core) z.bs.length
            rw [X.bl] at h8
            have h9 := Nat.mul_le_mul hzfl hn64
            omega
          refine wp_skip ?_
          refine then_normal ?_
          refine c_seq ?_
          refine wp_block ?_
          refine c_seq ?_
          refine c_region ?_
          refine wl (wl_val hl rfl trivial (r_move hl rfl) ?_)
          clear hl a; intro a hl
          refine wl (wl_val hl rfl trivial (r_move hl rfl) ?_)
          clear hl a; intro a hl
          refine wl (w_call hl hh rfl trivial rfl cal58 rfl (least_spec X (ZF ++ ((z.fb, C (fl SQ.cells z.bs ++ z.jf) 129) :: List.flatMap SQ.blk z.bs)) (hX.mono (fun x hx => List.mem_append_left _ hx)) z.bs z.fb z.cap z.jf hFr (by have := hz.fl; omega)) (by repeat (first | exact keeps_nil | apply keeps_cons (by repeat (first | exact find_head | apply find_tail | apply find_skip)) (by first  | rfl) | exact keeps_self | exact keeps_left | apply keeps_app | apply keeps_mv | apply keeps_skip)) (memK hh (by repeat (first | exact keeps_nil | apply keeps_cons (by repeat (first | exact find_head | apply find_tail | apply find_skip)) (by first  | rfl) | exact keeps_self | exact keeps_left | apply keeps_app | apply keeps_mv | apply keeps_skip))) ?_)
          clear hl hh a w; intro vc Fc a w hR hl hh
          obtain ⟨y, pp, pc, Ep, hyo, hyl, hRp, rfl, rfl⟩ := hR
          try simp only [List.cons_append, List.nil_append, List.append_assoc, List.append_nil] at hh
          refine wl (wl_val hl rfl trivial (r_move hl rfl) ?_)
          clear hl a; intro a hl
          refine wl (wl_val hl rfl trivial (r_extract hl rfl (by simp only [List.getElem?_toArray, List.getElem?_cons_zero, List.getElem?_cons_succ]; rfl)) ?_)
          clear hl a; intro a hl
          refine wl (wl_val hl rfl trivial (r_extract hl rfl (by simp only [List.getElem?_toArray, List.getElem?_cons_zero, List.getElem?_cons_succ]; rfl)) ?_)
          clear hl a; intro a hl
          refine wl (w_alloc hl hh rfl trivial zero48 rfl ?_)
          clear hl hh a w; intro k9 a w hl hh
          refine wl (w_storeA hl hh trivial agg48 rfl rfl (by repeat (first | exact find_head | apply find_tail | apply find_skip)) (by first | rfl | (simp; done)) (by first | (simp; done) | (simp; omega) | exact fm0 (by rw [nm_len (by omega)]; omega)) (by first | rfl | (simp; done) | rfl) (by first | exact nm_set (by omega) | (simp only [setL, List.getElem?_cons_zero, List.getElem?_cons_succ, Value.cells, List.take_zero, List.take_succ_cons, List.take_nil, List.drop_zero, List.drop_succ_cons, List.drop_nil, List.length_cons, List.length_nil, List.cons_append, List.nil_append, List.append_nil, Nat.zero_add, Nat.add_zero, Nat.reduceAdd, Nat.reduceBEq, Nat.reduceEqDiff, Nat.ble, BEq.rfl, Bool.and_true, Bool.and_self, cond_true, beq_self_eq_true]; rfl)) ?_)
          clear hh w; intro w hh
          refine wl (wl_val hl rfl trivial (r_assign hl rfl) ?_)
          clear hl a; intro a hl
          refine w_nil ?_
          have hl2 := hl.add (t := 2) (hl.add (t := 4) (hl.add (t := 7) (hl.add (t := 8) (hl.add (t := 9) (hl.add (t := 10) (hl.add (t := 60) (hl.add (t := 61) (hl.nil) rfl) rfl) rfl) rfl) rfl) rfl) rfl) rfl; clear hl; have hl := hl2; clear hl2
          refine then_normal ?_
          refine c_seq ?_
          refine c_region ?_
          refine wl (wl_val hl rfl trivial (r_field hl rfl fld57_1) ?_)
          clear hl a; intro a hl
          first | refine wl (w_load hl hh rfl trivial one55 rfl (by repeat (first | exact find_head | apply find_tail | apply find_skip)) (by first | rfl | rfl) ?_) | refine wl (wl_val hl rfl trivial (r_load hl rfl one55 (hh.mem _ _ (by repeat (first | exact hms | exact List.mem_append_left _ hms | apply List.mem_cons_of_mem | apply List.mem_append_right))) rfl) ?_)
          clear hl a; intro a hl
          refine wl (w_loadA hl hh rfl trivial agg48 rfl (by repeat (first | exact find_head | apply find_tail | apply find_skip)) (by first | (simp only [List.getElem?_cons_zero, List.getElem?_cons_succ, Value.cells, List.take_zero, List.take_succ_cons, List.take_nil, List.drop_zero, List.drop_succ_cons, List.drop_nil, List.length_cons, List.length_nil, List.cons_append, List.nil_append, List.append_nil, Nat.zero_add, Nat.add_zero, Nat.reduceAdd, Nat.reduceBEq, Nat.reduceEqDiff, Nat.ble, BEq.rfl, Bool.and_true, Bool.and_self, cond_true, beq_self_eq_true]; rfl)) (by first | rfl | (simp; done)) ?_)
          clear hl a; intro a hl
          refine wl (w_buildSlice hl hh rfl trivial app55 zero48 rfl rfl rfl rfl rfl (by simp only [fillL, arrPl, List.range_succ, List.range_zero, List.map_cons, List.map_nil, List.map_append, List.nil_append, List.replicate_succ, List.replicate_zero, List.flatten_cons, List.flatten_nil, Nat.zero_mul, Nat.mul_one, Nat.one_mul, Nat.reduceMul, setL, List.getElem?_cons_zero, List.getElem?_cons_succ, Value.cells, List.take_zero, List.take_succ_cons, List.take_nil, List.drop_zero, List.drop_succ_cons, List.drop_nil, List.length_cons, List.length_nil, List.cons_append, List.nil_append, List.append_nil, Nat.zero_add, Nat.add_zero, Nat.reduceAdd, Nat.reduceBEq, Nat.reduceEqDiff, Nat.ble, BEq.rfl, Bool.and_true, Bool.and_self, cond_true, beq_self_eq_true]; rfl) ?_)
          clear hl hh a w; intro k72 a w hl hh
          refine wl (w_append (news := [.int .u8 y.l.k, .int .u8 y.l.o, .string y.l.p, .slice y.p y.l.a.length y.c]) hl hh rfl trivial app55 rfl rfl rfl hz.row (by repeat (first | exact keeps_nil | apply keeps_cons (by repeat (first | exact find_head | apply find_tail | apply find_skip)) (by first  | rfl) | exact keeps_self | exact keeps_left | apply keeps_app | apply keeps_mv | apply keeps_skip)) (hh.mem _ _ (Find.mem (by repeat (first | exact find_head | apply find_tail | apply find_skip)))) rfl rfl rfl (by omega) (by omega) (by omega) (by decide) ?_)
          clear hl hh a w; intro rv2 E2 a w hR2 hl hh
          have hh3 := hh.comm; clear hh; have hh := hh3; clear hh3
          try simp only [List.cons_append, List.nil_append, List.append_assoc, List.append_nil] at hh
          obtain ⟨p8, c8, hv8⟩ := row_val hR2
          subst hv8
          generalize E2 = E8 at hh hR2
          refine wl (wl_val hl rfl trivial (r_field hl rfl fld57_1) ?_)
          clear hl a; intro a hl
          refine wl (w_store hl hh trivial one55 rfl rfl (by repeat (first | exact find_head | apply find_tail | apply find_skip)) (by first | (simp; done) | (simp; omega) | exact fm0 (by rw [nm_len (by omega)]; omega)) (by first | rfl | assumption | (apply Row.one; assumption)) (by first | exact nm_set (by omega) | (simp only [setL, List.getElem?_cons_zero, List.getElem?_cons_succ, Value.cells, List.take_zero, List.take_succ_cons, List.take_nil, List.drop_zero, List.drop_succ_cons, List.drop_nil, List.length_cons, List.length_nil, List.cons_append, List.nil_append, List.append_nil, Nat.zero_add, Nat.add_zero, Nat.reduceAdd, Nat.reduceBEq, Nat.reduceEqDiff, Nat.ble, BEq.rfl, Bool.and_true, Bool.and_self, cond_true, beq_self_eq_true]; rfl)) ?_)
          clear hh w; intro w hh
          refine w_nil ?_
          have hl2 := hl.add (t := 2) (hl.add (t := 4) (hl.add (t := 7) (hl.add (t := 8) (hl.add (t := 10) (hl.add (t := 60) (hl.add (t := 61) (hl.nil) rfl) rfl) rfl) rfl) rfl) rfl) rfl; clear hl; have hl := hl2; clear hl2
          refine then_normal ?_
          refine c_seq ?_
          refine c_region ?_
          refine wl (wl_val hl rfl trivial (r_move hl rfl) ?_)
          clear hl a; intro a hl
          refine wl (wl_val hl rfl trivial (r_move hl rfl) ?_)
          clear hl a; intro a hl
          refine wl (wl_val hl rfl trivial (r_move hl rfl) ?_)
          clear hl a; intro a hl
          refine wl (w_call hl hh rfl trivial rfl cal59 rfl (follow_spec X (ZF ++ (((z.fb, C (fl SQ.cells z.bs ++ z.jf) 129) :: List.flatMap SQ.blk z.bs) ++ Ep)) (hX.mono (fun x hx => List.mem_append_left _ hx)) z.bs z.fb z.cap z.jf (hFr.mono (by intro x hx; rcases List.mem_append.1 hx with h9 | h9; exact List.mem_append_left _ h9; exact List.mem_append_right _ (List.mem_append_left _ h9))) (65536 * ((z.i : Int) + 1)) (fun s hs => (hz.fo s hs).2) (by omega) (by have := hz.fl; omega) (outerP X.B (z.bs.map SQ.core) z.bs.length).2 pp pc Ep hRp (fun x hx => List.mem_append_right _ (List.mem_append_right _ hx)) hpl9 hz.pk) (by repeat (first | exact keeps_nil | apply keeps_cons (by repeat (first | exact find_head | apply find_tail | apply find_skip)) (by first  | rfl) | exact keeps_self | exact keeps_left | apply keeps_app | apply keeps_mv | apply keeps_skip)) (memK hh (by repeat (first | exact keeps_nil | apply keeps_cons (by repeat (first | exact find_head | apply find_tail | apply find_skip)) (by first  | rfl) | exact keeps_self | exact keeps_left | apply keeps_app | apply keeps_mv | apply keeps_skip))) ?_)
          clear hl hh a w; intro vc Fc a w hR hl hh
          obtain ⟨nbs, p9, c9, En, hco, hnl, rfl, hRn, hokn, rfl⟩ := hR
          try simp only [List.cons_append, List.nil_append, List.append_assoc, List.append_nil] at hh
          refine wl (wl_val hl rfl trivial (r_assign hl rfl) ?_)
          clear hl a; intro a hl
          refine w_nil ?_
          have hl2 := hl.add (t := 2) (hl.add (t := 4) (hl.add (t := 7) (hl.add (t := 8) (hl.add (t := 60) (hl.add (t := 61) (hl.nil) rfl) rfl) rfl) rfl) rfl) rfl; clear hl; have hl := hl2; clear hl2
          refine then_normal ?_
          refine c_seq ?_
          refine c_region ?_
          refine wl (wl_val hl rfl trivial (r_move hl rfl) ?_)
          clear hl a; intro a hl
          refine wl (wl_val hl rfl trivial (r_lenS hl rfl slc132) ?_)
          clear hl a; intro a hl
          refine wl (wl_val hl rfl trivial (r_gtr hl rfl rfl) ?_)
          clear hl a; intro a hl
          refine w_nil ?_
          have hl2 := hl.add (t := 2) (hl.add (t := 4) (hl.add (t := 7) (hl.add (t := 8) (hl.add (t := 60) (hl.add (t := 61) (hl.add (t := 81) (hl.nil) rfl) rfl) rfl) rfl) rfl) rfl) rfl; clear hl; have hl := hl2; clear hl2
          refine then_normal ?_
          refine c_cond hl rfl ?_ ?_
          · intro hc3
            try simp only [decide_eq_true_eq, decide_eq_false_iff_not, Bool.not_eq_true', Bool.not_eq_false', Bool.not_eq_true, Bool.not_eq_false, Bool.and_eq_true, Bool.or_eq_true, Bool.and_eq_false_iff, Bool.or_eq_false_iff, Bool.not_not, ne_eq, Int.not_lt, Int.not_le, Decidable.not_not, beq_iff_eq, bne_iff_ne] at hc3
            refine c_seq ?_
            refine c_region ?_
            refine wl (wl_val hl rfl trivial (r_build hl rfl zero57 bld57 (by simp only [fillL, setL, List.getElem?_cons_zero, List.getElem?_cons_succ, Value.cells, List.take_zero, List.take_succ_cons, List.take_nil, List.drop_zero, List.drop_succ_cons, List.drop_nil, List.length_cons, List.length_nil, List.cons_append, List.nil_append, List.append_nil, Nat.zero_add, Nat.add_zero, Nat.reduceAdd, Nat.reduceBEq, Nat.reduceEqDiff, Nat.ble, BEq.rfl, Bool.and_true, Bool.and_self, cond_true, beq_self_eq_true]; rfl)) ?_)
            clear hl a; intro a hl
            refine wl (w_storeA hl hh trivial agg57 rfl rfl (by repeat (first | exact find_head | apply find_tail | apply find_skip)) (by first | rfl | (simp; done)) (by first | (simp; done) | (simp; omega) | exact fm0 (by rw [nm_len (by omega)]; omega)) (by first | rfl | (simp; done) | rfl) (by first | exact nm_set (by omega) | (simp only [setL, List.getElem?_cons_zero, List.getElem?_cons_succ, Value.cells, List.take_zero, List.take_succ_cons, List.take_nil, List.drop_zero, List.drop_succ_cons, List.drop_nil, List.length_cons, List.length_nil, List.cons_append, List.nil_append, List.append_nil, Nat.zero_add, Nat.add_zero, Nat.reduceAdd, Nat.reduceBEq, Nat.reduceEqDiff, Nat.ble, BEq.rfl, Bool.and_true, Bool.and_self, cond_true, beq_self_eq_true]; rfl)) ?_)
            clear hh w; intro w hh
            refine wl (wl_val hl rfl trivial (r_assign hl rfl) ?_)
            clear hl a; intro a hl
            refine w_nil ?_
            have hl2 := hl.add (t := 2) (hl.add (t := 3) (hl.nil) rfl) rfl; clear hl; have hl := hl2; clear hl2
            refine then_normal ?_
            refine wp_ret ?_
            refine blk_ret ?_
            refine then_ret ?_
            refine then_ret ?_
            refine blk_ret ?_
            refine then_ret ?_
            refine f_retCT (F' := []) hl hh rfl rfl agg57 (by repeat (first | exact find_head | apply find_tail | apply find_skip)) (by first | rfl | exact arrL_length _ _ | (simp; done)) rfl (by repeat (first | exact keeps_nil | apply keeps_cons (by repeat (first | exact find_head | apply find_tail | apply find_skip)) (by first  | rfl) | exact keeps_self | exact keeps_left | apply keeps_app | apply keeps_mv | apply keeps_skip)) ?_
            exact .inl ⟨by rw [hcan, hz.over hzi hco (by omega)]; rfl, rfl, rfl⟩
          · intro hc3
            try simp only [decide_eq_true_eq, decide_eq_false_iff_not, Bool.not_eq_true', Bool.not_eq_false', Bool.not_eq_true, Bool.not_eq_false, Bool.and_eq_true, Bool.or_eq_true, Bool.and_eq_false_iff, Bool.or_eq_false_iff, Bool.not_not, ne_eq, Int.not_lt, Int.not_le, Decidable.not_not, beq_iff_eq, bne_iff_ne] at hc3
            have hNx := fun fb cap jf => hz.next hn64 hzi hyo hyl (row_snoc (f := LV.c4) hR2) hco hokn (by omega) fb cap jf
            obtain ⟨fb9, jf9, hq9, hjl9, hjc9, hE9⟩ := row_pos hRn (hNx 0 0 []).ne
            rw [hq9] at hl
            rw [hE9] at hh
            have hh9 := has_sw hh (A := List.flatMap LV.E z.out ++ y.E) (by repeat (first | exact keeps_nil | apply keeps_cons (by repeat (first | exact find_head | apply find_tail | apply find_skip)) (by first  | rfl) | exact keeps_self | exact keeps_left | apply keeps_app | apply keeps_mv | apply keeps_skip)) (A' := List.flatMap LV.E (z.out ++ [y])) (by rw [List.flatMap_append]; simp)
            clear hh; have hh := hh9; clear hh9
            try simp only [List.append_assoc, List.cons_append, List.nil_append] at hh
            refine wp_skip ?_
            refine blk_normal ?_
            refine then_normal ?_
            refine c_region ?_
            first | refine wl (wl_val hl rfl trivial (r_add hl rfl rfl (by simp only [Fits]; omega)) ?_) | refine wl (wl_val hl rfl trivial (r_addW hl rfl rfl) ?_)
            clear hl a; intro a hl
            refine wl (wl_val hl rfl trivial (r_move hl rfl) ?_)
            clear hl a; intro a hl
            refine w_nil ?_
            have hl2 := hl.add (t := 2) (hl.add (t := 4) (hl.add (t := 7) (hl.add (t := 8) (hl.add (t := 60) (hl.add (t := 61) (hl.nil) rfl) rfl) rfl) rfl) rfl) rfl; clear hl; have hl := hl2; clear hl2
            refine then_normal ?_
            refine ⟨⟨z.i + 1, z.out ++ [y], p8, c8, E8, nbs, fb9, c9, jf9⟩, (by simp only; omega), hNx fb9 c9 jf9, hl.addE (t := 61) (hl.addE (t := 8) (hl.addE (t := 2) (hl.addE (t := 4) (hl.addE (t := 7) (hl.addE (t := 60) (hl.nil) rfl (by first | rfl | exact congrArg (Value.int .i64) (show (z.i : Int) + 1 = ((z.i + 1 : Nat) : Int) by omega) | (simp [List.length_append]; done))) rfl (by first | rfl | exact congrArg (Value.int .i64) (show (z.i : Int) + 1 = ((z.i + 1 : Nat) : Int) by omega) | (simp [List.length_append]; done))) rfl (by first | rfl | exact congrArg (Value.int .i64) (show (z.i : Int) + 1 = ((z.i + 1 : Nat) : Int) by omega) | (simp [List.length_append]; done))) rfl (by first | rfl | exact congrArg (Value.int .i64) (show (z.i : Int) + 1 = ((z.i + 1 : Nat) : Int) by omega) | (simp [List.length_append]; done))) rfl (by first | rfl | exact congrArg (Value.int .i64) (show (z.i : Int) + 1 = ((z.i + 1 : Nat) : Int) by omega) | (simp [List.length_append]; done))) rfl (by first | rfl | exact congrArg (Value.int .i64) (show (z.i : Int) + 1 = ((z.i + 1 : Nat) : Int) by omega) | (simp [List.length_append]; done)), hh.keep (by repeat (first | exact keeps_nil | apply keeps_cons (by repeat (first | exact find_head | apply find_tail | apply find_skip)) (by first  | (rw [List.length_append]; rfl) | rfl) | exact keeps_self | exact keeps_left | apply keeps_app | apply keeps_mv | apply keeps_skip))⟩
        · intro hc2
          try simp only [decide_eq_true_eq, decide_eq_false_iff_not, Bool.not_eq_true', Bool.not_eq_false', Bool.not_eq_true, Bool.not_eq_false, Bool.and_eq_true, Bool.or_eq_true, Bool.and_eq_false_iff, Bool.or_eq_false_iff, Bool.not_not, ne_eq, Int.not_lt, Int.not_le, Decidable.not_not, beq_iff_eq, bne_iff_ne] at hc2
          have hze : z.i = X.xs.length := by omega
          have hzc := hz.ca
          rw [hze, Nat.sub_self] at hzc
          refine wp_exit ?_
          refine then_exit ?_
          refine then_exit ?_
          refine blk_exit ?_
          refine then_normal ?_
          refine c_seq ?_
          refine c_region ?_
          refine wl (w_loadA hl hh rfl trivial agg57 rfl (by repeat (first | exact find_head | apply find_tail | apply find_skip)) (by first | (simp only [List.getElem?_cons_zero, List.getElem?_cons_succ, Value.cells, List.take_zero, List.take_succ_cons, List.take_nil, List.drop_zero, List.drop_succ_cons, List.drop_nil, List.length_cons, List.length_nil, List.cons_append, List.nil_append, List.append_nil, Nat.zero_add, Nat.add_zero, Nat.reduceAdd, Nat.reduceBEq, Nat.reduceEqDiff, Nat.ble, BEq.rfl, Bool.and_true, Bool.and_self, cond_true, beq_self_eq_true]; rfl)) (by first | rfl | (simp; done)) ?_)
          clear hl a; intro a hl
          refine wl (w_storeA hl hh trivial agg57 rfl rfl (by repeat (first | exact find_head | apply find_tail | apply find_skip)) (by first | rfl | (simp; done)) (by first | (simp; done) | (simp; omega) | exact fm0 (by rw [nm_len (by omega)]; omega)) (by first | rfl | (simp; done) | rfl) (by first | exact nm_set (by omega) | (simp only [setL, List.getElem?_cons_zero, List.getElem?_cons_succ, Value.cells, List.take_zero, List.take_succ_cons, List.take_nil, List.drop_zero, List.drop_succ_cons, List.drop_nil, List.length_cons, List.length_nil, List.cons_append, List.nil_append, List.append_nil, Nat.zero_add, Nat.add_zero, Nat.reduceAdd, Nat.reduceBEq, Nat.reduceEqDiff, Nat.ble, BEq.rfl, Bool.and_true, Bool.and_self, cond_true, beq_self_eq_true]; rfl)) ?_)
          clear hh w; intro w hh
          refine wl (wl_val hl rfl trivial (r_assign hl rfl) ?_)
          clear hl a; intro a hl
          refine w_nil ?_
          have hl2 := hl.add (t := 2) (hl.add (t := 3) (hl.nil) rfl) rfl; clear hl; have hl := hl2; clear hl2
          refine then_normal ?_
          refine wp_ret ?_
          refine f_retCT (F' := oE ++ (z.oE ++ List.flatMap LV.E z.out)) hl hh rfl rfl agg57 (by repeat (first | exact find_head | apply find_tail | apply find_skip)) (by first | rfl | exact arrL_length _ _ | (simp; done)) rfl (by repeat (first | exact keeps_nil | apply keeps_cons (by repeat (first | exact find_head | apply find_tail | apply find_skip)) (by first  | rfl) | exact keeps_self | exact keeps_left | apply keeps_app | apply keeps_mv | apply keeps_skip)) ?_
          refine .inr ⟨(⟨r.p, (rdTs ((List.replicate X.vs (-1)), 0) (rnTs [] r.a).2).2, oh, ohc, oE, z.out, z.op, z.oc, z.oE⟩ : RV), ⟨⟨hRo, by show (rdTs ((List.replicate X.vs (-1)), 0) (rnTs [] r.a).2).2.length ≤ _; rw [rdTs_len, rnTs_len]; exact hra, rd_ok hAh.ok (by simp only; omega) hAh.len (fun v => by simp only; rw [fn_m1]; omega)⟩, hz.row, hz.ok, by show z.out.length ≤ _; omega, hr.p⟩, by rw [hcan, hzc]; rfl, rfl, by unfold RV.E; rfl⟩
end Go.Proofs.Qxb6500915aGreatDoor

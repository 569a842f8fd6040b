import Derived.Test.Qxb6500915aGreatDoorA7
namespace Go.Proofs.Qxb6500915aGreatDoor
open Go.Eng
set_option linter.unusedVariables false
set_option linter.unusedSimpArgs false
theorem cal12 : callable Tryz.prog 12 = true := by kernel_rfl
theorem cal50 : callable Tryz.prog 50 = true := by kernel_rfl
theorem cal51 : callable Tryz.prog 51 = true := by kernel_rfl
theorem perm_len {l : List Int} {n : Nat} (h : l.Perm (ints n)) : l.length = n := by rw [h.length_eq, ints_len]
theorem perm_rng {l : List Int} {n : Nat} (h : l.Perm (ints n)) {x : Int} (hx : x ∈ l) : 0 ≤ x ∧ x < (n : Int) := ints_mem (h.mem_iff.1 hx)
theorem vmap_end {vs ks : List Int} {b s : Int} (h : vs.length = ks.length) : vmap vs ks b s vs.length = (vs.zip ks).map fun q => (q.1, b + s * q.2) := by
  unfold vmap
  rw [List.take_of_length_le (by rw [List.length_zip]; omega)]
theorem mul_bd3 {s k n : Int} (hs : 1 ≤ s ∧ s ≤ 3) (hk : 0 ≤ k ∧ k < n) : 0 ≤ s * k ∧ s * k ≤ 3 * n := by
  have h1 : 0 ≤ s * k := Int.mul_nonneg (by omega) hk.1
  have h2 : s * k ≤ 3 * k := Int.mul_le_mul_of_nonneg_right hs.2 hk.1
  omega
theorem vmap_rng {vs ks : List Int} {b s : Int} {n : Nat} (hb : 0 ≤ b ∧ b < 40) (hs : 1 ≤ s ∧ s ≤ 3) (hk : ∀ k, k ∈ ks → 0 ≤ k ∧ k < (n : Int)) (x : Int) : 0 ≤ tof ((vs.zip ks).map fun q => (q.1, b + s * q.2)) x ∧ tof ((vs.zip ks).map fun q => (q.1, b + s * q.2)) x ≤ 40 + 3 * (n : Int) := by
  rcases tof_mem (e := (vs.zip ks).map fun q => (q.1, b + s * q.2)) (x := x) with ⟨q, hq, h⟩ | h
  · obtain ⟨p, hp, rfl⟩ := List.mem_map.1 hq
    have h2 := hk p.2 (List.of_mem_zip hp).2
    have h3 := mul_bd3 hs h2
    rw [h]; simp only; omega
  · rw [h]; omega
/-- such a renaming is one to one on the rule's variables -/
theorem vmap_inj {vs ks : List Int} {b s : Int} (hn : vs.Nodup) (hk : ks.Nodup) (hl : vs.length = ks.length) (hs : 1 ≤ s) {x y : Int} (hx : x ∈ vs) (hy : y ∈ vs) (h : tof ((vs.zip ks).map fun q => (q.1, b + s * q.2)) x = tof ((vs.zip ks).map fun q => (q.1, b + s * q.2)) y) : x = y := by
  obtain ⟨i, hi, rfl⟩ := List.getElem_of_mem hx
  obtain ⟨j, hj, rfl⟩ := List.getElem_of_mem hy
  rw [tof_zip (k := ks[i]) hn (List.getElem?_eq_getElem hi) (List.getElem?_eq_getElem (by omega)), tof_zip (k := ks[j]) hn (List.getElem?_eq_getElem hj) (List.getElem?_eq_getElem (by omega))] at h
  have h2 : s * ks[i] = s * ks[j] := by omega
  have h3 : ks[i] = ks[j] := Int.eq_of_mul_eq_mul_left (by omega) h2
  have h4 : i = j := by
    rcases Nat.lt_trichotomy i j with c | c | c
    · exact absurd h3 (List.pairwise_iff_getElem.1 hk i j (by omega) (by omega) c)
    · exact c
    · exact absurd h3.symm (List.pairwise_iff_getElem.1 hk j i (by omega) (by omega) c)
  subst h4; rfl


set_option maxHeartbeats 8000000 in
theorem variant_spec (r : RV) (hr : r.ok) (hv : (vars r.ru).length ≤ 1000) (db : Nat) (x : Int) (hne : ∀ z, z ∈ r.E → z.1 ∉ List.map Prod.fst [(db, C [.int .u64 (x)] 64)]) : SpK Tryz.prog 16 #[.agg ⟨[.string r.p, .slice r.hp r.a.length r.hc, .slice r.bp r.ls.length r.bc]⟩, .pointer (some ⟨db, 0, none⟩)] (Mem r.E) [(db, C [.int .u64 (x)] 64)] (fun v F' => ∃ (x' : Int) (r' : RV), r'.ok ∧ Vrt r.ru r'.ru ∧ v = .agg ⟨[.string r'.p, .slice r'.hp r'.a.length r'.hc, .slice r'.bp r'.ls.length r'.bc]⟩ ∧ F' = (db, C [.int .u64 (x')] 64) :: r'.E) := by
  refine f_enter (args := [.agg ⟨[.string r.p, .slice r.hp r.a.length r.hc, .slice r.bp r.ls.length r.bc]⟩, .pointer (some ⟨db, 0, none⟩)]) Tryz.func16 rfl Tryz.ntmps16 rfl ?_
  intro w0 w a hpre hl hh
  have hrl := hr.len; have hvn := vars_nodup r.ru
  simp only [slotsFrom, Nat.reduceAdd] at hl
  refine c_seq ?_
  refine c_region ?_
  refine wl (w_box hl hh rfl trivial rfl rfl ?_)
  clear hl hh a w; intro k2 a w hl hh
  refine wl (w_alloc hl hh rfl trivial zero57 rfl ?_)
  clear hl hh a w; intro k4 a w hl hh
  refine w_nil ?_
  have hl2 := hl.add (t := 1) (hl.add (t := 2) (hl.add (t := 4) (hl.nil) rfl) rfl) rfl; clear hl; have hl := hl2; clear hl2
  refine then_normal ?_
  refine c_seq ?_
  refine c_region ?_
  refine wl (w_loadA hl hh rfl trivial agg57 rfl (by repeat (first | exact find_head | apply find_tail | apply find_skip)) (by first | (simp only [List.getElem?_cons_zero, List.getElem?_cons_succ, Value.cells, List.take_zero, List.take_succ_cons, List.take_nil, List.drop_zero, List.drop_succ_cons, List.drop_nil, List.length_cons, List.length_nil, List.cons_append, List.nil_append, List.append_nil, Nat.zero_add, Nat.add_zero, Nat.reduceAdd, Nat.reduceBEq, Nat.reduceEqDiff, Nat.ble, BEq.rfl, Bool.and_true, Bool.and_self, cond_true, beq_self_eq_true]; rfl)) (by first | rfl | (simp; done)) ?_)
  clear hl a; intro a hl
  refine wl (w_call hl hh rfl trivial rfl cal12 rfl (vars_spec r hr) (by repeat (first | exact keeps_nil | apply keeps_cons (by repeat (first | exact find_head | apply find_tail | apply find_skip)) (by first  | rfl) | exact keeps_self | exact keeps_left | apply keeps_app | apply keeps_mv | apply keeps_skip)) (mem_keepD hh hpre hne) ?_)
  clear hl hh a w; intro vc Fc a w hR hl hh
  obtain ⟨vp, vc, rfl, hRv⟩ := hR
  try simp only [List.cons_append, List.nil_append, List.append_assoc, List.append_nil] at hh
  generalize Fc = Ev at hh hRv
  replace hh := hh.comm
  simp only [List.cons_append, List.nil_append, List.append_nil, List.append_assoc] at hh
  refine wl (wl_val hl rfl trivial (r_assign hl rfl) ?_)
  clear hl a; intro a hl
  refine w_nil ?_
  have hl2 := hl.add (t := 1) (hl.add (t := 2) (hl.add (t := 4) (hl.add (t := 5) (hl.nil) rfl) rfl) rfl) rfl; clear hl; have hl := hl2; clear hl2
  refine then_normal ?_
  refine c_seq ?_
  refine c_region ?_
  refine wl (wl_val hl rfl trivial (r_move hl rfl) ?_)
  clear hl a; intro a hl
  refine wl (w_call hl hh rfl trivial rfl cal17 rfl (roll_spec db x 40 (by omega)) (by repeat (first | exact keeps_nil | apply keeps_cons (by repeat (first | exact find_head | apply find_tail | apply find_skip)) (by first  | rfl) | exact keeps_self | exact keeps_left | apply keeps_app | apply keeps_mv | apply keeps_skip)) trivial ?_)
  clear hl hh a w; intro vc Fc a w hR hl hh
  obtain ⟨x1, b9, hb9, rfl, rfl⟩ := hR
  try simp only [List.cons_append, List.nil_append, List.append_assoc, List.append_nil] at hh
  refine wl (wl_val hl rfl trivial (r_move hl rfl) ?_)
  clear hl a; intro a hl
  refine wl (w_call hl hh rfl trivial rfl cal17 rfl (roll_spec db x1 3 (by omega)) (by repeat (first | exact keeps_nil | apply keeps_cons (by repeat (first | exact find_head | apply find_tail | apply find_skip)) (by first  | rfl) | exact keeps_self | exact keeps_left | apply keeps_app | apply keeps_mv | apply keeps_skip)) trivial ?_)
  clear hl hh a w; intro vc Fc a w hR hl hh
  obtain ⟨x2, s9, hs9, rfl, rfl⟩ := hR
  try simp only [List.cons_append, List.nil_append, List.append_assoc, List.append_nil] at hh
  first | refine wl (wl_val hl rfl trivial (r_add hl rfl rfl (by simp only [Fits]; omega)) ?_) | refine wl (wl_val hl rfl trivial (r_addW hl rfl rfl) ?_)
  clear hl a; intro a hl
  refine wl (wl_val hl rfl trivial (r_assign hl rfl) ?_)
  clear hl a; intro a hl
  refine wl (wl_val hl rfl trivial (r_assign hl rfl) ?_)
  clear hl a; intro a hl
  refine w_nil ?_
  have hl2 := hl.add (t := 1) (hl.add (t := 2) (hl.add (t := 4) (hl.add (t := 5) (hl.add (t := 6) (hl.add (t := 7) (hl.nil) rfl) rfl) rfl) rfl) rfl) rfl; clear hl; have hl := hl2; clear hl2
  refine then_normal ?_
  refine c_seq ?_
  refine c_region ?_
  refine wl (w_makeMap (kInt .i64) hl hh rfl trivial ?_)
  clear hl hh a w; intro k18 a w hl hh
  refine wl (wl_val hl rfl trivial (r_assign hl rfl) ?_)
  clear hl a; intro a hl
  refine w_nil ?_
  have hl2 := hl.add (t := 1) (hl.add (t := 2) (hl.add (t := 4) (hl.add (t := 5) (hl.add (t := 6) (hl.add (t := 7) (hl.add (t := 8) (hl.nil) rfl) rfl) rfl) rfl) rfl) rfl) rfl; clear hl; have hl := hl2; clear hl2
  refine then_normal ?_
  refine c_seq ?_
  refine c_seq ?_
  refine c_region ?_
  refine wl (wl_val hl rfl trivial (r_move hl rfl) ?_)
  clear hl a; intro a hl
  refine wl (wl_val hl rfl trivial (r_move hl rfl) ?_)
  clear hl a; intro a hl
  refine wl (wl_val hl rfl trivial (r_lenS hl rfl slc58) ?_)
  clear hl a; intro a hl
  refine wl (w_call hl hh rfl trivial rfl cal50 rfl (shuf_spec db x2 (vars r.ru).length (by omega)) (by repeat (first | exact keeps_nil | apply keeps_cons (by repeat (first | exact find_head | apply find_tail | apply find_skip)) (by first  | rfl) | exact keeps_self | exact keeps_left | apply keeps_app | apply keeps_mv | apply keeps_skip)) trivial ?_)
  clear hl hh a w; intro vc Fc a w hR hl hh
  obtain ⟨x3, ks, Ek, hkp, hRk, rfl⟩ := hR
  try simp only [List.cons_append, List.nil_append, List.append_assoc, List.append_nil] at hh
  replace hh := has_rot hh
  simp only [List.cons_append, List.nil_append, List.append_nil, List.append_assoc] at hh
  obtain ⟨kp, kc, hkv⟩ := row_val hRk
  subst hkv
  have hkl := perm_len hkp
  have hknd : ks.Nodup := (hkp.nodup_iff).2 (ints_nodup _)
  have hkr : ∀ k, k ∈ ks → 0 ≤ k ∧ k < ((vars r.ru).length : Int) := fun k hk => perm_rng hkp hk
  refine wl (wl_val hl rfl trivial (r_lenS hl rfl slc58) ?_)
  clear hl a; intro a hl
  refine wl (wl_val hl rfl trivial (r_move hl rfl) ?_)
  clear hl a; intro a hl
  refine w_nil ?_
  have hl2 := hl.add (t := 1) (hl.add (t := 2) (hl.add (t := 4) (hl.add (t := 5) (hl.add (t := 6) (hl.add (t := 7) (hl.add (t := 8) (hl.add (t := 22) (hl.add (t := 23) (hl.add (t := 24) (hl.nil) rfl) rfl) rfl) rfl) rfl) rfl) rfl) rfl) rfl) rfl; clear hl; have hl := hl2; clear hl2
  refine then_normal ?_
  refine wp_block ?_
  obtain ⟨KS0, hKS0, hk⟩ := (hl.add (t := 1) (hl.add (t := 2) (hl.add (t := 4) (hl.add (t := 5) (hl.add (t := 6) (hl.add (t := 7) (hl.add (t := 8) (hl.add (t := 22) (hl.add (t := 23) (hl.nil) rfl) rfl) rfl) rfl) rfl) rfl) rfl) rfl) rfl).name
  obtain ⟨HS0, hHS0, hh2⟩ := hh.name (keeps_cons (b := k18) (o' := MO (kInt .i64) []) (by repeat (first | exact find_head | apply find_tail | apply find_skip)) (by first | rfl) (keeps_nil))
  refine c_loop (α := Nat) (fun i => (vars r.ru).length - i) (fun i a w => (i ≤ (vars r.ru).length) ∧ Sl 48 ([(24, .int .i64 (i : Int))] ++ KS0) a ∧ Has _ w0 ([(k18, MO (kInt .i64) (mm (vmap (vars r.ru) ks (b9 : Int) (1 + (s9 : Int)) i)))] ++ HS0) w) 0 ⟨(Nat.zero_le _), hl.addE (t := 24) (hk) rfl (by first | rfl), hh2⟩ ?_
  clear hk hh2 hl hh a w
  intro i a w hI
  obtain ⟨hi, hl, hh⟩ := hI
  subst hKS0; subst hHS0
  simp only [List.cons_append, List.nil_append, List.append_nil, List.append_assoc] at hl hh
  refine c_seq ?_
  refine c_region ?_
  refine wl (wl_val hl rfl trivial (r_lss hl rfl rfl) ?_)
  clear hl a; intro a hl
  refine w_nil ?_
  have hl2 := hl.add (t := 1) (hl.add (t := 2) (hl.add (t := 4) (hl.add (t := 5) (hl.add (t := 6) (hl.add (t := 7) (hl.add (t := 8) (hl.add (t := 22) (hl.add (t := 23) (hl.add (t := 24) (hl.add (t := 25) (hl.nil) rfl) rfl) rfl) rfl) rfl) rfl) rfl) rfl) rfl) rfl) rfl; clear hl; have hl := hl2; clear hl2
  refine then_normal ?_
  refine c_seq ?_
  refine c_cond hl rfl ?_ ?_
  · intro hc0
    try simp only [decide_eq_true_eq, decide_eq_false_iff_not, Bool.not_eq_true', Bool.not_eq_false', Bool.not_eq_true, Bool.not_eq_false, Bool.and_eq_true, Bool.or_eq_true, Bool.and_eq_false_iff, Bool.or_eq_false_iff, Bool.not_not, ne_eq, Int.not_lt, Int.not_le, Decidable.not_not, beq_iff_eq, bne_iff_ne] at hc0
    obtain ⟨v, hvv⟩ : ∃ v, (vars r.ru)[i]? = some v := ⟨_, List.getElem?_eq_getElem (by omega)⟩
    obtain ⟨k, hkk⟩ : ∃ k, ks[i]? = some k := ⟨_, List.getElem?_eq_getElem (by omega)⟩
    obtain ⟨b1, j1, hq1, hj1, hc1, hE1⟩ := row_pos hRv (by omega)
    obtain ⟨b2, j2, hq2, hj2, hc2, hE2⟩ := row_pos hRk (by omega)
    subst hq1; subst hq2; subst hE1; subst hE2
    have hd1 := fl_cell1 (f := iI) (g := .int .i64) (fun _ => rfl) hvv j1
    have hd2 := fl_cell1 (f := iI) (g := .int .i64) (fun _ => rfl) hkk j2
    have hkb := mul_bd3 (s := 1 + (s9 : Int)) (k := k) (n := ((vars r.ru).length : Int)) ⟨by omega, by omega⟩ (hkr k (List.mem_of_getElem? hkk))
    have hnew : v ∉ (vmap (vars r.ru) ks (b9 : Int) (1 + (s9 : Int)) i).map Prod.fst := by rw [vmap_fst (by omega)]; exact nodup_take_not hvn hvv
    refine wp_skip ?_
    refine then_normal ?_
    refine c_seq ?_
    refine wp_block ?_
    refine c_seq ?_
    refine c_region ?_
    refine wl (wl_val hl rfl trivial (r_move hl rfl) ?_)
    clear hl a; intro a hl
    refine wl (wl_val hl rfl trivial (r_indexS hl rfl rfl slc58 (by omega) (by omega) (by first | (simp only [Int.reduceToNat]; rfl) | exact toNat_add1 _ | exact toNat_add2 _ _ | exact toNat_emod _ _ | exact Int.toNat_natCast _ | rfl)) ?_)
    clear hl a; intro a hl
    refine wl (w_load hl hh rfl trivial one3 rfl (by repeat (first | exact find_head | apply find_tail | apply find_skip)) (by first | exact hd1 | exact hd2 | rfl) ?_)
    clear hl a; intro a hl
    refine wl (wl_val hl rfl trivial (r_assign hl rfl) ?_)
    clear hl a; intro a hl
    refine wl (wl_val hl rfl trivial (r_assign hl rfl) ?_)
    clear hl a; intro a hl
    refine w_nil ?_
    have hl2 := hl.add (t := 1) (hl.add (t := 2) (hl.add (t := 4) (hl.add (t := 5) (hl.add (t := 6) (hl.add (t := 7) (hl.add (t := 8) (hl.add (t := 9) (hl.add (t := 10) (hl.add (t := 22) (hl.add (t := 23) (hl.add (t := 24) (hl.nil) rfl) rfl) rfl) rfl) rfl) rfl) rfl) rfl) rfl) rfl) rfl) rfl; clear hl; have hl := hl2; clear hl2
    refine then_normal ?_
    refine c_region ?_
    refine wl (wl_val hl rfl trivial (r_move hl rfl) ?_)
    clear hl a; intro a hl
    refine wl (wl_val hl rfl trivial (r_move hl rfl) ?_)
    clear hl a; intro a hl
    refine wl (wl_val hl rfl trivial (r_move hl rfl) ?_)
    clear hl a; intro a hl
    refine wl (wl_val hl rfl trivial (r_indexS hl rfl rfl slc58 (by omega) (by omega) (by first | (simp only [Int.reduceToNat]; rfl) | exact toNat_add1 _ | exact toNat_add2 _ _ | exact toNat_emod _ _ | exact Int.toNat_natCast _ | rfl)) ?_)
    clear hl a; intro a hl
    refine wl (w_load hl hh rfl trivial one3 rfl (by repeat (first | exact find_head | apply find_tail | apply find_skip)) (by first | exact hd1 | exact hd2 | rfl) ?_)
    clear hl a; intro a hl
    refine wl (wl_val hl rfl trivial (r_move hl rfl) ?_)
    clear hl a; intro a hl
    refine wl (wl_val hl rfl trivial (r_move hl rfl) ?_)
    clear hl a; intro a hl
    refine wl (wl_val hl rfl trivial (r_move hl rfl) ?_)
    clear hl a; intro a hl
    first | refine wl (wl_val hl rfl trivial (r_mul hl rfl rfl (by simp only [Fits]; omega)) ?_) | refine wl (wl_val hl rfl trivial (r_mulW hl rfl rfl) ?_)
    clear hl a; intro a hl
    first | refine wl (wl_val hl rfl trivial (r_add hl rfl rfl (by simp only [Fits]; omega)) ?_) | refine wl (wl_val hl rfl trivial (r_addW hl rfl rfl) ?_)
    clear hl a; intro a hl
    refine wl (w_mapUpdate (keyInt Tryz.underlying3) Tryz.underlying103 hl hh trivial rfl rfl rfl (by repeat (first | exact find_head | apply find_tail | apply find_skip)) ?_)
    clear hh w; intro w hh
    refine w_nil ?_
    have hl2 := hl.add (t := 1) (hl.add (t := 2) (hl.add (t := 4) (hl.add (t := 5) (hl.add (t := 6) (hl.add (t := 7) (hl.add (t := 8) (hl.add (t := 22) (hl.add (t := 23) (hl.add (t := 24) (hl.nil) rfl) rfl) rfl) rfl) rfl) rfl) rfl) rfl) rfl) rfl; clear hl; have hl := hl2; clear hl2
    rw [mput_mm hnew, ← vmap_snoc hvv hkk] at hh
    refine blk_normal ?_
    refine then_normal ?_
    refine c_region ?_
    first | refine wl (wl_val hl rfl trivial (r_add hl rfl rfl (by simp only [Fits]; omega)) ?_) | refine wl (wl_val hl rfl trivial (r_addW hl rfl rfl) ?_)
    clear hl a; intro a hl
    refine wl (wl_val hl rfl trivial (r_move hl rfl) ?_)
    clear hl a; intro a hl
    refine w_nil ?_
    have hl2 := hl.add (t := 1) (hl.add (t := 2) (hl.add (t := 4) (hl.add (t := 5) (hl.add (t := 6) (hl.add (t := 7) (hl.add (t := 8) (hl.add (t := 22) (hl.add (t := 23) (hl.add (t := 24) (hl.nil) rfl) rfl) rfl) rfl) rfl) rfl) rfl) rfl) rfl) rfl; clear hl; have hl := hl2; clear hl2
    refine then_normal ?_
    refine ⟨i + 1, (by omega), (by omega), hl.addE (t := 24) (hl.addE (t := 1) (hl.addE (t := 2) (hl.addE (t := 4) (hl.addE (t := 5) (hl.addE (t := 6) (hl.addE (t := 7) (hl.addE (t := 8) (hl.addE (t := 22) (hl.addE (t := 23) (hl.nil) rfl (by first | rfl | rfl)) rfl (by first | rfl | rfl)) rfl (by first | rfl | rfl)) rfl (by first | rfl | rfl)) rfl (by first | rfl | rfl)) rfl (by first | rfl | rfl)) rfl (by first | rfl | rfl)) rfl (by first | rfl | rfl)) rfl (by first | rfl | rfl)) rfl (by first | rfl | rfl), hh.keep (by repeat (first | exact keeps_nil | apply keeps_cons (by repeat (first | exact find_head | apply find_tail | apply find_skip)) (by first  | rfl) | exact keeps_self | exact keeps_left | apply keeps_app | apply keeps_mv | apply keeps_skip))⟩
  · intro hc0
    try simp only [decide_eq_true_eq, decide_eq_false_iff_not, Bool.not_eq_true', Bool.not_eq_false', Bool.not_eq_true, Bool.not_eq_false, Bool.and_eq_true, Bool.or_eq_true, Bool.and_eq_false_iff, Bool.or_eq_false_iff, Bool.not_not, ne_eq, Int.not_lt, Int.not_le, Decidable.not_not, beq_iff_eq, bne_iff_ne] at hc0
    have hie : i = (vars r.ru).length := by omega
    rw [hie, vmap_end (by omega)] at hh
    obtain ⟨e9, he9⟩ : ∃ z, z = ((vars r.ru).zip ks).map fun q => (q.1, (b9 : Int) + (1 + (s9 : Int)) * q.2) := ⟨_, rfl⟩
    rw [← he9] at hh
    have hge : ∀ y, I64 (tof e9 y) := fun y => by
      have h9 := vmap_rng (vs := (vars r.ru)) (b := (b9 : Int)) (s := 1 + (s9 : Int)) ⟨by omega, by omega⟩ ⟨by omega, by omega⟩ hkr y
      rw [← he9] at h9
      exact ⟨by omega, by omega⟩
    have hin9 : ∀ y z, y ∈ (vars r.ru) → z ∈ (vars r.ru) → tof e9 y = tof e9 z → y = z := fun y z hy hz h9 => by
      rw [he9] at h9
      exact vmap_inj hvn hknd (by omega) (by omega) hy hz h9
    have hnn9 : ∀ y, 0 ≤ tof e9 y := fun y => by
      have h9 := vmap_rng (vs := (vars r.ru)) (b := (b9 : Int)) (s := 1 + (s9 : Int)) ⟨by omega, by omega⟩ ⟨by omega, by omega⟩ hkr y
      rw [← he9] at h9
      omega
    refine wp_exit ?_
    refine then_exit ?_
    refine then_exit ?_
    refine blk_exit ?_
    refine then_normal ?_
    refine c_seq ?_
    refine c_draw [(k2, C [.string r.p, .slice r.hp r.a.length r.hc, .slice r.bp r.ls.length r.bc] 57)] [7, 8] mixed hh ?_
    clear hh w; intro w hh
    have hM : Mem [(k2, C [.string r.p, .slice r.hp r.a.length r.hc, .slice r.bp r.ls.length r.bc] 57)] w := (memK hh (by repeat (first | exact keeps_nil | apply keeps_cons (by repeat (first | exact find_head | apply find_tail | apply find_skip)) (by first  | rfl) | exact keeps_self | exact keeps_left | apply keeps_app | apply keeps_mv | apply keeps_skip)))
    refine d_take (i := 0) hl rfl (by kernel_rfl) (by kernel_rfl) (by kernel_rfl) (by kernel_rfl) (by kernel_rfl) rfl trivial (fun _ _ _ h => h) hM (fun w hC => r_loadCA hl rfl agg57 hC (by repeat (first | exact find_head | apply find_tail | apply find_skip)) (by first | (simp only [List.getElem?_cons_zero, List.getElem?_cons_succ, Value.cells, List.take_zero, List.take_succ_cons, List.take_nil, List.drop_zero, List.drop_succ_cons, List.drop_nil, List.length_cons, List.length_nil, List.cons_append, List.nil_append, List.append_nil, Nat.zero_add, Nat.add_zero, Nat.reduceAdd, Nat.reduceBEq, Nat.reduceEqDiff, Nat.ble, BEq.rfl, Bool.and_true, Bool.and_self, cond_true, beq_self_eq_true]; rfl)) (by first | rfl | (simp; done))) rfl ?_
    clear hl a; intro a hl
    refine d_take (i := 1) hl rfl (by kernel_rfl) (by kernel_rfl) (by kernel_rfl) (by kernel_rfl) (by kernel_rfl) rfl trivial (fun _ _ _ h => h) hM (fun w hC => r_move hl rfl) rfl ?_
    clear hl a; intro a hl
    refine d_take (i := 2) hl rfl (by kernel_rfl) (by kernel_rfl) (by kernel_rfl) (by kernel_rfl) (by kernel_rfl) rfl trivial (fun _ _ _ h => h) hM (fun w hC => r_field hl rfl fld57_1) rfl ?_
    clear hl a; intro a hl
    refine d_take (i := 3) hl rfl (by kernel_rfl) (by kernel_rfl) (by kernel_rfl) (by kernel_rfl) (by kernel_rfl) rfl trivial (fun _ _ _ h => h) hM (fun w hC => r_loadC hl rfl one55 hC (by repeat (first | exact find_head | apply find_tail | apply find_skip)) (by first | exact hd1 | exact hd2 | rfl)) rfl ?_
    clear hl a; intro a hl
    refine d_take (i := 4) hl rfl (by kernel_rfl) (by kernel_rfl) (by kernel_rfl) (by kernel_rfl) (by kernel_rfl) rfl trivial (fun _ _ _ h => h) hM (fun w hC => r_lenS hl rfl slc55) rfl ?_
    clear hl a; intro a hl
    refine d_take (i := 6) hl rfl (by kernel_rfl) (by kernel_rfl) (by kernel_rfl) (by kernel_rfl) (by kernel_rfl) rfl trivial (fun _ _ _ h => h) hM (fun w hC => r_move hl rfl) rfl ?_
    clear hl a; intro a hl
    refine d_one (i := 5) (by kernel_rfl) rfl ?_
    try clear hM
    refine id (w_call hl hh rfl trivial rfl cal50 rfl (shuf_spec db x3 r.ls.length (by omega)) (by repeat (first | exact keeps_nil | apply keeps_cons (by repeat (first | exact find_head | apply find_tail | apply find_skip)) (by first  | rfl) | exact keeps_self | exact keeps_left | apply keeps_app | apply keeps_mv | apply keeps_skip)) trivial ?_)
    clear hl hh a w; intro vc Fc a w hR hl hh
    obtain ⟨x4, od, Eo, hop, hRo, rfl⟩ := hR
    try simp only [List.cons_append, List.nil_append, List.append_assoc, List.append_nil] at hh
    replace hh := has_rot hh
    simp only [List.cons_append, List.nil_append, List.append_nil, List.append_assoc] at hh
    obtain ⟨op, oc, hov⟩ := row_val hRo
    subst hov
    have hol := perm_len hop
    have hsp := fun e he => rewr_spec r hr od op oc Eo (by rw [hol]; exact hRo) (fun y hy => perm_rng hop hy) (by omega) k18 e he
    simp only [hol] at hsp
    have hM : Mem [(k2, C [.string r.p, .slice r.hp r.a.length r.hc, .slice r.bp r.ls.length r.bc] 57)] w := (memK hh (by repeat (first | exact keeps_nil | apply keeps_cons (by repeat (first | exact find_head | apply find_tail | apply find_skip)) (by first  | rfl) | exact keeps_self | exact keeps_left | apply keeps_app | apply keeps_mv | apply keeps_skip)))
    refine d_step (fun _ => hM) ?_
    refine d_one (i := 7) (by kernel_rfl) rfl ?_
    try clear hM
    refine id (w_call hl hh rfl trivial rfl cal51 rfl (hsp e9 hge) (by repeat (first | exact keeps_nil | apply keeps_cons (by repeat (first | exact find_head | apply find_tail | apply find_skip)) (by first  | rfl) | exact keeps_self | exact keeps_left | apply keeps_app | apply keeps_mv | apply keeps_skip)) ⟨(mem_keepD hh hpre hne), fun b o m => hh.mem b o (by simp [m]), hh.mem _ _ (Find.mem (by repeat (first | exact find_head | apply find_tail | apply find_skip)))⟩ ?_)
    clear hl hh a w; intro vc Fc a w hR hl hh
    obtain ⟨r', hr', hru, rfl, rfl⟩ := hR
    try simp only [List.cons_append, List.nil_append, List.append_assoc, List.append_nil] at hh
    replace hh := hh.comm
    simp only [List.cons_append, List.nil_append, List.append_nil, List.append_assoc] at hh
    refine d_step (fun h => absurd h (by decide)) ?_
    refine d_one (i := 8) (by kernel_rfl) rfl ?_
    try clear hM
    refine id (w_storeA hl hh trivial agg57 rfl rfl (by repeat (first | exact find_head | apply find_tail | apply find_skip)) (by first | rfl | (simp; done)) (by first | (simp; done) | (simp; omega)) (by first | rfl | (simp; done) | rfl) (by first | (simp only [setL, List.getElem?_cons_zero, List.getElem?_cons_succ, Value.cells, List.take_zero, List.take_succ_cons, List.take_nil, List.drop_zero, List.drop_succ_cons, List.drop_nil, List.length_cons, List.length_nil, List.cons_append, List.nil_append, List.append_nil, Nat.zero_add, Nat.add_zero, Nat.reduceAdd, Nat.reduceBEq, Nat.reduceEqDiff, Nat.ble, BEq.rfl, Bool.and_true, Bool.and_self, cond_true, beq_self_eq_true]; rfl)) ?_)
    clear hh w; intro w hh
    refine d_step (fun h => absurd h (by decide)) ?_
    refine d_done (by kernel_rfl) ?_
    try clear hM
    have hl2 := hl.add (t := 4) (hl.nil) rfl; clear hl; have hl := hl2; clear hl2
    refine then_normal ?_
    refine wp_ret ?_
    refine f_retC (F' := (db, C [.int .u64 (x4)] 64) :: r'.E) hl hh rfl rfl agg57 (by repeat (first | exact find_head | apply find_tail | apply find_skip)) rfl (by repeat (first | exact keeps_nil | apply keeps_cons (by repeat (first | exact find_head | apply find_tail | apply find_skip)) (by first  | rfl) | exact keeps_self | exact keeps_left | apply keeps_app | apply keeps_mv | apply keeps_skip)) ?_
    exact ⟨x4, r', hr', ⟨od, tof e9, by rw [show r.ru.b.length = r.ls.length from List.length_map ..]; exact hop, hin9, hnn9, hru⟩, rfl, rfl⟩
end Go.Proofs.Qxb6500915aGreatDoor

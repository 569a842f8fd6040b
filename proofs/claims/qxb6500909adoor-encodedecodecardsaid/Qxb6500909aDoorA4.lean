import Derived.Test.Qxb6500909aDoorA3
namespace Go.Proofs.Qxb6500909aDoor
open Go.Eng
set_option linter.unusedVariables false
set_option linter.unusedSimpArgs false
theorem fld60_3 : fieldOk Tryd.prog 60 3 3 = true := by kernel_rfl
theorem fld60_2 : fieldOk Tryd.prog 60 2 2 = true := by kernel_rfl
theorem arr93 : arrOk Tryd.prog 93 64 1 = true := by kernel_rfl
theorem fld60_0 : fieldOk Tryd.prog 60 0 0 = true := by kernel_rfl
theorem cal57 : callable Tryd.prog 57 = true := by kernel_rfl
theorem fld60_1 : fieldOk Tryd.prog 60 1 1 = true := by kernel_rfl
theorem cal56 : callable Tryd.prog 56 = true := by kernel_rfl
theorem cal58 : callable Tryd.prog 58 = true := by kernel_rfl
theorem zero93 : zeroOk Tryd.prog 93 (.agg ⟨arrL 64 (bV fun _ => 0)⟩) := by unfold zeroOk arrL; kernel_rfl
def kdF (g : Nat → Int) (kd : Nat) : Nat → Int := fun j => if j = 22 then (kd : Int) else g j
def cpF (g d : Nat → Int) (c : Nat) : Nat → Int := fun j => if 24 ≤ j ∧ j < 24 + c then d (j - 24) else g j
theorem st22 (g : Nat → Int) (kd : Nat) : setL (arrL 64 (bV g)) (0 + 22 * 1) [.int .u8 (kd : Int)] = arrL 64 (bV (kdF g kd)) := by
  rw [show 0 + 22 * 1 = 22 from rfl, arrL_set (by omega)]
  refine arrL_congr fun j _ => ?_
  unfold updV bV kdF
  split <;> rfl
theorem cp_set (g d : Nat → Int) (c : Nat) (h : c ≤ 40) : setL (arrL 64 (bV g)) (0 + 24 * 1) (datL d c) = arrL 64 (bV (cpF g d c)) := by
  apply List.ext_getElem?
  intro j
  have hl := arrL_length 64 (bV g)
  have hd := datL_len d c
  unfold setL
  by_cases h1 : j < 24
  · rw [List.append_assoc, List.getElem?_append_left (by rw [List.length_take, hl]; omega), List.getElem?_take, if_pos (by omega), arrL_get (by omega), arrL_get (by omega)]
    unfold bV cpF; rw [if_neg (by omega)]
  · rw [List.append_assoc, List.getElem?_append_right (by rw [List.length_take, hl]; omega)]
    rw [show (List.take (0 + 24 * 1) (arrL 64 (bV g))).length = 24 by rw [List.length_take, hl]; omega]
    by_cases h2 : j < 24 + c
    · rw [List.getElem?_append_left (by omega), arrL_get (by omega)]
      unfold datL bV cpF
      rw [List.getElem?_map, List.getElem?_range (by omega), if_pos (by omega)]; rfl
    · rw [List.getElem?_append_right (by omega), hd, List.getElem?_drop]
      by_cases h3 : j < 64
      · rw [show 0 + 24 * 1 + c + (j - 24 - c) = j by omega, arrL_get h3, arrL_get h3]
        unfold bV cpF; rw [if_neg (by omega)]
      · rw [List.getElem?_eq_none (by omega), List.getElem?_eq_none (by rw [arrL_length]; omega)]
/-- a sector, but for its sum -/
def g6F (ep sq ln kd : Nat) (dat : Nat → Int) (p : Nat) : Nat → Int := cpF (kdF (putF (putF (putF (putF (fun _ => 0) 4 4 ep) 8 8 sq) 16 2 p) 18 4 ln) kd) (fun j => dat (p * 40 + j)) (min 40 (ln - p * 40))
def crF (ep sq ln kd : Nat) (dat : Nat → Int) (p : Nat) : Nat := (crcV (fun j => g6F ep sq ln kd dat p (4 + j)) 60).toNat
def secQ (ep sq ln kd : Nat) (dat : Nat → Int) (p : Nat) : Nat → Int := putF (g6F ep sq ln kd dat p) 0 4 (crF ep sq ln kd dat p)
theorem crF_eq (ep sq ln kd : Nat) (dat : Nat → Int) (p : Nat) : crcV (fun j => g6F ep sq ln kd dat p (4 + j)) 60 = (crF ep sq ln kd dat p : Int) ∧ crF ep sq ln kd dat p < 4294967296 := by
  obtain ⟨c, h1, h2⟩ := bits_nat 4294967295 (crcN (fun j => g6F ep sq ln kd dat p (4 + j)) 60)
  unfold crF
  have h3 : crcV (fun j => g6F ep sq ln kd dat p (4 + j)) 60 = (c : Int) := h1
  rw [h3, Int.toNat_natCast]; exact ⟨rfl, h2⟩
theorem g6_rng (ep sq ln kd : Nat) (dat : Nat → Int) (p : Nat) (hkd : kd ≤ 255) (hd : ∀ i, i < ln → 0 ≤ dat i ∧ dat i ≤ 255) (j : Nat) : 0 ≤ g6F ep sq ln kd dat p j ∧ g6F ep sq ln kd dat p j ≤ 255 := by
  have hb := fun v i => byteN_lt v i
  unfold g6F cpF kdF putF
  repeat' split
  all_goals first
    | exact hd _ (by omega)
    | (show (0 : Int) ≤ 0 ∧ (0 : Int) ≤ 255; decide)
    | (have := hb ln (j - 18); omega)
    | (have := hb p (j - 16); omega)
    | (have := hb sq (j - 8); omega)
    | (have := hb ep (j - 4); omega)
    | omega
theorem sec_ok (ep sq ln kd : Nat) (dat : Nat → Int) (p : Nat) (hkd : kd ≤ 255) (hd : ∀ i, i < ln → 0 ≤ dat i ∧ dat i ≤ 255) : Sec (secQ ep sq ln kd dat p) ep sq p ln kd (fun j => dat (p * 40 + j)) := by
  obtain ⟨c1, c2⟩ := crF_eq ep sq ln kd dat p
  have hq : ∀ j, 4 ≤ j → secQ ep sq ln kd dat p j = g6F ep sq ln kd dat p j := fun j hj => by unfold secQ putF; rw [if_neg (by omega)]
  have hg : ∀ j, j < 24 → g6F ep sq ln kd dat p j = kdF (putF (putF (putF (putF (fun _ => 0) 4 4 ep) 8 8 sq) 16 2 p) 18 4 ln) kd j := fun j hj => by unfold g6F cpF; rw [if_neg (by omega)]
  have hk : ∀ j, j < 22 → g6F ep sq ln kd dat p j = putF (putF (putF (putF (fun _ => 0) 4 4 ep) 8 8 sq) 16 2 p) 18 4 ln j := fun j hj => by rw [hg j (by omega)]; unfold kdF; rw [if_neg (by omega)]
  refine ⟨⟨crF ep sq ln kd dat p, ?_, c2, fun j hj => ?_⟩, fun j hj => ?_, fun j hj => ?_, fun j hj => ?_, fun j hj => ?_, ?_, ?_, fun j hj => ?_, fun j hj => ?_⟩
  · rw [← c1]
    unfold crcV
    rw [crcN_congr 60 fun i _ => hq (4 + i) (by omega)]
  · unfold secQ putF; rw [if_pos (by omega), Nat.sub_zero]
  · rw [hq _ (by omega), hk _ (by omega)]
    unfold putF
    rw [if_neg (by omega), if_neg (by omega), if_neg (by omega), if_pos (by omega), Nat.add_sub_cancel_left]
  · rw [hq _ (by omega), hk _ (by omega)]
    unfold putF
    rw [if_neg (by omega), if_neg (by omega), if_pos (by omega), Nat.add_sub_cancel_left]
  · rw [hq _ (by omega), hk _ (by omega)]
    unfold putF
    rw [if_neg (by omega), if_pos (by omega), Nat.add_sub_cancel_left]
  · rw [hq _ (by omega), hk _ (by omega)]
    unfold putF
    rw [if_pos (by omega), Nat.add_sub_cancel_left]
  · rw [hq _ (by omega), hg _ (by omega)]; unfold kdF; rw [if_pos rfl]
  · rw [hq _ (by omega), hg _ (by omega)]; unfold kdF; rw [if_neg (by omega)]
    unfold putF
    rw [if_neg (by omega), if_neg (by omega), if_neg (by omega), if_neg (by omega)]
  · rw [hq _ (by omega)]; unfold g6F cpF; rw [if_pos (by omega), Nat.add_sub_cancel_left]
  · by_cases c : j < 4
    · unfold secQ putF; rw [if_pos (by omega)]; have := byteN_lt (crF ep sq ln kd dat p) (j - 0); omega
    · rw [hq _ (by omega)]; exact g6_rng ep sq ln kd dat p hkd hd j
def encC (Q : Nat → Nat → Int) (n : Nat) : List Value := (List.range n).flatMap fun p => arrL 64 (bV (Q p))
theorem encC_succ (Q : Nat → Nat → Int) (n : Nat) : encC Q (n + 1) = encC Q n ++ arrL 64 (bV (Q n)) := by unfold encC; rw [List.range_succ, List.flatMap_append]; simp
theorem encC_len (Q : Nat → Nat → Int) : ∀ n, (encC Q n).length = n * 64
  | 0 => rfl
  | n + 1 => by rw [encC_succ, List.length_append, encC_len Q n, arrL_length]; omega
theorem encC_at (Q : Nat → Nat → Int) (junk : List Value) (j p : Nat) (hj : j < 64) : ∀ n, p < n → (encC Q n ++ junk)[p * 64 + j * 1]? = some (.int .u8 (Q p j))
  | 0, h => by omega
  | n + 1, h => by
    rw [encC_succ]
    by_cases c : p < n
    · rw [List.append_assoc, List.getElem?_append_left (by rw [encC_len]; omega)]
      have := encC_at Q [] j p hj n c
      rw [List.append_nil] at this; exact this
    · obtain rfl : p = n := by omega
      rw [List.getElem?_append_left (by rw [List.length_append, encC_len, arrL_length]; omega), List.getElem?_append_right (by rw [encC_len]; omega), encC_len, show p * 64 + j * 1 - p * 64 = j by omega, arrL_get hj]; rfl
theorem bV_one (g : Nat → Int) (N : Nat) : (arrL N (bV g)).all (·.oneCell') = true := by
  rw [List.all_eq_true]; intro v hv
  unfold arrL at hv
  obtain ⟨j, _, rfl⟩ := List.mem_map.1 hv
  rfl
theorem arr_whole (N : Nat) (g : Nat → Value) : ((arrL N g).drop 0).take (arrL N g).length = arrL N g := by rw [List.drop_zero, List.take_length]
theorem dat_take {l2 : List Value} {so dn c : Nat} {dat : Nat → Int} (p : Nat) (hd : ∀ i, i < dn → l2[so + i]? = some (.int .u8 (dat i)) ∧ 0 ≤ dat i ∧ dat i ≤ 255) (h : p * 40 + c ≤ dn) : (l2.drop (so + p * 40)).take (c * 1) = datL (fun j => dat (p * 40 + j)) c := by
  rw [Nat.mul_one]
  apply List.ext_getElem?
  intro j
  rw [List.getElem?_take]
  by_cases hj : j < c
  · rw [if_pos hj, List.getElem?_drop, show so + p * 40 + j = so + (p * 40 + j) by omega, (hd _ (by omega)).1]
    unfold datL
    rw [List.getElem?_map, List.getElem?_range hj]; rfl
  · rw [if_neg hj, List.getElem?_eq_none (by rw [datL_len]; omega)]
theorem dat_len {l2 : List Value} {so dn : Nat} {dat : Nat → Int} (hd : ∀ i, i < dn → l2[so + i]? = some (.int .u8 (dat i)) ∧ 0 ≤ dat i ∧ dat i ≤ 255) (h : 0 < dn) : so + dn ≤ l2.length := by
  have := (List.getElem?_eq_some_iff.1 (hd (dn - 1) (by omega)).1).1
  omega
theorem g6_zero (ep sq ln kd : Nat) (dat : Nat → Int) (p : Nat) (h : ln = 0) : arrL 64 (bV (kdF (putF (putF (putF (putF (fun _ => 0) 4 4 ep) 8 8 sq) 16 2 p) 18 4 ln) kd)) = arrL 64 (bV (g6F ep sq ln kd dat p)) := arrL_congr fun j _ => by
  unfold bV g6F cpF
  rw [if_neg (by omega)]


set_option maxHeartbeats 4000000 in
theorem encodeN (ep sq kd dn : Nat) (dat : Nat → Int) (db so dcap : Nat) (l2 : List Value) (T2 : TypeId) (fr2 : Nat × Nat) (hd : ∀ i, i < dn → l2[so + i]? = some (.int .u8 (dat i)) ∧ 0 ≤ dat i ∧ dat i ≤ 255) (h0 : 0 < dn) (hcap : dn ≤ dcap) (hdn : dn ≤ 81880) (hep : ep < 4294967296) (hsq : sq < 18446744073709551616) (hkd : kd = 1 ∨ kd = 2) : SpK Tryd.prog 38 #[.slice none 0 0, .agg ⟨[.int .u32 (ep : Int), .int .u64 (sq : Int), .int .u8 (kd : Int), .slice (some ⟨db, so, none⟩) dn dcap]⟩] (fun w => w.heap[db]? = some (.cells ⟨l2⟩ T2 fr2)) [] (fun u F' => ∃ rv E, Row rv (secN dn * 64) (encC (secQ ep sq dn kd dat) (secN dn)) 1 5 E ∧ u = .tuple #[rv, .nilIface] ∧ F' = E) := by
  refine f_enter (args := [.slice none 0 0, .agg ⟨[.int .u32 (ep : Int), .int .u64 (sq : Int), .int .u8 (kd : Int), .slice (some ⟨db, so, none⟩) dn dcap]⟩]) Tryd.func38 rfl Tryd.ntmps38 rfl ?_
  intro w0 w a hpre hl hh
  have hsp := secN_pos dn; have hsl := secN_le dn; have hsc := secN_cover dn
  have hdr := fun i hi => (hd i hi).2
  have hll := dat_len hd h0
  simp only [slotsFrom, Nat.reduceAdd] at hl
  refine c_seq ?_
  refine c_region ?_
  refine wl (w_box hl hh rfl trivial rfl rfl ?_)
  clear hl hh a w; intro k3 a w hl hh
  refine wl (wl_val hl rfl trivial (r_assign hl rfl) ?_)
  clear hl a; intro a hl
  refine wl (wl_val hl rfl trivial (r_assign hl rfl) ?_)
  clear hl a; intro a hl
  refine w_nil ?_
  have hl2 := hl.add (t := 0) (hl.add (t := 3) (hl.nil) rfl) rfl; clear hl; have hl := hl2; clear hl2
  refine then_normal ?_
  refine c_seq ?_
  refine c_seq ?_
  refine c_region ?_
  refine wl (wl_val hl rfl trivial (r_field hl rfl fld60_3) ?_)
  clear hl a; intro a hl
  refine wl (w_load hl hh rfl trivial one29 rfl (by repeat (first | exact find_head | apply find_tail)) (by first | rfl) ?_)
  clear hl a; intro a hl
  refine wl (wl_val hl rfl trivial (r_lenS hl rfl slc29) ?_)
  clear hl a; intro a hl
  refine wl (wl_val hl rfl trivial (r_gtr hl rfl rfl) ?_)
  clear hl a; intro a hl
  refine w_nil ?_
  have hl2 := hl.add (t := 0) (hl.add (t := 3) (hl.add (t := 13) (hl.nil) rfl) rfl) rfl; clear hl; have hl := hl2; clear hl2
  refine then_normal ?_
  refine c_cond hl rfl ?_ ?_
  · intro hc0
    try simp only [decide_eq_true_eq, decide_eq_false_iff_not, Bool.not_eq_true', Bool.not_eq_false', Bool.not_eq_true, Bool.not_eq_false, Bool.and_eq_true, Bool.or_eq_true, Bool.and_eq_false_iff, Bool.or_eq_false_iff, Bool.not_not, ne_eq, Int.not_lt, Int.not_le, Decidable.not_not, beq_iff_eq, bne_iff_ne] at hc0
    exfalso; first | omega | (simp at *; done)
  · intro hc0
    try simp only [decide_eq_true_eq, decide_eq_false_iff_not, Bool.not_eq_true', Bool.not_eq_false', Bool.not_eq_true, Bool.not_eq_false, Bool.and_eq_true, Bool.or_eq_true, Bool.and_eq_false_iff, Bool.or_eq_false_iff, Bool.not_not, ne_eq, Int.not_lt, Int.not_le, Decidable.not_not, beq_iff_eq, bne_iff_ne] at hc0
    refine wp_skip ?_
    refine then_normal ?_
    refine c_seq ?_
    refine c_seq ?_
    refine c_region ?_
    refine wl (wl_val hl rfl trivial (r_field hl rfl fld60_2) ?_)
    clear hl a; intro a hl
    refine wl (w_load hl hh rfl trivial one58 rfl (by repeat (first | exact find_head | apply find_tail)) (by first | rfl) ?_)
    clear hl a; intro a hl
    refine wl (wl_val hl rfl trivial (r_neq hl rfl rfl) ?_)
    clear hl a; intro a hl
    refine wl (wl_val hl rfl trivial (r_move hl rfl) ?_)
    clear hl a; intro a hl
    refine sl_split (t := 19) hl rfl ?_ ?_
    · intro hg1; clear hl; intro hl
      try simp only [decide_eq_true_eq, decide_eq_false_iff_not, Bool.not_eq_true', Bool.not_eq_false', Bool.not_eq_true, Bool.not_eq_false, Bool.and_eq_true, Bool.or_eq_true, Bool.and_eq_false_iff, Bool.or_eq_false_iff, Bool.not_not, ne_eq, Int.not_lt, Int.not_le, Decidable.not_not, beq_iff_eq, bne_iff_ne] at hg1
      refine wl (wl_val hl rfl ⟨_, _, rfl, rfl, rfl⟩ (r_field hl rfl fld60_2) ?_)
      clear hl a; intro a hl
      refine wl (w_load hl hh rfl ⟨_, _, rfl, rfl, rfl⟩ one58 rfl (by repeat (first | exact find_head | apply find_tail)) (by first | rfl) ?_)
      clear hl a; intro a hl
      refine wl (wl_val hl rfl ⟨_, _, rfl, rfl, rfl⟩ (r_neq hl rfl rfl) ?_)
      clear hl a; intro a hl
      refine wl (wl_val hl rfl trivial (r_pickT hl rfl rfl) ?_)
      clear hl a; intro a hl
      refine w_nil ?_
      have hl2 := hl.add (t := 0) (hl.add (t := 3) (hl.add (t := 23) (hl.nil) rfl) rfl) rfl; clear hl; have hl := hl2; clear hl2
      refine then_normal ?_
      refine c_cond hl rfl ?_ ?_
      · intro hc1
        try simp only [decide_eq_true_eq, decide_eq_false_iff_not, Bool.not_eq_true', Bool.not_eq_false', Bool.not_eq_true, Bool.not_eq_false, Bool.and_eq_true, Bool.or_eq_true, Bool.and_eq_false_iff, Bool.or_eq_false_iff, Bool.not_not, ne_eq, Int.not_lt, Int.not_le, Decidable.not_not, beq_iff_eq, bne_iff_ne] at hc1
        exfalso; first | omega | (simp at *; done)
      · intro hc1
        try simp only [decide_eq_true_eq, decide_eq_false_iff_not, Bool.not_eq_true', Bool.not_eq_false', Bool.not_eq_true, Bool.not_eq_false, Bool.and_eq_true, Bool.or_eq_true, Bool.and_eq_false_iff, Bool.or_eq_false_iff, Bool.not_not, ne_eq, Int.not_lt, Int.not_le, Decidable.not_not, beq_iff_eq, bne_iff_ne] at hc1
        refine wp_skip ?_
        refine then_normal ?_
        refine c_seq ?_
        refine c_region ?_
        refine wl (wl_val hl rfl trivial (r_field hl rfl fld60_3) ?_)
        clear hl a; intro a hl
        refine wl (w_load hl hh rfl trivial one29 rfl (by repeat (first | exact find_head | apply find_tail)) (by first | rfl) ?_)
        clear hl a; intro a hl
        refine wl (wl_val hl rfl trivial (r_assign hl rfl) ?_)
        clear hl a; intro a hl
        refine w_nil ?_
        have hl2 := hl.add (t := 0) (hl.add (t := 3) (hl.add (t := 6) (hl.nil) rfl) rfl) rfl; clear hl; have hl := hl2; clear hl2
        refine then_normal ?_
        refine c_seq ?_
        refine c_seq ?_
        refine c_region ?_
        refine wl (wl_val hl rfl trivial (r_field hl rfl fld60_3) ?_)
        clear hl a; intro a hl
        refine wl (w_load hl hh rfl trivial one29 rfl (by repeat (first | exact find_head | apply find_tail)) (by first | rfl) ?_)
        clear hl a; intro a hl
        refine wl (wl_val hl rfl trivial (r_lenS hl rfl slc29) ?_)
        clear hl a; intro a hl
        refine wl (w_call hl hh rfl trivial rfl cal52 rfl (sectors_spec dn (by omega)) (by repeat (first | exact keeps_nil | apply keeps_cons (by repeat (first | exact find_head | apply find_tail)) (by first  | rfl) | exact keeps_self | exact keeps_left | exact keeps_right | exact keeps_swap | apply keeps_mv)) trivial ?_)
        clear hl hh a w; intro vc Fc a w hR hl hh
        obtain ⟨rfl, rfl⟩ := hR
        try simp only [List.cons_append, List.nil_append] at hh
        refine wl (wl_val hl rfl trivial (r_assign hl rfl) ?_)
        clear hl a; intro a hl
        refine wl (wl_val hl rfl trivial (r_assign hl rfl) ?_)
        clear hl a; intro a hl
        refine w_nil ?_
        have hl2 := hl.add (t := 0) (hl.add (t := 3) (hl.add (t := 6) (hl.add (t := 7) (hl.add (t := 8) (hl.nil) rfl) rfl) rfl) rfl) rfl; clear hl; have hl := hl2; clear hl2
        refine then_normal ?_
        refine wp_block ?_
        obtain ⟨KS0, hKS0, hk⟩ := (hl.add (t := 3) (hl.add (t := 8) (hl.nil) rfl) rfl).name
        obtain ⟨HS0, hHS0, hh2⟩ := hh.nameT (A := [(k3, C [.int .u32 (ep : Int), .int .u64 (sq : Int), .int .u8 (kd : Int), .slice (some ⟨db, so, none⟩) dn dcap] 60)]) (U := []) (keeps_cons (b := k3) (by repeat (first | exact find_head | apply find_tail)) (by first | rfl) ((by repeat (first | exact keeps_nil | exact keeps_self | exact keeps_swap | apply keeps_mv))))
        refine c_loop (α := Nat × Value × List (Nat × Obj) × Value) (fun s => secN dn - s.1) (fun s a w => (s.1 ≤ secN dn ∧ Row s.2.1 (s.1 * 64) (encC (secQ ep sq dn kd dat) s.1) 1 5 s.2.2.1 ∧ (s.1 < secN dn → s.2.2.2 = .slice (some ⟨db, so + s.1 * 40, none⟩) (dn - s.1 * 40) (dcap - s.1 * 40))) ∧ Sl 71 ([(7, .int .i64 (s.1 : Int)), (0, s.2.1), (6, s.2.2.2)] ++ KS0) a ∧ Has _ w0 ([(k3, C [.int .u32 (ep : Int), .int .u64 (sq : Int), .int .u8 (kd : Int), .slice (some ⟨db, so, none⟩) dn dcap] 60)] ++ (HS0 ++ s.2.2.1)) w) (0, .slice none 0 0, [], .slice (some ⟨db, so, none⟩) dn dcap) ⟨⟨Nat.zero_le _, Row.nil _ _, (fun _ => by show Value.slice _ _ _ = .slice (some ⟨db, so + 0 * 40, none⟩) (dn - 0 * 40) (dcap - 0 * 40); rw [Nat.zero_mul]; rfl)⟩, hl.addE (t := 7) (hl.addE (t := 0) (hl.addE (t := 6) (hk) rfl (by first | rfl)) rfl (by first | rfl)) rfl (by first | rfl), (by first | exact hh2 | (simp only [List.append_nil]; simp only [List.append_nil] at hh2; exact hh2) | (simp only [List.append_nil]; exact hh2))⟩ ?_
        clear hk hh2 hl hh a w
        intro s a w hI
        obtain ⟨⟨hs, hrow, hrest⟩, hl, hh⟩ := hI
        subst hKS0; subst hHS0
        simp only [List.cons_append, List.nil_append, List.append_nil] at hl hh
        have hone : s.2.1.oneCell' = true := hrow.one
        refine c_seq ?_
        refine c_seq ?_
        refine c_region ?_
        refine wl (wl_val hl rfl trivial (r_move hl rfl) ?_)
        clear hl a; intro a hl
        refine wl (wl_val hl rfl trivial (r_move hl rfl) ?_)
        clear hl a; intro a hl
        refine wl (wl_val hl rfl trivial (r_lss hl rfl rfl) ?_)
        clear hl a; intro a hl
        refine w_nil ?_
        have hl2 := hl.add (t := 0) (hl.add (t := 3) (hl.add (t := 6) (hl.add (t := 7) (hl.add (t := 8) (hl.add (t := 34) (hl.nil) rfl) rfl) rfl) rfl) rfl) rfl; clear hl; have hl := hl2; clear hl2
        refine then_normal ?_
        refine c_cond hl rfl ?_ ?_
        · intro hc2
          try simp only [decide_eq_true_eq, decide_eq_false_iff_not, Bool.not_eq_true', Bool.not_eq_false', Bool.not_eq_true, Bool.not_eq_false, Bool.and_eq_true, Bool.or_eq_true, Bool.and_eq_false_iff, Bool.or_eq_false_iff, Bool.not_not, ne_eq, Int.not_lt, Int.not_le, Decidable.not_not, beq_iff_eq, bne_iff_ne] at hc2
          obtain ⟨hp1, hpc1⟩ := part_len (p := s.1) (ln := dn) (by omega) h0
          have hrs := hrest (by omega)
          rw [hrs] at hl
          refine wp_skip ?_
          refine then_normal ?_
          refine c_seq ?_
          refine wp_block ?_
          refine c_seq ?_
          refine c_region ?_
          refine wl (w_alloc hl hh rfl trivial zero93 rfl ?_)
          clear hl hh a w; intro k9 a w hl hh
          refine w_nil ?_
          have hl2 := hl.add (t := 0) (hl.add (t := 3) (hl.add (t := 6) (hl.add (t := 7) (hl.add (t := 8) (hl.add (t := 9) (hl.nil) rfl) rfl) rfl) rfl) rfl) rfl; clear hl; have hl := hl2; clear hl2
          refine then_normal ?_
          refine c_seq ?_
          refine c_draw [(k3, C [.int .u32 (ep : Int), .int .u64 (sq : Int), .int .u8 (kd : Int), .slice (some ⟨db, so, none⟩) dn dcap] 60)] [3] mixed hh ?_
          clear hh w; intro w hh
          have hM : Mem [(k3, C [.int .u32 (ep : Int), .int .u64 (sq : Int), .int .u8 (kd : Int), .slice (some ⟨db, so, none⟩) dn dcap] 60)] w := (by repeat (first | exact Mem.nil | refine Mem.cons hh.mem (by repeat (first | exact find_head | apply find_tail)) ?_ | refine Mem.consR hh (by assumption) (by simp) ?_))
          refine d_take (i := 0) hl rfl (by kernel_rfl) (by kernel_rfl) (by kernel_rfl) (by kernel_rfl) (by kernel_rfl) rfl trivial (fun _ _ _ h => h) hM (fun w hC => r_sliceA10 hl rfl rfl arr93 (by first | trivial | omega | (refine ⟨?_, ?_, ?_⟩ <;> omega) | (refine ⟨?_, ?_⟩ <;> omega)) (by first | (simp only [Int.reduceToNat]; rfl) | exact toNat_add1 _ | exact toNat_add2 _ _ | exact toNat_emod _ _ | exact Int.toNat_natCast _ | rfl)) rfl ?_
          clear hl a; intro a hl
          refine d_take (i := 1) hl rfl (by kernel_rfl) (by kernel_rfl) (by kernel_rfl) (by kernel_rfl) (by kernel_rfl) rfl trivial (fun _ _ _ h => h) hM (fun w hC => r_field hl rfl fld60_0) rfl ?_
          clear hl a; intro a hl
          refine d_take (i := 2) hl rfl (by kernel_rfl) (by kernel_rfl) (by kernel_rfl) (by kernel_rfl) (by kernel_rfl) rfl trivial (fun _ _ _ h => h) hM (fun w hC => r_loadC hl rfl one56 hC (by repeat (first | exact find_head | apply find_tail)) (by first | rfl)) rfl ?_
          clear hl a; intro a hl
          refine d_one (i := 3) (by kernel_rfl) rfl ?_
          try clear hM
          refine id (w_call hl hh rfl trivial rfl cal57 rfl (putU32_spec k9 64 4 60 60 93 (fun _ => 0) ep (by omega) (by omega) (by omega) (by omega)) (by repeat (first | exact keeps_nil | apply keeps_cons (by repeat (first | exact find_head | apply find_tail)) (by first  | rfl) | exact keeps_self | exact keeps_left | exact keeps_right | exact keeps_swap | apply keeps_mv)) trivial ?_)
          clear hl hh a w; intro vc Fc a w hR hl hh
          obtain ⟨rfl, rfl⟩ := hR
          try simp only [List.cons_append, List.nil_append] at hh
          refine d_step (fun h => absurd h (by decide)) ?_
          refine d_done (by kernel_rfl) ?_
          try clear hM
          have hl2 := hl.add (t := 0) (hl.add (t := 3) (hl.add (t := 6) (hl.add (t := 7) (hl.add (t := 8) (hl.add (t := 9) (hl.nil) rfl) rfl) rfl) rfl) rfl) rfl; clear hl; have hl := hl2; clear hl2
          refine then_normal ?_
          refine c_seq ?_
          refine c_draw [(k3, C [.int .u32 (ep : Int), .int .u64 (sq : Int), .int .u8 (kd : Int), .slice (some ⟨db, so, none⟩) dn dcap] 60)] [3] mixed hh ?_
          clear hh w; intro w hh
          have hM : Mem [(k3, C [.int .u32 (ep : Int), .int .u64 (sq : Int), .int .u8 (kd : Int), .slice (some ⟨db, so, none⟩) dn dcap] 60)] w := (by repeat (first | exact Mem.nil | refine Mem.cons hh.mem (by repeat (first | exact find_head | apply find_tail)) ?_ | refine Mem.consR hh (by assumption) (by simp) ?_))
          refine d_take (i := 0) hl rfl (by kernel_rfl) (by kernel_rfl) (by kernel_rfl) (by kernel_rfl) (by kernel_rfl) rfl trivial (fun _ _ _ h => h) hM (fun w hC => r_sliceA10 hl rfl rfl arr93 (by first | trivial | omega | (refine ⟨?_, ?_, ?_⟩ <;> omega) | (refine ⟨?_, ?_⟩ <;> omega)) (by first | (simp only [Int.reduceToNat]; rfl) | exact toNat_add1 _ | exact toNat_add2 _ _ | exact toNat_emod _ _ | exact Int.toNat_natCast _ | rfl)) rfl ?_
          clear hl a; intro a hl
          refine d_take (i := 1) hl rfl (by kernel_rfl) (by kernel_rfl) (by kernel_rfl) (by kernel_rfl) (by kernel_rfl) rfl trivial (fun _ _ _ h => h) hM (fun w hC => r_field hl rfl fld60_1) rfl ?_
          clear hl a; intro a hl
          refine d_take (i := 2) hl rfl (by kernel_rfl) (by kernel_rfl) (by kernel_rfl) (by kernel_rfl) (by kernel_rfl) rfl trivial (fun _ _ _ h => h) hM (fun w hC => r_loadC hl rfl one30 hC (by repeat (first | exact find_head | apply find_tail)) (by first | rfl)) rfl ?_
          clear hl a; intro a hl
          refine d_one (i := 3) (by kernel_rfl) rfl ?_
          try clear hM
          refine id (w_call hl hh rfl trivial rfl cal56 rfl (putU64_spec k9 64 8 56 56 93 (putF (fun _ => 0) 4 4 ep) sq (by omega) (by omega) (by omega) (by omega)) (by repeat (first | exact keeps_nil | apply keeps_cons (by repeat (first | exact find_head | apply find_tail)) (by first  | rfl) | exact keeps_self | exact keeps_left | exact keeps_right | exact keeps_swap | apply keeps_mv)) trivial ?_)
          clear hl hh a w; intro vc Fc a w hR hl hh
          obtain ⟨rfl, rfl⟩ := hR
          try simp only [List.cons_append, List.nil_append] at hh
          refine d_step (fun h => absurd h (by decide)) ?_
          refine d_done (by kernel_rfl) ?_
          try clear hM
          have hl2 := hl.add (t := 0) (hl.add (t := 3) (hl.add (t := 6) (hl.add (t := 7) (hl.add (t := 8) (hl.add (t := 9) (hl.nil) rfl) rfl) rfl) rfl) rfl) rfl; clear hl; have hl := hl2; clear hl2
          refine then_normal ?_
          refine c_seq ?_
          refine c_region ?_
          refine wl (wl_val hl rfl trivial (r_sliceA10 hl rfl rfl arr93 (by first | trivial | omega | (refine ⟨?_, ?_, ?_⟩ <;> omega) | (refine ⟨?_, ?_⟩ <;> omega)) (by first | (simp only [Int.reduceToNat]; rfl) | exact toNat_add1 _ | exact toNat_add2 _ _ | exact toNat_emod _ _ | exact Int.toNat_natCast _ | rfl)) ?_)
          clear hl a; intro a hl
          refine wl (wl_val hl rfl trivial (r_move hl rfl) ?_)
          clear hl a; intro a hl
          first | refine wl (wl_val hl rfl trivial (r_conv hl rfl Tryd.underlying3 Tryd.underlying96 (by simp only [Fits]; omega)) ?_) | refine wl (wl_val hl rfl trivial (r_convW hl rfl Tryd.underlying3 Tryd.underlying96) ?_)
          clear hl a; intro a hl
          refine wl (w_call hl hh rfl trivial rfl cal58 rfl (putU16_spec k9 64 16 48 48 93 (putF (putF (fun _ => 0) 4 4 ep) 8 8 sq) s.1 (by omega) (by omega) (by omega) (by omega)) (by repeat (first | exact keeps_nil | apply keeps_cons (by repeat (first | exact find_head | apply find_tail)) (by first  | rfl) | exact keeps_self | exact keeps_left | exact keeps_right | exact keeps_swap | apply keeps_mv)) trivial ?_)
          clear hl hh a w; intro vc Fc a w hR hl hh
          obtain ⟨rfl, rfl⟩ := hR
          try simp only [List.cons_append, List.nil_append] at hh
          refine w_nil ?_
          have hl2 := hl.add (t := 0) (hl.add (t := 3) (hl.add (t := 6) (hl.add (t := 7) (hl.add (t := 8) (hl.add (t := 9) (hl.nil) rfl) rfl) rfl) rfl) rfl) rfl; clear hl; have hl := hl2; clear hl2
          refine then_normal ?_
          refine c_seq ?_
          refine c_draw [(k3, C [.int .u32 (ep : Int), .int .u64 (sq : Int), .int .u8 (kd : Int), .slice (some ⟨db, so, none⟩) dn dcap] 60)] [5] mixed hh ?_
          clear hh w; intro w hh
          have hM : Mem [(k3, C [.int .u32 (ep : Int), .int .u64 (sq : Int), .int .u8 (kd : Int), .slice (some ⟨db, so, none⟩) dn dcap] 60)] w := (by repeat (first | exact Mem.nil | refine Mem.cons hh.mem (by repeat (first | exact find_head | apply find_tail)) ?_ | refine Mem.consR hh (by assumption) (by simp) ?_))
          refine d_take (i := 0) hl rfl (by kernel_rfl) (by kernel_rfl) (by kernel_rfl) (by kernel_rfl) (by kernel_rfl) rfl trivial (fun _ _ _ h => h) hM (fun w hC => r_sliceA10 hl rfl rfl arr93 (by first | trivial | omega | (refine ⟨?_, ?_, ?_⟩ <;> omega) | (refine ⟨?_, ?_⟩ <;> omega)) (by first | (simp only [Int.reduceToNat]; rfl) | exact toNat_add1 _ | exact toNat_add2 _ _ | exact toNat_emod _ _ | exact Int.toNat_natCast _ | rfl)) rfl ?_
          clear hl a; intro a hl
          refine d_take (i := 1) hl rfl (by kernel_rfl) (by kernel_rfl) (by kernel_rfl) (by kernel_rfl) (by kernel_rfl) rfl trivial (fun _ _ _ h => h) hM (fun w hC => r_field hl rfl fld60_3) rfl ?_
          clear hl a; intro a hl
          refine d_take (i := 2) hl rfl (by kernel_rfl) (by kernel_rfl) (by kernel_rfl) (by kernel_rfl) (by kernel_rfl) rfl trivial (fun _ _ _ h => h) hM (fun w hC => r_loadC hl rfl one29 hC (by repeat (first | exact find_head | apply find_tail)) (by first | rfl)) rfl ?_
          clear hl a; intro a hl
          refine d_take (i := 3) hl rfl (by kernel_rfl) (by kernel_rfl) (by kernel_rfl) (by kernel_rfl) (by kernel_rfl) rfl trivial (fun _ _ _ h => h) hM (fun w hC => r_lenS hl rfl slc29) rfl ?_
          clear hl a; intro a hl
          first | refine d_take (i := 4) hl rfl (by kernel_rfl) (by kernel_rfl) (by kernel_rfl) (by kernel_rfl) (by kernel_rfl) rfl trivial (fun _ _ _ h => h) hM (fun w hC => r_conv hl rfl Tryd.underlying3 Tryd.underlying56 (by simp only [Fits]; omega)) rfl ?_ | refine d_take (i := 4) hl rfl (by kernel_rfl) (by kernel_rfl) (by kernel_rfl) (by kernel_rfl) (by kernel_rfl) rfl trivial (fun _ _ _ h => h) hM (fun w hC => r_convW hl rfl Tryd.underlying3 Tryd.underlying56) rfl ?_
          clear hl a; intro a hl
          refine d_one (i := 5) (by kernel_rfl) rfl ?_
          try clear hM
          refine id (w_call hl hh rfl trivial rfl cal57 rfl (putU32_spec k9 64 18 46 46 93 (putF (putF (putF (fun _ => 0) 4 4 ep) 8 8 sq) 16 2 s.1) dn (by omega) (by omega) (by omega) (by omega)) (by repeat (first | exact keeps_nil | apply keeps_cons (by repeat (first | exact find_head | apply find_tail)) (by first  | rfl) | exact keeps_self | exact keeps_left | exact keeps_right | exact keeps_swap | apply keeps_mv)) trivial ?_)
          clear hl hh a w; intro vc Fc a w hR hl hh
          obtain ⟨rfl, rfl⟩ := hR
          try simp only [List.cons_append, List.nil_append] at hh
          refine d_step (fun h => absurd h (by decide)) ?_
          refine d_done (by kernel_rfl) ?_
          try clear hM
          have hl2 := hl.add (t := 0) (hl.add (t := 3) (hl.add (t := 6) (hl.add (t := 7) (hl.add (t := 8) (hl.add (t := 9) (hl.nil) rfl) rfl) rfl) rfl) rfl) rfl; clear hl; have hl := hl2; clear hl2
          refine then_normal ?_
          refine c_seq ?_
          refine c_region ?_
          refine wl (wl_val hl rfl trivial (r_field hl rfl fld60_2) ?_)
          clear hl a; intro a hl
          refine wl (w_load hl hh rfl trivial one58 rfl (by repeat (first | exact find_head | apply find_tail)) (by first | rfl) ?_)
          clear hl a; intro a hl
          refine wl (wl_val hl rfl trivial (r_indexA hl rfl rfl arr93 (by omega) (by omega) (by first | (simp only [Int.reduceToNat]; rfl) | exact toNat_add1 _ | exact toNat_add2 _ _ | exact toNat_emod _ _ | exact Int.toNat_natCast _ | rfl)) ?_)
          clear hl a; intro a hl
          refine wl (w_store hl hh trivial one5 rfl rfl (by repeat (first | exact find_head | apply find_tail)) (by rw [arrL_length]; omega) (by first | rfl | assumption | (apply Row.one; assumption)) (by exact st22 _ _) ?_)
          clear hh w; intro w hh
          refine w_nil ?_
          have hl2 := hl.add (t := 0) (hl.add (t := 3) (hl.add (t := 6) (hl.add (t := 7) (hl.add (t := 8) (hl.add (t := 9) (hl.nil) rfl) rfl) rfl) rfl) rfl) rfl; clear hl; have hl := hl2; clear hl2
          refine then_normal ?_
          refine c_seq ?_
          refine c_region ?_
          refine wl (wl_val hl rfl trivial (r_move hl rfl) ?_)
          clear hl a; intro a hl
          refine wl (wl_val hl rfl trivial (r_sliceA10 hl rfl rfl arr93 (by first | trivial | omega | (refine ⟨?_, ?_, ?_⟩ <;> omega) | (refine ⟨?_, ?_⟩ <;> omega)) (by first | (simp only [Int.reduceToNat]; rfl) | exact toNat_add1 _ | exact toNat_add2 _ _ | exact toNat_emod _ _ | exact Int.toNat_natCast _ | rfl)) ?_)
          clear hl a; intro a hl
          refine wl (wl_val hl rfl trivial (r_move hl rfl) ?_)
          clear hl a; intro a hl
          refine wl (w_copyR hl hh rfl trivial slc29 rfl rfl (by repeat (first | exact find_head | apply find_tail)) ((hh.frm.block db (Array.getElem?_eq_some_iff.1 hpre).1 (by simp)).trans hpre) (show Nat.min (dn - s.1 * 40) 40 = min 40 (dn - s.1 * 40) from Nat.min_comm _ _) (by rw [arrL_length]; omega) (by omega) (dat_take s.1 hd (by omega)) (datL_one _ _) (cp_set _ _ _ (by omega)) ?_)
          clear hl hh a w; intro a w hl hh
          refine wl (wl_val hl rfl trivial (r_sliceS10x hl rfl rfl slc29 (by omega) (Int.toNat_natCast _)) ?_)
          clear hl a; intro a hl
          refine wl (wl_val hl rfl trivial (r_assign hl rfl) ?_)
          clear hl a; intro a hl
          refine w_nil ?_
          have hl2 := hl.add (t := 0) (hl.add (t := 3) (hl.add (t := 6) (hl.add (t := 7) (hl.add (t := 8) (hl.add (t := 9) (hl.nil) rfl) rfl) rfl) rfl) rfl) rfl; clear hl; have hl := hl2; clear hl2
          refine then_normal ?_
          refine c_seq ?_
          refine c_draw [] [3] mixed hh ?_
          clear hh w; intro w hh
          have hM : Mem [] w := Mem.nil
          refine d_take (i := 0) hl rfl (by kernel_rfl) (by kernel_rfl) (by kernel_rfl) (by kernel_rfl) (by kernel_rfl) rfl trivial (fun _ _ _ h => h) hM (fun w hC => r_sliceA10 hl rfl rfl arr93 (by first | trivial | omega | (refine ⟨?_, ?_, ?_⟩ <;> omega) | (refine ⟨?_, ?_⟩ <;> omega)) (by first | (simp only [Int.reduceToNat]; rfl) | exact toNat_add1 _ | exact toNat_add2 _ _ | exact toNat_emod _ _ | exact Int.toNat_natCast _ | rfl)) rfl ?_
          clear hl a; intro a hl
          refine d_take (i := 1) hl rfl (by kernel_rfl) (by kernel_rfl) (by kernel_rfl) (by kernel_rfl) (by kernel_rfl) rfl trivial (fun _ _ _ h => h) hM (fun w hC => r_sliceA10 hl rfl rfl arr93 (by first | trivial | omega | (refine ⟨?_, ?_, ?_⟩ <;> omega) | (refine ⟨?_, ?_⟩ <;> omega)) (by first | (simp only [Int.reduceToNat]; rfl) | exact toNat_add1 _ | exact toNat_add2 _ _ | exact toNat_emod _ _ | exact Int.toNat_natCast _ | rfl)) rfl ?_
          clear hl a; intro a hl
          refine d_one (i := 2) (by kernel_rfl) rfl ?_
          try clear hM
          refine id (w_call hl hh rfl trivial rfl cal59 rfl (crc_spec k9 4 60 60 (arrL 64 (bV (g6F ep sq dn kd dat s.1))) 93 (fun j => g6F ep sq dn kd dat s.1 (4 + j)) (fun j hj => ⟨by rw [Nat.mul_one, arrL_get (by omega)]; rfl, g6_rng ep sq dn kd dat s.1 (by omega) hdr (4 + j)⟩) (by omega)) (by repeat (first | exact keeps_nil | apply keeps_cons (by repeat (first | exact find_head | apply find_tail)) (by first  | rfl) | exact keeps_self | exact keeps_left | exact keeps_right | exact keeps_swap | apply keeps_mv)) trivial ?_)
          clear hl hh a w; intro vc Fc a w hR hl hh
          obtain ⟨rfl, rfl⟩ := hR
          try simp only [List.cons_append, List.nil_append] at hh
          rw [(crF_eq ep sq dn kd dat s.1).1] at hl
          have hM : Mem [] w := Mem.nil
          refine d_step (fun _ => hM) ?_
          refine d_one (i := 3) (by kernel_rfl) rfl ?_
          try clear hM
          refine id (w_call hl hh rfl trivial rfl cal57 rfl (putU32_spec k9 64 0 64 64 93 (g6F ep sq dn kd dat s.1) (crF ep sq dn kd dat s.1) (by omega) (by omega) (by omega) (by omega)) (by repeat (first | exact keeps_nil | apply keeps_cons (by repeat (first | exact find_head | apply find_tail)) (by first  | rfl) | exact keeps_self | exact keeps_left | exact keeps_right | exact keeps_swap | apply keeps_mv)) trivial ?_)
          clear hl hh a w; intro vc Fc a w hR hl hh
          obtain ⟨rfl, rfl⟩ := hR
          try simp only [List.cons_append, List.nil_append] at hh
          refine d_step (fun h => absurd h (by decide)) ?_
          refine d_done (by kernel_rfl) ?_
          try clear hM
          have hl2 := hl.add (t := 0) (hl.add (t := 3) (hl.add (t := 6) (hl.add (t := 7) (hl.add (t := 8) (hl.add (t := 9) (hl.nil) rfl) rfl) rfl) rfl) rfl) rfl; clear hl; have hl := hl2; clear hl2
          refine then_normal ?_
          refine c_region ?_
          refine wl (wl_val hl rfl trivial (r_move hl rfl) ?_)
          clear hl a; intro a hl
          refine wl (wl_val hl rfl trivial (r_sliceA00 hl rfl arr93 (by first | trivial | omega | (refine ⟨?_, ?_, ?_⟩ <;> omega) | (refine ⟨?_, ?_⟩ <;> omega))) ?_)
          clear hl a; intro a hl
          refine wl (w_append (news := (arrL 64 (bV (secQ ep sq dn kd dat s.1)))) hl hh rfl trivial app29 rfl rfl rfl hrow (by repeat (first | exact keeps_nil | apply keeps_cons (by repeat (first | exact find_head | apply find_tail)) (by first  | rfl) | exact keeps_self | exact keeps_left | exact keeps_right | exact keeps_swap | apply keeps_mv)) (hh.mem _ _ (Find.mem (by repeat (first | exact find_head | apply find_tail)))) (arr_whole _ _) (by rw [arrL_length]) (bV_one _ _) (by omega) (by omega) (by omega) (by decide) ?_)
          clear hl hh a w; intro rv2 E2 a w hR2 hl hh
          have hh3 := hh.comm; clear hh; have hh := hh3; clear hh3
          simp only [List.cons_append, List.nil_append] at hh
          refine wl (wl_val hl rfl trivial (r_assign hl rfl) ?_)
          clear hl a; intro a hl
          refine w_nil ?_
          have hl2 := hl.add (t := 0) (hl.add (t := 3) (hl.add (t := 6) (hl.add (t := 7) (hl.add (t := 8) (hl.nil) rfl) rfl) rfl) rfl) rfl; clear hl; have hl := hl2; clear hl2
          refine blk_normal ?_
          refine then_normal ?_
          refine c_region ?_
          refine wl (wl_val hl rfl trivial (r_move hl rfl) ?_)
          clear hl a; intro a hl
          first | refine wl (wl_val hl rfl trivial (r_add hl rfl rfl (by simp only [Fits]; omega)) ?_) | refine wl (wl_val hl rfl trivial (r_addW hl rfl rfl) ?_)
          clear hl a; intro a hl
          refine wl (wl_val hl rfl trivial (r_assign hl rfl) ?_)
          clear hl a; intro a hl
          refine w_nil ?_
          have hl2 := hl.add (t := 0) (hl.add (t := 3) (hl.add (t := 6) (hl.add (t := 7) (hl.add (t := 8) (hl.nil) rfl) rfl) rfl) rfl) rfl; clear hl; have hl := hl2; clear hl2
          refine then_normal ?_
          refine ⟨(s.1 + 1, rv2, E2, .slice (if dcap - s.1 * 40 = min 40 (dn - s.1 * 40) then some ⟨db, so + s.1 * 40, none⟩ else some ⟨db, so + s.1 * 40 + min 40 (dn - s.1 * 40) * 1, none⟩) (dn - s.1 * 40 - min 40 (dn - s.1 * 40)) (dcap - s.1 * 40 - min 40 (dn - s.1 * 40))), (by show secN dn - (s.1 + 1) < secN dn - s.1; omega), ⟨by show s.1 + 1 ≤ secN dn; omega, by show Row rv2 ((s.1 + 1) * 64) (encC (secQ ep sq dn kd dat) (s.1 + 1)) 1 5 E2; rw [encC_succ, show (s.1 + 1) * 64 = s.1 * 64 + 64 by omega]; exact hR2, (fun hlt => by obtain ⟨hp2, hpc2⟩ := part_len (p := s.1 + 1) (ln := dn) hlt h0; show Value.slice _ _ _ = .slice (some ⟨db, so + (s.1 + 1) * 40, none⟩) (dn - (s.1 + 1) * 40) (dcap - (s.1 + 1) * 40); rw [if_neg (by omega), show min 40 (dn - s.1 * 40) = 40 by omega, show so + s.1 * 40 + 40 * 1 = so + (s.1 + 1) * 40 by omega, show dn - s.1 * 40 - 40 = dn - (s.1 + 1) * 40 by omega, show dcap - s.1 * 40 - 40 = dcap - (s.1 + 1) * 40 by omega])⟩, hl.addE (t := 7) (hl.addE (t := 0) (hl.addE (t := 6) (hl.addE (t := 3) (hl.addE (t := 8) (hl.nil) rfl (by first | rfl | rfl)) rfl (by first | rfl | rfl)) rfl (by first | rfl | rfl)) rfl (by first | rfl | rfl)) rfl (by first | rfl | rfl), hh.keep (by repeat (first | exact keeps_nil | apply keeps_cons (by repeat (first | exact find_head | apply find_tail)) (by first  | rfl) | exact keeps_self | exact keeps_left | exact keeps_right | exact keeps_swap | apply keeps_mv))⟩
        · intro hc2
          try simp only [decide_eq_true_eq, decide_eq_false_iff_not, Bool.not_eq_true', Bool.not_eq_false', Bool.not_eq_true, Bool.not_eq_false, Bool.and_eq_true, Bool.or_eq_true, Bool.and_eq_false_iff, Bool.or_eq_false_iff, Bool.not_not, ne_eq, Int.not_lt, Int.not_le, Decidable.not_not, beq_iff_eq, bne_iff_ne] at hc2
          have hse : s.1 = secN dn := by omega
          rw [hse] at hrow
          refine wp_exit ?_
          refine then_exit ?_
          refine then_exit ?_
          refine blk_exit ?_
          refine then_normal ?_
          refine c_seq ?_
          refine c_region ?_
          refine wl (wl_val hl rfl trivial (r_move hl rfl) ?_)
          clear hl a; intro a hl
          refine wl (wl_val hl rfl trivial (r_assign hl rfl) ?_)
          clear hl a; intro a hl
          refine wl (wl_val hl rfl trivial (r_assign hl rfl) ?_)
          clear hl a; intro a hl
          refine w_nil ?_
          have hl2 := hl.add (t := 4) (hl.add (t := 5) (hl.nil) rfl) rfl; clear hl; have hl := hl2; clear hl2
          refine then_normal ?_
          refine wp_ret ?_
          refine f_ret2 (F' := s.2.2.1) hl hh rfl rfl rfl (by repeat (first | exact keeps_nil | apply keeps_cons (by repeat (first | exact find_head | apply find_tail)) (by first  | rfl) | exact keeps_self | exact keeps_left | exact keeps_right | exact keeps_swap | apply keeps_mv)) ?_
          exact ⟨s.2.1, s.2.2.1, hrow, rfl, rfl⟩
    · intro hg1; clear hl; intro hl
      try simp only [decide_eq_true_eq, decide_eq_false_iff_not, Bool.not_eq_true', Bool.not_eq_false', Bool.not_eq_true, Bool.not_eq_false, Bool.and_eq_true, Bool.or_eq_true, Bool.and_eq_false_iff, Bool.or_eq_false_iff, Bool.not_not, ne_eq, Int.not_lt, Int.not_le, Decidable.not_not, beq_iff_eq, bne_iff_ne] at hg1
      refine wl (wl_skip hl rfl ⟨_, _, rfl, rfl, rfl⟩ ?_)
      clear hl a; intro a hl
      refine wl (wl_skip hl rfl ⟨_, _, rfl, rfl, rfl⟩ ?_)
      clear hl a; intro a hl
      refine wl (wl_skip hl rfl ⟨_, _, rfl, rfl, rfl⟩ ?_)
      clear hl a; intro a hl
      refine wl (wl_val hl rfl trivial (r_pickF hl rfl rfl) ?_)
      clear hl a; intro a hl
      refine w_nil ?_
      have hl2 := hl.add (t := 0) (hl.add (t := 3) (hl.add (t := 23) (hl.nil) rfl) rfl) rfl; clear hl; have hl := hl2; clear hl2
      refine then_normal ?_
      refine c_condF hl rfl ?_
      refine wp_skip ?_
      refine then_normal ?_
      refine c_seq ?_
      refine c_region ?_
      refine wl (wl_val hl rfl trivial (r_field hl rfl fld60_3) ?_)
      clear hl a; intro a hl
      refine wl (w_load hl hh rfl trivial one29 rfl (by repeat (first | exact find_head | apply find_tail)) (by first | rfl) ?_)
      clear hl a; intro a hl
      refine wl (wl_val hl rfl trivial (r_assign hl rfl) ?_)
      clear hl a; intro a hl
      refine w_nil ?_
      have hl2 := hl.add (t := 0) (hl.add (t := 3) (hl.add (t := 6) (hl.nil) rfl) rfl) rfl; clear hl; have hl := hl2; clear hl2
      refine then_normal ?_
      refine c_seq ?_
      refine c_seq ?_
      refine c_region ?_
      refine wl (wl_val hl rfl trivial (r_field hl rfl fld60_3) ?_)
      clear hl a; intro a hl
      refine wl (w_load hl hh rfl trivial one29 rfl (by repeat (first | exact find_head | apply find_tail)) (by first | rfl) ?_)
      clear hl a; intro a hl
      refine wl (wl_val hl rfl trivial (r_lenS hl rfl slc29) ?_)
      clear hl a; intro a hl
      refine wl (w_call hl hh rfl trivial rfl cal52 rfl (sectors_spec dn (by omega)) (by repeat (first | exact keeps_nil | apply keeps_cons (by repeat (first | exact find_head | apply find_tail)) (by first  | rfl) | exact keeps_self | exact keeps_left | exact keeps_right | exact keeps_swap | apply keeps_mv)) trivial ?_)
      clear hl hh a w; intro vc Fc a w hR hl hh
      obtain ⟨rfl, rfl⟩ := hR
      try simp only [List.cons_append, List.nil_append] at hh
      refine wl (wl_val hl rfl trivial (r_assign hl rfl) ?_)
      clear hl a; intro a hl
      refine wl (wl_val hl rfl trivial (r_assign hl rfl) ?_)
      clear hl a; intro a hl
      refine w_nil ?_
      have hl2 := hl.add (t := 0) (hl.add (t := 3) (hl.add (t := 6) (hl.add (t := 7) (hl.add (t := 8) (hl.nil) rfl) rfl) rfl) rfl) rfl; clear hl; have hl := hl2; clear hl2
      refine then_normal ?_
      refine wp_block ?_
      obtain ⟨KS0, hKS0, hk⟩ := (hl.add (t := 3) (hl.add (t := 8) (hl.nil) rfl) rfl).name
      obtain ⟨HS0, hHS0, hh2⟩ := hh.nameT (A := [(k3, C [.int .u32 (ep : Int), .int .u64 (sq : Int), .int .u8 (kd : Int), .slice (some ⟨db, so, none⟩) dn dcap] 60)]) (U := []) (keeps_cons (b := k3) (by repeat (first | exact find_head | apply find_tail)) (by first | rfl) ((by repeat (first | exact keeps_nil | exact keeps_self | exact keeps_swap | apply keeps_mv))))
      refine c_loop (α := Nat × Value × List (Nat × Obj) × Value) (fun s => secN dn - s.1) (fun s a w => (s.1 ≤ secN dn ∧ Row s.2.1 (s.1 * 64) (encC (secQ ep sq dn kd dat) s.1) 1 5 s.2.2.1 ∧ (s.1 < secN dn → s.2.2.2 = .slice (some ⟨db, so + s.1 * 40, none⟩) (dn - s.1 * 40) (dcap - s.1 * 40))) ∧ Sl 71 ([(7, .int .i64 (s.1 : Int)), (0, s.2.1), (6, s.2.2.2)] ++ KS0) a ∧ Has _ w0 ([(k3, C [.int .u32 (ep : Int), .int .u64 (sq : Int), .int .u8 (kd : Int), .slice (some ⟨db, so, none⟩) dn dcap] 60)] ++ (HS0 ++ s.2.2.1)) w) (0, .slice none 0 0, [], .slice (some ⟨db, so, none⟩) dn dcap) ⟨⟨Nat.zero_le _, Row.nil _ _, (fun _ => by show Value.slice _ _ _ = .slice (some ⟨db, so + 0 * 40, none⟩) (dn - 0 * 40) (dcap - 0 * 40); rw [Nat.zero_mul]; rfl)⟩, hl.addE (t := 7) (hl.addE (t := 0) (hl.addE (t := 6) (hk) rfl (by first | rfl)) rfl (by first | rfl)) rfl (by first | rfl), (by first | exact hh2 | (simp only [List.append_nil]; simp only [List.append_nil] at hh2; exact hh2) | (simp only [List.append_nil]; exact hh2))⟩ ?_
      clear hk hh2 hl hh a w
      intro s a w hI
      obtain ⟨⟨hs, hrow, hrest⟩, hl, hh⟩ := hI
      subst hKS0; subst hHS0
      simp only [List.cons_append, List.nil_append, List.append_nil] at hl hh
      have hone : s.2.1.oneCell' = true := hrow.one
      refine c_seq ?_
      refine c_seq ?_
      refine c_region ?_
      refine wl (wl_val hl rfl trivial (r_move hl rfl) ?_)
      clear hl a; intro a hl
      refine wl (wl_val hl rfl trivial (r_move hl rfl) ?_)
      clear hl a; intro a hl
      refine wl (wl_val hl rfl trivial (r_lss hl rfl rfl) ?_)
      clear hl a; intro a hl
      refine w_nil ?_
      have hl2 := hl.add (t := 0) (hl.add (t := 3) (hl.add (t := 6) (hl.add (t := 7) (hl.add (t := 8) (hl.add (t := 34) (hl.nil) rfl) rfl) rfl) rfl) rfl) rfl; clear hl; have hl := hl2; clear hl2
      refine then_normal ?_
      refine c_cond hl rfl ?_ ?_
      · intro hc2
        try simp only [decide_eq_true_eq, decide_eq_false_iff_not, Bool.not_eq_true', Bool.not_eq_false', Bool.not_eq_true, Bool.not_eq_false, Bool.and_eq_true, Bool.or_eq_true, Bool.and_eq_false_iff, Bool.or_eq_false_iff, Bool.not_not, ne_eq, Int.not_lt, Int.not_le, Decidable.not_not, beq_iff_eq, bne_iff_ne] at hc2
        obtain ⟨hp1, hpc1⟩ := part_len (p := s.1) (ln := dn) (by omega) h0
        have hrs := hrest (by omega)
        rw [hrs] at hl
        refine wp_skip ?_
        refine then_normal ?_
        refine c_seq ?_
        refine wp_block ?_
        refine c_seq ?_
        refine c_region ?_
        refine wl (w_alloc hl hh rfl trivial zero93 rfl ?_)
        clear hl hh a w; intro k9 a w hl hh
        refine w_nil ?_
        have hl2 := hl.add (t := 0) (hl.add (t := 3) (hl.add (t := 6) (hl.add (t := 7) (hl.add (t := 8) (hl.add (t := 9) (hl.nil) rfl) rfl) rfl) rfl) rfl) rfl; clear hl; have hl := hl2; clear hl2
        refine then_normal ?_
        refine c_seq ?_
        refine c_draw [(k3, C [.int .u32 (ep : Int), .int .u64 (sq : Int), .int .u8 (kd : Int), .slice (some ⟨db, so, none⟩) dn dcap] 60)] [3] mixed hh ?_
        clear hh w; intro w hh
        have hM : Mem [(k3, C [.int .u32 (ep : Int), .int .u64 (sq : Int), .int .u8 (kd : Int), .slice (some ⟨db, so, none⟩) dn dcap] 60)] w := (by repeat (first | exact Mem.nil | refine Mem.cons hh.mem (by repeat (first | exact find_head | apply find_tail)) ?_ | refine Mem.consR hh (by assumption) (by simp) ?_))
        refine d_take (i := 0) hl rfl (by kernel_rfl) (by kernel_rfl) (by kernel_rfl) (by kernel_rfl) (by kernel_rfl) rfl trivial (fun _ _ _ h => h) hM (fun w hC => r_sliceA10 hl rfl rfl arr93 (by first | trivial | omega | (refine ⟨?_, ?_, ?_⟩ <;> omega) | (refine ⟨?_, ?_⟩ <;> omega)) (by first | (simp only [Int.reduceToNat]; rfl) | exact toNat_add1 _ | exact toNat_add2 _ _ | exact toNat_emod _ _ | exact Int.toNat_natCast _ | rfl)) rfl ?_
        clear hl a; intro a hl
        refine d_take (i := 1) hl rfl (by kernel_rfl) (by kernel_rfl) (by kernel_rfl) (by kernel_rfl) (by kernel_rfl) rfl trivial (fun _ _ _ h => h) hM (fun w hC => r_field hl rfl fld60_0) rfl ?_
        clear hl a; intro a hl
        refine d_take (i := 2) hl rfl (by kernel_rfl) (by kernel_rfl) (by kernel_rfl) (by kernel_rfl) (by kernel_rfl) rfl trivial (fun _ _ _ h => h) hM (fun w hC => r_loadC hl rfl one56 hC (by repeat (first | exact find_head | apply find_tail)) (by first | rfl)) rfl ?_
        clear hl a; intro a hl
        refine d_one (i := 3) (by kernel_rfl) rfl ?_
        try clear hM
        refine id (w_call hl hh rfl trivial rfl cal57 rfl (putU32_spec k9 64 4 60 60 93 (fun _ => 0) ep (by omega) (by omega) (by omega) (by omega)) (by repeat (first | exact keeps_nil | apply keeps_cons (by repeat (first | exact find_head | apply find_tail)) (by first  | rfl) | exact keeps_self | exact keeps_left | exact keeps_right | exact keeps_swap | apply keeps_mv)) trivial ?_)
        clear hl hh a w; intro vc Fc a w hR hl hh
        obtain ⟨rfl, rfl⟩ := hR
        try simp only [List.cons_append, List.nil_append] at hh
        refine d_step (fun h => absurd h (by decide)) ?_
        refine d_done (by kernel_rfl) ?_
        try clear hM
        have hl2 := hl.add (t := 0) (hl.add (t := 3) (hl.add (t := 6) (hl.add (t := 7) (hl.add (t := 8) (hl.add (t := 9) (hl.nil) rfl) rfl) rfl) rfl) rfl) rfl; clear hl; have hl := hl2; clear hl2
        refine then_normal ?_
        refine c_seq ?_
        refine c_draw [(k3, C [.int .u32 (ep : Int), .int .u64 (sq : Int), .int .u8 (kd : Int), .slice (some ⟨db, so, none⟩) dn dcap] 60)] [3] mixed hh ?_
        clear hh w; intro w hh
        have hM : Mem [(k3, C [.int .u32 (ep : Int), .int .u64 (sq : Int), .int .u8 (kd : Int), .slice (some ⟨db, so, none⟩) dn dcap] 60)] w := (by repeat (first | exact Mem.nil | refine Mem.cons hh.mem (by repeat (first | exact find_head | apply find_tail)) ?_ | refine Mem.consR hh (by assumption) (by simp) ?_))
        refine d_take (i := 0) hl rfl (by kernel_rfl) (by kernel_rfl) (by kernel_rfl) (by kernel_rfl) (by kernel_rfl) rfl trivial (fun _ _ _ h => h) hM (fun w hC => r_sliceA10 hl rfl rfl arr93 (by first | trivial | omega | (refine ⟨?_, ?_, ?_⟩ <;> omega) | (refine ⟨?_, ?_⟩ <;> omega)) (by first | (simp only [Int.reduceToNat]; rfl) | exact toNat_add1 _ | exact toNat_add2 _ _ | exact toNat_emod _ _ | exact Int.toNat_natCast _ | rfl)) rfl ?_
        clear hl a; intro a hl
        refine d_take (i := 1) hl rfl (by kernel_rfl) (by kernel_rfl) (by kernel_rfl) (by kernel_rfl) (by kernel_rfl) rfl trivial (fun _ _ _ h => h) hM (fun w hC => r_field hl rfl fld60_1) rfl ?_
        clear hl a; intro a hl
        refine d_take (i := 2) hl rfl (by kernel_rfl) (by kernel_rfl) (by kernel_rfl) (by kernel_rfl) (by kernel_rfl) rfl trivial (fun _ _ _ h => h) hM (fun w hC => r_loadC hl rfl one30 hC (by repeat (first | exact find_head | apply find_tail)) (by first | rfl)) rfl ?_
        clear hl a; intro a hl
        refine d_one (i := 3) (by kernel_rfl) rfl ?_
        try clear hM
        refine id (w_call hl hh rfl trivial rfl cal56 rfl (putU64_spec k9 64 8 56 56 93 (putF (fun _ => 0) 4 4 ep) sq (by omega) (by omega) (by omega) (by omega)) (by repeat (first | exact keeps_nil | apply keeps_cons (by repeat (first | exact find_head | apply find_tail)) (by first  | rfl) | exact keeps_self | exact keeps_left | exact keeps_right | exact keeps_swap | apply keeps_mv)) trivial ?_)
        clear hl hh a w; intro vc Fc a w hR hl hh
        obtain ⟨rfl, rfl⟩ := hR
        try simp only [List.cons_append, List.nil_append] at hh
        refine d_step (fun h => absurd h (by decide)) ?_
        refine d_done (by kernel_rfl) ?_
        try clear hM
        have hl2 := hl.add (t := 0) (hl.add (t := 3) (hl.add (t := 6) (hl.add (t := 7) (hl.add (t := 8) (hl.add (t := 9) (hl.nil) rfl) rfl) rfl) rfl) rfl) rfl; clear hl; have hl := hl2; clear hl2
        refine then_normal ?_
        refine c_seq ?_
        refine c_region ?_
        refine wl (wl_val hl rfl trivial (r_sliceA10 hl rfl rfl arr93 (by first | trivial | omega | (refine ⟨?_, ?_, ?_⟩ <;> omega) | (refine ⟨?_, ?_⟩ <;> omega)) (by first | (simp only [Int.reduceToNat]; rfl) | exact toNat_add1 _ | exact toNat_add2 _ _ | exact toNat_emod _ _ | exact Int.toNat_natCast _ | rfl)) ?_)
        clear hl a; intro a hl
        refine wl (wl_val hl rfl trivial (r_move hl rfl) ?_)
        clear hl a; intro a hl
        first | refine wl (wl_val hl rfl trivial (r_conv hl rfl Tryd.underlying3 Tryd.underlying96 (by simp only [Fits]; omega)) ?_) | refine wl (wl_val hl rfl trivial (r_convW hl rfl Tryd.underlying3 Tryd.underlying96) ?_)
        clear hl a; intro a hl
        refine wl (w_call hl hh rfl trivial rfl cal58 rfl (putU16_spec k9 64 16 48 48 93 (putF (putF (fun _ => 0) 4 4 ep) 8 8 sq) s.1 (by omega) (by omega) (by omega) (by omega)) (by repeat (first | exact keeps_nil | apply keeps_cons (by repeat (first | exact find_head | apply find_tail)) (by first  | rfl) | exact keeps_self | exact keeps_left | exact keeps_right | exact keeps_swap | apply keeps_mv)) trivial ?_)
        clear hl hh a w; intro vc Fc a w hR hl hh
        obtain ⟨rfl, rfl⟩ := hR
        try simp only [List.cons_append, List.nil_append] at hh
        refine w_nil ?_
        have hl2 := hl.add (t := 0) (hl.add (t := 3) (hl.add (t := 6) (hl.add (t := 7) (hl.add (t := 8) (hl.add (t := 9) (hl.nil) rfl) rfl) rfl) rfl) rfl) rfl; clear hl; have hl := hl2; clear hl2
        refine then_normal ?_
        refine c_seq ?_
        refine c_draw [(k3, C [.int .u32 (ep : Int), .int .u64 (sq : Int), .int .u8 (kd : Int), .slice (some ⟨db, so, none⟩) dn dcap] 60)] [5] mixed hh ?_
        clear hh w; intro w hh
        have hM : Mem [(k3, C [.int .u32 (ep : Int), .int .u64 (sq : Int), .int .u8 (kd : Int), .slice (some ⟨db, so, none⟩) dn dcap] 60)] w := (by repeat (first | exact Mem.nil | refine Mem.cons hh.mem (by repeat (first | exact find_head | apply find_tail)) ?_ | refine Mem.consR hh (by assumption) (by simp) ?_))
        refine d_take (i := 0) hl rfl (by kernel_rfl) (by kernel_rfl) (by kernel_rfl) (by kernel_rfl) (by kernel_rfl) rfl trivial (fun _ _ _ h => h) hM (fun w hC => r_sliceA10 hl rfl rfl arr93 (by first | trivial | omega | (refine ⟨?_, ?_, ?_⟩ <;> omega) | (refine ⟨?_, ?_⟩ <;> omega)) (by first | (simp only [Int.reduceToNat]; rfl) | exact toNat_add1 _ | exact toNat_add2 _ _ | exact toNat_emod _ _ | exact Int.toNat_natCast _ | rfl)) rfl ?_
        clear hl a; intro a hl
        refine d_take (i := 1) hl rfl (by kernel_rfl) (by kernel_rfl) (by kernel_rfl) (by kernel_rfl) (by kernel_rfl) rfl trivial (fun _ _ _ h => h) hM (fun w hC => r_field hl rfl fld60_3) rfl ?_
        clear hl a; intro a hl
        refine d_take (i := 2) hl rfl (by kernel_rfl) (by kernel_rfl) (by kernel_rfl) (by kernel_rfl) (by kernel_rfl) rfl trivial (fun _ _ _ h => h) hM (fun w hC => r_loadC hl rfl one29 hC (by repeat (first | exact find_head | apply find_tail)) (by first | rfl)) rfl ?_
        clear hl a; intro a hl
        refine d_take (i := 3) hl rfl (by kernel_rfl) (by kernel_rfl) (by kernel_rfl) (by kernel_rfl) (by kernel_rfl) rfl trivial (fun _ _ _ h => h) hM (fun w hC => r_lenS hl rfl slc29) rfl ?_
        clear hl a; intro a hl
        first | refine d_take (i := 4) hl rfl (by kernel_rfl) (by kernel_rfl) (by kernel_rfl) (by kernel_rfl) (by kernel_rfl) rfl trivial (fun _ _ _ h => h) hM (fun w hC => r_conv hl rfl Tryd.underlying3 Tryd.underlying56 (by simp only [Fits]; omega)) rfl ?_ | refine d_take (i := 4) hl rfl (by kernel_rfl) (by kernel_rfl) (by kernel_rfl) (by kernel_rfl) (by kernel_rfl) rfl trivial (fun _ _ _ h => h) hM (fun w hC => r_convW hl rfl Tryd.underlying3 Tryd.underlying56) rfl ?_
        clear hl a; intro a hl
        refine d_one (i := 5) (by kernel_rfl) rfl ?_
        try clear hM
        refine id (w_call hl hh rfl trivial rfl cal57 rfl (putU32_spec k9 64 18 46 46 93 (putF (putF (putF (fun _ => 0) 4 4 ep) 8 8 sq) 16 2 s.1) dn (by omega) (by omega) (by omega) (by omega)) (by repeat (first | exact keeps_nil | apply keeps_cons (by repeat (first | exact find_head | apply find_tail)) (by first  | rfl) | exact keeps_self | exact keeps_left | exact keeps_right | exact keeps_swap | apply keeps_mv)) trivial ?_)
        clear hl hh a w; intro vc Fc a w hR hl hh
        obtain ⟨rfl, rfl⟩ := hR
        try simp only [List.cons_append, List.nil_append] at hh
        refine d_step (fun h => absurd h (by decide)) ?_
        refine d_done (by kernel_rfl) ?_
        try clear hM
        have hl2 := hl.add (t := 0) (hl.add (t := 3) (hl.add (t := 6) (hl.add (t := 7) (hl.add (t := 8) (hl.add (t := 9) (hl.nil) rfl) rfl) rfl) rfl) rfl) rfl; clear hl; have hl := hl2; clear hl2
        refine then_normal ?_
        refine c_seq ?_
        refine c_region ?_
        refine wl (wl_val hl rfl trivial (r_field hl rfl fld60_2) ?_)
        clear hl a; intro a hl
        refine wl (w_load hl hh rfl trivial one58 rfl (by repeat (first | exact find_head | apply find_tail)) (by first | rfl) ?_)
        clear hl a; intro a hl
        refine wl (wl_val hl rfl trivial (r_indexA hl rfl rfl arr93 (by omega) (by omega) (by first | (simp only [Int.reduceToNat]; rfl) | exact toNat_add1 _ | exact toNat_add2 _ _ | exact toNat_emod _ _ | exact Int.toNat_natCast _ | rfl)) ?_)
        clear hl a; intro a hl
        refine wl (w_store hl hh trivial one5 rfl rfl (by repeat (first | exact find_head | apply find_tail)) (by rw [arrL_length]; omega) (by first | rfl | assumption | (apply Row.one; assumption)) (by exact st22 _ _) ?_)
        clear hh w; intro w hh
        refine w_nil ?_
        have hl2 := hl.add (t := 0) (hl.add (t := 3) (hl.add (t := 6) (hl.add (t := 7) (hl.add (t := 8) (hl.add (t := 9) (hl.nil) rfl) rfl) rfl) rfl) rfl) rfl; clear hl; have hl := hl2; clear hl2
        refine then_normal ?_
        refine c_seq ?_
        refine c_region ?_
        refine wl (wl_val hl rfl trivial (r_move hl rfl) ?_)
        clear hl a; intro a hl
        refine wl (wl_val hl rfl trivial (r_sliceA10 hl rfl rfl arr93 (by first | trivial | omega | (refine ⟨?_, ?_, ?_⟩ <;> omega) | (refine ⟨?_, ?_⟩ <;> omega)) (by first | (simp only [Int.reduceToNat]; rfl) | exact toNat_add1 _ | exact toNat_add2 _ _ | exact toNat_emod _ _ | exact Int.toNat_natCast _ | rfl)) ?_)
        clear hl a; intro a hl
        refine wl (wl_val hl rfl trivial (r_move hl rfl) ?_)
        clear hl a; intro a hl
        refine wl (w_copyR hl hh rfl trivial slc29 rfl rfl (by repeat (first | exact find_head | apply find_tail)) ((hh.frm.block db (Array.getElem?_eq_some_iff.1 hpre).1 (by simp)).trans hpre) (show Nat.min (dn - s.1 * 40) 40 = min 40 (dn - s.1 * 40) from Nat.min_comm _ _) (by rw [arrL_length]; omega) (by omega) (dat_take s.1 hd (by omega)) (datL_one _ _) (cp_set _ _ _ (by omega)) ?_)
        clear hl hh a w; intro a w hl hh
        refine wl (wl_val hl rfl trivial (r_sliceS10x hl rfl rfl slc29 (by omega) (Int.toNat_natCast _)) ?_)
        clear hl a; intro a hl
        refine wl (wl_val hl rfl trivial (r_assign hl rfl) ?_)
        clear hl a; intro a hl
        refine w_nil ?_
        have hl2 := hl.add (t := 0) (hl.add (t := 3) (hl.add (t := 6) (hl.add (t := 7) (hl.add (t := 8) (hl.add (t := 9) (hl.nil) rfl) rfl) rfl) rfl) rfl) rfl; clear hl; have hl := hl2; clear hl2
        refine then_normal ?_
        refine c_seq ?_
        refine c_draw [] [3] mixed hh ?_
        clear hh w; intro w hh
        have hM : Mem [] w := Mem.nil
        refine d_take (i := 0) hl rfl (by kernel_rfl) (by kernel_rfl) (by kernel_rfl) (by kernel_rfl) (by kernel_rfl) rfl trivial (fun _ _ _ h => h) hM (fun w hC => r_sliceA10 hl rfl rfl arr93 (by first | trivial | omega | (refine ⟨?_, ?_, ?_⟩ <;> omega) | (refine ⟨?_, ?_⟩ <;> omega)) (by first | (simp only [Int.reduceToNat]; rfl) | exact toNat_add1 _ | exact toNat_add2 _ _ | exact toNat_emod _ _ | exact Int.toNat_natCast _ | rfl)) rfl ?_
        clear hl a; intro a hl
        refine d_take (i := 1) hl rfl (by kernel_rfl) (by kernel_rfl) (by kernel_rfl) (by kernel_rfl) (by kernel_rfl) rfl trivial (fun _ _ _ h => h) hM (fun w hC => r_sliceA10 hl rfl rfl arr93 (by first | trivial | omega | (refine ⟨?_, ?_, ?_⟩ <;> omega) | (refine ⟨?_, ?_⟩ <;> omega)) (by first | (simp only [Int.reduceToNat]; rfl) | exact toNat_add1 _ | exact toNat_add2 _ _ | exact toNat_emod _ _ | exact Int.toNat_natCast _ | rfl)) rfl ?_
        clear hl a; intro a hl
        refine d_one (i := 2) (by kernel_rfl) rfl ?_
        try clear hM
        refine id (w_call hl hh rfl trivial rfl cal59 rfl (crc_spec k9 4 60 60 (arrL 64 (bV (g6F ep sq dn kd dat s.1))) 93 (fun j => g6F ep sq dn kd dat s.1 (4 + j)) (fun j hj => ⟨by rw [Nat.mul_one, arrL_get (by omega)]; rfl, g6_rng ep sq dn kd dat s.1 (by omega) hdr (4 + j)⟩) (by omega)) (by repeat (first | exact keeps_nil | apply keeps_cons (by repeat (first | exact find_head | apply find_tail)) (by first  | rfl) | exact keeps_self | exact keeps_left | exact keeps_right | exact keeps_swap | apply keeps_mv)) trivial ?_)
        clear hl hh a w; intro vc Fc a w hR hl hh
        obtain ⟨rfl, rfl⟩ := hR
        try simp only [List.cons_append, List.nil_append] at hh
        rw [(crF_eq ep sq dn kd dat s.1).1] at hl
        have hM : Mem [] w := Mem.nil
        refine d_step (fun _ => hM) ?_
        refine d_one (i := 3) (by kernel_rfl) rfl ?_
        try clear hM
        refine id (w_call hl hh rfl trivial rfl cal57 rfl (putU32_spec k9 64 0 64 64 93 (g6F ep sq dn kd dat s.1) (crF ep sq dn kd dat s.1) (by omega) (by omega) (by omega) (by omega)) (by repeat (first | exact keeps_nil | apply keeps_cons (by repeat (first | exact find_head | apply find_tail)) (by first  | rfl) | exact keeps_self | exact keeps_left | exact keeps_right | exact keeps_swap | apply keeps_mv)) trivial ?_)
        clear hl hh a w; intro vc Fc a w hR hl hh
        obtain ⟨rfl, rfl⟩ := hR
        try simp only [List.cons_append, List.nil_append] at hh
        refine d_step (fun h => absurd h (by decide)) ?_
        refine d_done (by kernel_rfl) ?_
        try clear hM
        have hl2 := hl.add (t := 0) (hl.add (t := 3) (hl.add (t := 6) (hl.add (t := 7) (hl.add (t := 8) (hl.add (t := 9) (hl.nil) rfl) rfl) rfl) rfl) rfl) rfl; clear hl; have hl := hl2; clear hl2
        refine then_normal ?_
        refine c_region ?_
        refine wl (wl_val hl rfl trivial (r_move hl rfl) ?_)
        clear hl a; intro a hl
        refine wl (wl_val hl rfl trivial (r_sliceA00 hl rfl arr93 (by first | trivial | omega | (refine ⟨?_, ?_, ?_⟩ <;> omega) | (refine ⟨?_, ?_⟩ <;> omega))) ?_)
        clear hl a; intro a hl
        refine wl (w_append (news := (arrL 64 (bV (secQ ep sq dn kd dat s.1)))) hl hh rfl trivial app29 rfl rfl rfl hrow (by repeat (first | exact keeps_nil | apply keeps_cons (by repeat (first | exact find_head | apply find_tail)) (by first  | rfl) | exact keeps_self | exact keeps_left | exact keeps_right | exact keeps_swap | apply keeps_mv)) (hh.mem _ _ (Find.mem (by repeat (first | exact find_head | apply find_tail)))) (arr_whole _ _) (by rw [arrL_length]) (bV_one _ _) (by omega) (by omega) (by omega) (by decide) ?_)
        clear hl hh a w; intro rv2 E2 a w hR2 hl hh
        have hh3 := hh.comm; clear hh; have hh := hh3; clear hh3
        simp only [List.cons_append, List.nil_append] at hh
        refine wl (wl_val hl rfl trivial (r_assign hl rfl) ?_)
        clear hl a; intro a hl
        refine w_nil ?_
        have hl2 := hl.add (t := 0) (hl.add (t := 3) (hl.add (t := 6) (hl.add (t := 7) (hl.add (t := 8) (hl.nil) rfl) rfl) rfl) rfl) rfl; clear hl; have hl := hl2; clear hl2
        refine blk_normal ?_
        refine then_normal ?_
        refine c_region ?_
        refine wl (wl_val hl rfl trivial (r_move hl rfl) ?_)
        clear hl a; intro a hl
        first | refine wl (wl_val hl rfl trivial (r_add hl rfl rfl (by simp only [Fits]; omega)) ?_) | refine wl (wl_val hl rfl trivial (r_addW hl rfl rfl) ?_)
        clear hl a; intro a hl
        refine wl (wl_val hl rfl trivial (r_assign hl rfl) ?_)
        clear hl a; intro a hl
        refine w_nil ?_
        have hl2 := hl.add (t := 0) (hl.add (t := 3) (hl.add (t := 6) (hl.add (t := 7) (hl.add (t := 8) (hl.nil) rfl) rfl) rfl) rfl) rfl; clear hl; have hl := hl2; clear hl2
        refine then_normal ?_
        refine ⟨(s.1 + 1, rv2, E2, .slice (if dcap - s.1 * 40 = min 40 (dn - s.1 * 40) then some ⟨db, so + s.1 * 40, none⟩ else some ⟨db, so + s.1 * 40 + min 40 (dn - s.1 * 40) * 1, none⟩) (dn - s.1 * 40 - min 40 (dn - s.1 * 40)) (dcap - s.1 * 40 - min 40 (dn - s.1 * 40))), (by show secN dn - (s.1 + 1) < secN dn - s.1; omega), ⟨by show s.1 + 1 ≤ secN dn; omega, by show Row rv2 ((s.1 + 1) * 64) (encC (secQ ep sq dn kd dat) (s.1 + 1)) 1 5 E2; rw [encC_succ, show (s.1 + 1) * 64 = s.1 * 64 + 64 by omega]; exact hR2, (fun hlt => by obtain ⟨hp2, hpc2⟩ := part_len (p := s.1 + 1) (ln := dn) hlt h0; show Value.slice _ _ _ = .slice (some ⟨db, so + (s.1 + 1) * 40, none⟩) (dn - (s.1 + 1) * 40) (dcap - (s.1 + 1) * 40); rw [if_neg (by omega), show min 40 (dn - s.1 * 40) = 40 by omega, show so + s.1 * 40 + 40 * 1 = so + (s.1 + 1) * 40 by omega, show dn - s.1 * 40 - 40 = dn - (s.1 + 1) * 40 by omega, show dcap - s.1 * 40 - 40 = dcap - (s.1 + 1) * 40 by omega])⟩, hl.addE (t := 7) (hl.addE (t := 0) (hl.addE (t := 6) (hl.addE (t := 3) (hl.addE (t := 8) (hl.nil) rfl (by first | rfl | rfl)) rfl (by first | rfl | rfl)) rfl (by first | rfl | rfl)) rfl (by first | rfl | rfl)) rfl (by first | rfl | rfl), hh.keep (by repeat (first | exact keeps_nil | apply keeps_cons (by repeat (first | exact find_head | apply find_tail)) (by first  | rfl) | exact keeps_self | exact keeps_left | exact keeps_right | exact keeps_swap | apply keeps_mv))⟩
      · intro hc2
        try simp only [decide_eq_true_eq, decide_eq_false_iff_not, Bool.not_eq_true', Bool.not_eq_false', Bool.not_eq_true, Bool.not_eq_false, Bool.and_eq_true, Bool.or_eq_true, Bool.and_eq_false_iff, Bool.or_eq_false_iff, Bool.not_not, ne_eq, Int.not_lt, Int.not_le, Decidable.not_not, beq_iff_eq, bne_iff_ne] at hc2
        have hse : s.1 = secN dn := by omega
        rw [hse] at hrow
        refine wp_exit ?_
        refine then_exit ?_
        refine then_exit ?_
        refine blk_exit ?_
        refine then_normal ?_
        refine c_seq ?_
        refine c_region ?_
        refine wl (wl_val hl rfl trivial (r_move hl rfl) ?_)
        clear hl a; intro a hl
        refine wl (wl_val hl rfl trivial (r_assign hl rfl) ?_)
        clear hl a; intro a hl
        refine wl (wl_val hl rfl trivial (r_assign hl rfl) ?_)
        clear hl a; intro a hl
        refine w_nil ?_
        have hl2 := hl.add (t := 4) (hl.add (t := 5) (hl.nil) rfl) rfl; clear hl; have hl := hl2; clear hl2
        refine then_normal ?_
        refine wp_ret ?_
        refine f_ret2 (F' := s.2.2.1) hl hh rfl rfl rfl (by repeat (first | exact keeps_nil | apply keeps_cons (by repeat (first | exact find_head | apply find_tail)) (by first  | rfl) | exact keeps_self | exact keeps_left | exact keeps_right | exact keeps_swap | apply keeps_mv)) ?_
        exact ⟨s.2.1, s.2.2.1, hrow, rfl, rfl⟩

set_option maxHeartbeats 4000000 in
theorem encode0 (ep sq kd dn : Nat) (dat : Nat → Int) (p0 : Option Addr) (dcap : Nat) (h0 : dn = 0) (hdn : dn ≤ 81880) (hep : ep < 4294967296) (hsq : sq < 18446744073709551616) (hkd : kd = 1 ∨ kd = 2) : SpK Tryd.prog 38 #[.slice none 0 0, .agg ⟨[.int .u32 (ep : Int), .int .u64 (sq : Int), .int .u8 (kd : Int), .slice p0 dn dcap]⟩] (fun _ => True) [] (fun u F' => ∃ rv E, Row rv (secN dn * 64) (encC (secQ ep sq dn kd dat) (secN dn)) 1 5 E ∧ u = .tuple #[rv, .nilIface] ∧ F' = E) := by
  refine f_enter (args := [.slice none 0 0, .agg ⟨[.int .u32 (ep : Int), .int .u64 (sq : Int), .int .u8 (kd : Int), .slice p0 dn dcap]⟩]) Tryd.func38 rfl Tryd.ntmps38 rfl ?_
  intro w0 w a hpre hl hh
  have hsp := secN_pos dn; have hsl := secN_le dn; have hsc := secN_cover dn
  have hdr : ∀ i, i < dn → 0 ≤ dat i ∧ dat i ≤ 255 := fun i hi => by omega
  simp only [slotsFrom, Nat.reduceAdd] at hl
  refine c_seq ?_
  refine c_region ?_
  refine wl (w_box hl hh rfl trivial rfl rfl ?_)
  clear hl hh a w; intro k3 a w hl hh
  refine wl (wl_val hl rfl trivial (r_assign hl rfl) ?_)
  clear hl a; intro a hl
  refine wl (wl_val hl rfl trivial (r_assign hl rfl) ?_)
  clear hl a; intro a hl
  refine w_nil ?_
  have hl2 := hl.add (t := 0) (hl.add (t := 3) (hl.nil) rfl) rfl; clear hl; have hl := hl2; clear hl2
  refine then_normal ?_
  refine c_seq ?_
  refine c_seq ?_
  refine c_region ?_
  refine wl (wl_val hl rfl trivial (r_field hl rfl fld60_3) ?_)
  clear hl a; intro a hl
  refine wl (w_load hl hh rfl trivial one29 rfl (by repeat (first | exact find_head | apply find_tail)) (by first | rfl) ?_)
  clear hl a; intro a hl
  refine wl (wl_val hl rfl trivial (r_lenS hl rfl slc29) ?_)
  clear hl a; intro a hl
  refine wl (wl_val hl rfl trivial (r_gtr hl rfl rfl) ?_)
  clear hl a; intro a hl
  refine w_nil ?_
  have hl2 := hl.add (t := 0) (hl.add (t := 3) (hl.add (t := 13) (hl.nil) rfl) rfl) rfl; clear hl; have hl := hl2; clear hl2
  refine then_normal ?_
  refine c_cond hl rfl ?_ ?_
  · intro hc0
    try simp only [decide_eq_true_eq, decide_eq_false_iff_not, Bool.not_eq_true', Bool.not_eq_false', Bool.not_eq_true, Bool.not_eq_false, Bool.and_eq_true, Bool.or_eq_true, Bool.and_eq_false_iff, Bool.or_eq_false_iff, Bool.not_not, ne_eq, Int.not_lt, Int.not_le, Decidable.not_not, beq_iff_eq, bne_iff_ne] at hc0
    exfalso; first | omega | (simp at *; done)
  · intro hc0
    try simp only [decide_eq_true_eq, decide_eq_false_iff_not, Bool.not_eq_true', Bool.not_eq_false', Bool.not_eq_true, Bool.not_eq_false, Bool.and_eq_true, Bool.or_eq_true, Bool.and_eq_false_iff, Bool.or_eq_false_iff, Bool.not_not, ne_eq, Int.not_lt, Int.not_le, Decidable.not_not, beq_iff_eq, bne_iff_ne] at hc0
    refine wp_skip ?_
    refine then_normal ?_
    refine c_seq ?_
    refine c_seq ?_
    refine c_region ?_
    refine wl (wl_val hl rfl trivial (r_field hl rfl fld60_2) ?_)
    clear hl a; intro a hl
    refine wl (w_load hl hh rfl trivial one58 rfl (by repeat (first | exact find_head | apply find_tail)) (by first | rfl) ?_)
    clear hl a; intro a hl
    refine wl (wl_val hl rfl trivial (r_neq hl rfl rfl) ?_)
    clear hl a; intro a hl
    refine wl (wl_val hl rfl trivial (r_move hl rfl) ?_)
    clear hl a; intro a hl
    refine sl_split (t := 19) hl rfl ?_ ?_
    · intro hg1; clear hl; intro hl
      try simp only [decide_eq_true_eq, decide_eq_false_iff_not, Bool.not_eq_true', Bool.not_eq_false', Bool.not_eq_true, Bool.not_eq_false, Bool.and_eq_true, Bool.or_eq_true, Bool.and_eq_false_iff, Bool.or_eq_false_iff, Bool.not_not, ne_eq, Int.not_lt, Int.not_le, Decidable.not_not, beq_iff_eq, bne_iff_ne] at hg1
      refine wl (wl_val hl rfl ⟨_, _, rfl, rfl, rfl⟩ (r_field hl rfl fld60_2) ?_)
      clear hl a; intro a hl
      refine wl (w_load hl hh rfl ⟨_, _, rfl, rfl, rfl⟩ one58 rfl (by repeat (first | exact find_head | apply find_tail)) (by first | rfl) ?_)
      clear hl a; intro a hl
      refine wl (wl_val hl rfl ⟨_, _, rfl, rfl, rfl⟩ (r_neq hl rfl rfl) ?_)
      clear hl a; intro a hl
      refine wl (wl_val hl rfl trivial (r_pickT hl rfl rfl) ?_)
      clear hl a; intro a hl
      refine w_nil ?_
      have hl2 := hl.add (t := 0) (hl.add (t := 3) (hl.add (t := 23) (hl.nil) rfl) rfl) rfl; clear hl; have hl := hl2; clear hl2
      refine then_normal ?_
      refine c_cond hl rfl ?_ ?_
      · intro hc1
        try simp only [decide_eq_true_eq, decide_eq_false_iff_not, Bool.not_eq_true', Bool.not_eq_false', Bool.not_eq_true, Bool.not_eq_false, Bool.and_eq_true, Bool.or_eq_true, Bool.and_eq_false_iff, Bool.or_eq_false_iff, Bool.not_not, ne_eq, Int.not_lt, Int.not_le, Decidable.not_not, beq_iff_eq, bne_iff_ne] at hc1
        exfalso; first | omega | (simp at *; done)
      · intro hc1
        try simp only [decide_eq_true_eq, decide_eq_false_iff_not, Bool.not_eq_true', Bool.not_eq_false', Bool.not_eq_true, Bool.not_eq_false, Bool.and_eq_true, Bool.or_eq_true, Bool.and_eq_false_iff, Bool.or_eq_false_iff, Bool.not_not, ne_eq, Int.not_lt, Int.not_le, Decidable.not_not, beq_iff_eq, bne_iff_ne] at hc1
        refine wp_skip ?_
        refine then_normal ?_
        refine c_seq ?_
        refine c_region ?_
        refine wl (wl_val hl rfl trivial (r_field hl rfl fld60_3) ?_)
        clear hl a; intro a hl
        refine wl (w_load hl hh rfl trivial one29 rfl (by repeat (first | exact find_head | apply find_tail)) (by first | rfl) ?_)
        clear hl a; intro a hl
        refine wl (wl_val hl rfl trivial (r_assign hl rfl) ?_)
        clear hl a; intro a hl
        refine w_nil ?_
        have hl2 := hl.add (t := 0) (hl.add (t := 3) (hl.add (t := 6) (hl.nil) rfl) rfl) rfl; clear hl; have hl := hl2; clear hl2
        refine then_normal ?_
        refine c_seq ?_
        refine c_seq ?_
        refine c_region ?_
        refine wl (wl_val hl rfl trivial (r_field hl rfl fld60_3) ?_)
        clear hl a; intro a hl
        refine wl (w_load hl hh rfl trivial one29 rfl (by repeat (first | exact find_head | apply find_tail)) (by first | rfl) ?_)
        clear hl a; intro a hl
        refine wl (wl_val hl rfl trivial (r_lenS hl rfl slc29) ?_)
        clear hl a; intro a hl
        refine wl (w_call hl hh rfl trivial rfl cal52 rfl (sectors_spec dn (by omega)) (by repeat (first | exact keeps_nil | apply keeps_cons (by repeat (first | exact find_head | apply find_tail)) (by first  | rfl) | exact keeps_self | exact keeps_left | exact keeps_right | exact keeps_swap | apply keeps_mv)) trivial ?_)
        clear hl hh a w; intro vc Fc a w hR hl hh
        obtain ⟨rfl, rfl⟩ := hR
        try simp only [List.cons_append, List.nil_append] at hh
        refine wl (wl_val hl rfl trivial (r_assign hl rfl) ?_)
        clear hl a; intro a hl
        refine wl (wl_val hl rfl trivial (r_assign hl rfl) ?_)
        clear hl a; intro a hl
        refine w_nil ?_
        have hl2 := hl.add (t := 0) (hl.add (t := 3) (hl.add (t := 6) (hl.add (t := 7) (hl.add (t := 8) (hl.nil) rfl) rfl) rfl) rfl) rfl; clear hl; have hl := hl2; clear hl2
        refine then_normal ?_
        refine wp_block ?_
        obtain ⟨KS0, hKS0, hk⟩ := (hl.add (t := 3) (hl.add (t := 8) (hl.nil) rfl) rfl).name
        obtain ⟨HS0, hHS0, hh2⟩ := hh.nameT (A := [(k3, C [.int .u32 (ep : Int), .int .u64 (sq : Int), .int .u8 (kd : Int), .slice p0 dn dcap] 60)]) (U := []) (keeps_cons (b := k3) (by repeat (first | exact find_head | apply find_tail)) (by first | rfl) ((by repeat (first | exact keeps_nil | exact keeps_self | exact keeps_swap | apply keeps_mv))))
        refine c_loop (α := Nat × Value × List (Nat × Obj) × Value) (fun s => secN dn - s.1) (fun s a w => (s.1 ≤ secN dn ∧ Row s.2.1 (s.1 * 64) (encC (secQ ep sq dn kd dat) s.1) 1 5 s.2.2.1 ∧ (∃ pp, s.2.2.2 = .slice pp 0 dcap)) ∧ Sl 71 ([(7, .int .i64 (s.1 : Int)), (0, s.2.1), (6, s.2.2.2)] ++ KS0) a ∧ Has _ w0 ([(k3, C [.int .u32 (ep : Int), .int .u64 (sq : Int), .int .u8 (kd : Int), .slice p0 dn dcap] 60)] ++ (HS0 ++ s.2.2.1)) w) (0, .slice none 0 0, [], .slice p0 dn dcap) ⟨⟨Nat.zero_le _, Row.nil _ _, ⟨p0, by show Value.slice p0 dn dcap = _; rw [h0]⟩⟩, hl.addE (t := 7) (hl.addE (t := 0) (hl.addE (t := 6) (hk) rfl (by first | rfl)) rfl (by first | rfl)) rfl (by first | rfl), (by first | exact hh2 | (simp only [List.append_nil]; simp only [List.append_nil] at hh2; exact hh2) | (simp only [List.append_nil]; exact hh2))⟩ ?_
        clear hk hh2 hl hh a w
        intro s a w hI
        obtain ⟨⟨hs, hrow, hrest⟩, hl, hh⟩ := hI
        subst hKS0; subst hHS0
        simp only [List.cons_append, List.nil_append, List.append_nil] at hl hh
        have hone : s.2.1.oneCell' = true := hrow.one
        refine c_seq ?_
        refine c_seq ?_
        refine c_region ?_
        refine wl (wl_val hl rfl trivial (r_move hl rfl) ?_)
        clear hl a; intro a hl
        refine wl (wl_val hl rfl trivial (r_move hl rfl) ?_)
        clear hl a; intro a hl
        refine wl (wl_val hl rfl trivial (r_lss hl rfl rfl) ?_)
        clear hl a; intro a hl
        refine w_nil ?_
        have hl2 := hl.add (t := 0) (hl.add (t := 3) (hl.add (t := 6) (hl.add (t := 7) (hl.add (t := 8) (hl.add (t := 34) (hl.nil) rfl) rfl) rfl) rfl) rfl) rfl; clear hl; have hl := hl2; clear hl2
        refine then_normal ?_
        refine c_cond hl rfl ?_ ?_
        · intro hc2
          try simp only [decide_eq_true_eq, decide_eq_false_iff_not, Bool.not_eq_true', Bool.not_eq_false', Bool.not_eq_true, Bool.not_eq_false, Bool.and_eq_true, Bool.or_eq_true, Bool.and_eq_false_iff, Bool.or_eq_false_iff, Bool.not_not, ne_eq, Int.not_lt, Int.not_le, Decidable.not_not, beq_iff_eq, bne_iff_ne] at hc2
          obtain ⟨pp, hrs⟩ := hrest
          rw [hrs] at hl
          have hs0 : secN dn = 1 := by rw [h0]; rfl
          refine wp_skip ?_
          refine then_normal ?_
          refine c_seq ?_
          refine wp_block ?_
          refine c_seq ?_
          refine c_region ?_
          refine wl (w_alloc hl hh rfl trivial zero93 rfl ?_)
          clear hl hh a w; intro k9 a w hl hh
          refine w_nil ?_
          have hl2 := hl.add (t := 0) (hl.add (t := 3) (hl.add (t := 6) (hl.add (t := 7) (hl.add (t := 8) (hl.add (t := 9) (hl.nil) rfl) rfl) rfl) rfl) rfl) rfl; clear hl; have hl := hl2; clear hl2
          refine then_normal ?_
          refine c_seq ?_
          refine c_draw [(k3, C [.int .u32 (ep : Int), .int .u64 (sq : Int), .int .u8 (kd : Int), .slice p0 dn dcap] 60)] [3] mixed hh ?_
          clear hh w; intro w hh
          have hM : Mem [(k3, C [.int .u32 (ep : Int), .int .u64 (sq : Int), .int .u8 (kd : Int), .slice p0 dn dcap] 60)] w := (by repeat (first | exact Mem.nil | refine Mem.cons hh.mem (by repeat (first | exact find_head | apply find_tail)) ?_ | refine Mem.consR hh (by assumption) (by simp) ?_))
          refine d_take (i := 0) hl rfl (by kernel_rfl) (by kernel_rfl) (by kernel_rfl) (by kernel_rfl) (by kernel_rfl) rfl trivial (fun _ _ _ h => h) hM (fun w hC => r_sliceA10 hl rfl rfl arr93 (by first | trivial | omega | (refine ⟨?_, ?_, ?_⟩ <;> omega) | (refine ⟨?_, ?_⟩ <;> omega)) (by first | (simp only [Int.reduceToNat]; rfl) | exact toNat_add1 _ | exact toNat_add2 _ _ | exact toNat_emod _ _ | exact Int.toNat_natCast _ | rfl)) rfl ?_
          clear hl a; intro a hl
          refine d_take (i := 1) hl rfl (by kernel_rfl) (by kernel_rfl) (by kernel_rfl) (by kernel_rfl) (by kernel_rfl) rfl trivial (fun _ _ _ h => h) hM (fun w hC => r_field hl rfl fld60_0) rfl ?_
          clear hl a; intro a hl
          refine d_take (i := 2) hl rfl (by kernel_rfl) (by kernel_rfl) (by kernel_rfl) (by kernel_rfl) (by kernel_rfl) rfl trivial (fun _ _ _ h => h) hM (fun w hC => r_loadC hl rfl one56 hC (by repeat (first | exact find_head | apply find_tail)) (by first | rfl)) rfl ?_
          clear hl a; intro a hl
          refine d_one (i := 3) (by kernel_rfl) rfl ?_
          try clear hM
          refine id (w_call hl hh rfl trivial rfl cal57 rfl (putU32_spec k9 64 4 60 60 93 (fun _ => 0) ep (by omega) (by omega) (by omega) (by omega)) (by repeat (first | exact keeps_nil | apply keeps_cons (by repeat (first | exact find_head | apply find_tail)) (by first  | rfl) | exact keeps_self | exact keeps_left | exact keeps_right | exact keeps_swap | apply keeps_mv)) trivial ?_)
          clear hl hh a w; intro vc Fc a w hR hl hh
          obtain ⟨rfl, rfl⟩ := hR
          try simp only [List.cons_append, List.nil_append] at hh
          refine d_step (fun h => absurd h (by decide)) ?_
          refine d_done (by kernel_rfl) ?_
          try clear hM
          have hl2 := hl.add (t := 0) (hl.add (t := 3) (hl.add (t := 6) (hl.add (t := 7) (hl.add (t := 8) (hl.add (t := 9) (hl.nil) rfl) rfl) rfl) rfl) rfl) rfl; clear hl; have hl := hl2; clear hl2
          refine then_normal ?_
          refine c_seq ?_
          refine c_draw [(k3, C [.int .u32 (ep : Int), .int .u64 (sq : Int), .int .u8 (kd : Int), .slice p0 dn dcap] 60)] [3] mixed hh ?_
          clear hh w; intro w hh
          have hM : Mem [(k3, C [.int .u32 (ep : Int), .int .u64 (sq : Int), .int .u8 (kd : Int), .slice p0 dn dcap] 60)] w := (by repeat (first | exact Mem.nil | refine Mem.cons hh.mem (by repeat (first | exact find_head | apply find_tail)) ?_ | refine Mem.consR hh (by assumption) (by simp) ?_))
          refine d_take (i := 0) hl rfl (by kernel_rfl) (by kernel_rfl) (by kernel_rfl) (by kernel_rfl) (by kernel_rfl) rfl trivial (fun _ _ _ h => h) hM (fun w hC => r_sliceA10 hl rfl rfl arr93 (by first | trivial | omega | (refine ⟨?_, ?_, ?_⟩ <;> omega) | (refine ⟨?_, ?_⟩ <;> omega)) (by first | (simp only [Int.reduceToNat]; rfl) | exact toNat_add1 _ | exact toNat_add2 _ _ | exact toNat_emod _ _ | exact Int.toNat_natCast _ | rfl)) rfl ?_
          clear hl a; intro a hl
          refine d_take (i := 1) hl rfl (by kernel_rfl) (by kernel_rfl) (by kernel_rfl) (by kernel_rfl) (by kernel_rfl) rfl trivial (fun _ _ _ h => h) hM (fun w hC => r_field hl rfl fld60_1) rfl ?_
          clear hl a; intro a hl
          refine d_take (i := 2) hl rfl (by kernel_rfl) (by kernel_rfl) (by kernel_rfl) (by kernel_rfl) (by kernel_rfl) rfl trivial (fun _ _ _ h => h) hM (fun w hC => r_loadC hl rfl one30 hC (by repeat (first | exact find_head | apply find_tail)) (by first | rfl)) rfl ?_
          clear hl a; intro a hl
          refine d_one (i := 3) (by kernel_rfl) rfl ?_
          try clear hM
          refine id (w_call hl hh rfl trivial rfl cal56 rfl (putU64_spec k9 64 8 56 56 93 (putF (fun _ => 0) 4 4 ep) sq (by omega) (by omega) (by omega) (by omega)) (by repeat (first | exact keeps_nil | apply keeps_cons (by repeat (first | exact find_head | apply find_tail)) (by first  | rfl) | exact keeps_self | exact keeps_left | exact keeps_right | exact keeps_swap | apply keeps_mv)) trivial ?_)
          clear hl hh a w; intro vc Fc a w hR hl hh
          obtain ⟨rfl, rfl⟩ := hR
          try simp only [List.cons_append, List.nil_append] at hh
          refine d_step (fun h => absurd h (by decide)) ?_
          refine d_done (by kernel_rfl) ?_
          try clear hM
          have hl2 := hl.add (t := 0) (hl.add (t := 3) (hl.add (t := 6) (hl.add (t := 7) (hl.add (t := 8) (hl.add (t := 9) (hl.nil) rfl) rfl) rfl) rfl) rfl) rfl; clear hl; have hl := hl2; clear hl2
          refine then_normal ?_
          refine c_seq ?_
          refine c_region ?_
          refine wl (wl_val hl rfl trivial (r_sliceA10 hl rfl rfl arr93 (by first | trivial | omega | (refine ⟨?_, ?_, ?_⟩ <;> omega) | (refine ⟨?_, ?_⟩ <;> omega)) (by first | (simp only [Int.reduceToNat]; rfl) | exact toNat_add1 _ | exact toNat_add2 _ _ | exact toNat_emod _ _ | exact Int.toNat_natCast _ | rfl)) ?_)
          clear hl a; intro a hl
          refine wl (wl_val hl rfl trivial (r_move hl rfl) ?_)
          clear hl a; intro a hl
          first | refine wl (wl_val hl rfl trivial (r_conv hl rfl Tryd.underlying3 Tryd.underlying96 (by simp only [Fits]; omega)) ?_) | refine wl (wl_val hl rfl trivial (r_convW hl rfl Tryd.underlying3 Tryd.underlying96) ?_)
          clear hl a; intro a hl
          refine wl (w_call hl hh rfl trivial rfl cal58 rfl (putU16_spec k9 64 16 48 48 93 (putF (putF (fun _ => 0) 4 4 ep) 8 8 sq) s.1 (by omega) (by omega) (by omega) (by omega)) (by repeat (first | exact keeps_nil | apply keeps_cons (by repeat (first | exact find_head | apply find_tail)) (by first  | rfl) | exact keeps_self | exact keeps_left | exact keeps_right | exact keeps_swap | apply keeps_mv)) trivial ?_)
          clear hl hh a w; intro vc Fc a w hR hl hh
          obtain ⟨rfl, rfl⟩ := hR
          try simp only [List.cons_append, List.nil_append] at hh
          refine w_nil ?_
          have hl2 := hl.add (t := 0) (hl.add (t := 3) (hl.add (t := 6) (hl.add (t := 7) (hl.add (t := 8) (hl.add (t := 9) (hl.nil) rfl) rfl) rfl) rfl) rfl) rfl; clear hl; have hl := hl2; clear hl2
          refine then_normal ?_
          refine c_seq ?_
          refine c_draw [(k3, C [.int .u32 (ep : Int), .int .u64 (sq : Int), .int .u8 (kd : Int), .slice p0 dn dcap] 60)] [5] mixed hh ?_
          clear hh w; intro w hh
          have hM : Mem [(k3, C [.int .u32 (ep : Int), .int .u64 (sq : Int), .int .u8 (kd : Int), .slice p0 dn dcap] 60)] w := (by repeat (first | exact Mem.nil | refine Mem.cons hh.mem (by repeat (first | exact find_head | apply find_tail)) ?_ | refine Mem.consR hh (by assumption) (by simp) ?_))
          refine d_take (i := 0) hl rfl (by kernel_rfl) (by kernel_rfl) (by kernel_rfl) (by kernel_rfl) (by kernel_rfl) rfl trivial (fun _ _ _ h => h) hM (fun w hC => r_sliceA10 hl rfl rfl arr93 (by first | trivial | omega | (refine ⟨?_, ?_, ?_⟩ <;> omega) | (refine ⟨?_, ?_⟩ <;> omega)) (by first | (simp only [Int.reduceToNat]; rfl) | exact toNat_add1 _ | exact toNat_add2 _ _ | exact toNat_emod _ _ | exact Int.toNat_natCast _ | rfl)) rfl ?_
          clear hl a; intro a hl
          refine d_take (i := 1) hl rfl (by kernel_rfl) (by kernel_rfl) (by kernel_rfl) (by kernel_rfl) (by kernel_rfl) rfl trivial (fun _ _ _ h => h) hM (fun w hC => r_field hl rfl fld60_3) rfl ?_
          clear hl a; intro a hl
          refine d_take (i := 2) hl rfl (by kernel_rfl) (by kernel_rfl) (by kernel_rfl) (by kernel_rfl) (by kernel_rfl) rfl trivial (fun _ _ _ h => h) hM (fun w hC => r_loadC hl rfl one29 hC (by repeat (first | exact find_head | apply find_tail)) (by first | rfl)) rfl ?_
          clear hl a; intro a hl
          refine d_take (i := 3) hl rfl (by kernel_rfl) (by kernel_rfl) (by kernel_rfl) (by kernel_rfl) (by kernel_rfl) rfl trivial (fun _ _ _ h => h) hM (fun w hC => r_lenS hl rfl slc29) rfl ?_
          clear hl a; intro a hl
          first | refine d_take (i := 4) hl rfl (by kernel_rfl) (by kernel_rfl) (by kernel_rfl) (by kernel_rfl) (by kernel_rfl) rfl trivial (fun _ _ _ h => h) hM (fun w hC => r_conv hl rfl Tryd.underlying3 Tryd.underlying56 (by simp only [Fits]; omega)) rfl ?_ | refine d_take (i := 4) hl rfl (by kernel_rfl) (by kernel_rfl) (by kernel_rfl) (by kernel_rfl) (by kernel_rfl) rfl trivial (fun _ _ _ h => h) hM (fun w hC => r_convW hl rfl Tryd.underlying3 Tryd.underlying56) rfl ?_
          clear hl a; intro a hl
          refine d_one (i := 5) (by kernel_rfl) rfl ?_
          try clear hM
          refine id (w_call hl hh rfl trivial rfl cal57 rfl (putU32_spec k9 64 18 46 46 93 (putF (putF (putF (fun _ => 0) 4 4 ep) 8 8 sq) 16 2 s.1) dn (by omega) (by omega) (by omega) (by omega)) (by repeat (first | exact keeps_nil | apply keeps_cons (by repeat (first | exact find_head | apply find_tail)) (by first  | rfl) | exact keeps_self | exact keeps_left | exact keeps_right | exact keeps_swap | apply keeps_mv)) trivial ?_)
          clear hl hh a w; intro vc Fc a w hR hl hh
          obtain ⟨rfl, rfl⟩ := hR
          try simp only [List.cons_append, List.nil_append] at hh
          refine d_step (fun h => absurd h (by decide)) ?_
          refine d_done (by kernel_rfl) ?_
          try clear hM
          have hl2 := hl.add (t := 0) (hl.add (t := 3) (hl.add (t := 6) (hl.add (t := 7) (hl.add (t := 8) (hl.add (t := 9) (hl.nil) rfl) rfl) rfl) rfl) rfl) rfl; clear hl; have hl := hl2; clear hl2
          refine then_normal ?_
          refine c_seq ?_
          refine c_region ?_
          refine wl (wl_val hl rfl trivial (r_field hl rfl fld60_2) ?_)
          clear hl a; intro a hl
          refine wl (w_load hl hh rfl trivial one58 rfl (by repeat (first | exact find_head | apply find_tail)) (by first | rfl) ?_)
          clear hl a; intro a hl
          refine wl (wl_val hl rfl trivial (r_indexA hl rfl rfl arr93 (by omega) (by omega) (by first | (simp only [Int.reduceToNat]; rfl) | exact toNat_add1 _ | exact toNat_add2 _ _ | exact toNat_emod _ _ | exact Int.toNat_natCast _ | rfl)) ?_)
          clear hl a; intro a hl
          refine wl (w_store hl hh trivial one5 rfl rfl (by repeat (first | exact find_head | apply find_tail)) (by rw [arrL_length]; omega) (by first | rfl | assumption | (apply Row.one; assumption)) (by exact st22 _ _) ?_)
          clear hh w; intro w hh
          refine w_nil ?_
          have hl2 := hl.add (t := 0) (hl.add (t := 3) (hl.add (t := 6) (hl.add (t := 7) (hl.add (t := 8) (hl.add (t := 9) (hl.nil) rfl) rfl) rfl) rfl) rfl) rfl; clear hl; have hl := hl2; clear hl2
          refine then_normal ?_
          refine c_seq ?_
          refine c_region ?_
          refine wl (wl_val hl rfl trivial (r_move hl rfl) ?_)
          clear hl a; intro a hl
          refine wl (wl_val hl rfl trivial (r_sliceA10 hl rfl rfl arr93 (by first | trivial | omega | (refine ⟨?_, ?_, ?_⟩ <;> omega) | (refine ⟨?_, ?_⟩ <;> omega)) (by first | (simp only [Int.reduceToNat]; rfl) | exact toNat_add1 _ | exact toNat_add2 _ _ | exact toNat_emod _ _ | exact Int.toNat_natCast _ | rfl)) ?_)
          clear hl a; intro a hl
          refine wl (wl_val hl rfl trivial (r_move hl rfl) ?_)
          clear hl a; intro a hl
          refine wl (wl_val hl rfl trivial (r_copy0 hl rfl rfl slc29) ?_)
          clear hl a; intro a hl
          rw [g6_zero ep sq dn kd dat s.1 h0] at hh
          obtain ⟨p6, hp6⟩ := r_sliceS10z (P := Tryd.prog) (dst := some 62) (T := 29) (pos := "frame.go:71") hl (rfl : val _ (.tmp 58) = some (.slice _ 0 dcap)) (rfl : val _ (.tmp 61) = some (.int .i64 0)) slc29
          refine wl (wl_val hl rfl trivial hp6 ?_)
          clear hl hp6 a; intro a hl
          refine wl (wl_val hl rfl trivial (r_assign hl rfl) ?_)
          clear hl a; intro a hl
          refine w_nil ?_
          have hl2 := hl.add (t := 0) (hl.add (t := 3) (hl.add (t := 6) (hl.add (t := 7) (hl.add (t := 8) (hl.add (t := 9) (hl.nil) rfl) rfl) rfl) rfl) rfl) rfl; clear hl; have hl := hl2; clear hl2
          refine then_normal ?_
          refine c_seq ?_
          refine c_draw [] [3] mixed hh ?_
          clear hh w; intro w hh
          have hM : Mem [] w := Mem.nil
          refine d_take (i := 0) hl rfl (by kernel_rfl) (by kernel_rfl) (by kernel_rfl) (by kernel_rfl) (by kernel_rfl) rfl trivial (fun _ _ _ h => h) hM (fun w hC => r_sliceA10 hl rfl rfl arr93 (by first | trivial | omega | (refine ⟨?_, ?_, ?_⟩ <;> omega) | (refine ⟨?_, ?_⟩ <;> omega)) (by first | (simp only [Int.reduceToNat]; rfl) | exact toNat_add1 _ | exact toNat_add2 _ _ | exact toNat_emod _ _ | exact Int.toNat_natCast _ | rfl)) rfl ?_
          clear hl a; intro a hl
          refine d_take (i := 1) hl rfl (by kernel_rfl) (by kernel_rfl) (by kernel_rfl) (by kernel_rfl) (by kernel_rfl) rfl trivial (fun _ _ _ h => h) hM (fun w hC => r_sliceA10 hl rfl rfl arr93 (by first | trivial | omega | (refine ⟨?_, ?_, ?_⟩ <;> omega) | (refine ⟨?_, ?_⟩ <;> omega)) (by first | (simp only [Int.reduceToNat]; rfl) | exact toNat_add1 _ | exact toNat_add2 _ _ | exact toNat_emod _ _ | exact Int.toNat_natCast _ | rfl)) rfl ?_
          clear hl a; intro a hl
          refine d_one (i := 2) (by kernel_rfl) rfl ?_
          try clear hM
          refine id (w_call hl hh rfl trivial rfl cal59 rfl (crc_spec k9 4 60 60 (arrL 64 (bV (g6F ep sq dn kd dat s.1))) 93 (fun j => g6F ep sq dn kd dat s.1 (4 + j)) (fun j hj => ⟨by rw [Nat.mul_one, arrL_get (by omega)]; rfl, g6_rng ep sq dn kd dat s.1 (by omega) hdr (4 + j)⟩) (by omega)) (by repeat (first | exact keeps_nil | apply keeps_cons (by repeat (first | exact find_head | apply find_tail)) (by first  | rfl) | exact keeps_self | exact keeps_left | exact keeps_right | exact keeps_swap | apply keeps_mv)) trivial ?_)
          clear hl hh a w; intro vc Fc a w hR hl hh
          obtain ⟨rfl, rfl⟩ := hR
          try simp only [List.cons_append, List.nil_append] at hh
          rw [(crF_eq ep sq dn kd dat s.1).1] at hl
          have hM : Mem [] w := Mem.nil
          refine d_step (fun _ => hM) ?_
          refine d_one (i := 3) (by kernel_rfl) rfl ?_
          try clear hM
          refine id (w_call hl hh rfl trivial rfl cal57 rfl (putU32_spec k9 64 0 64 64 93 (g6F ep sq dn kd dat s.1) (crF ep sq dn kd dat s.1) (by omega) (by omega) (by omega) (by omega)) (by repeat (first | exact keeps_nil | apply keeps_cons (by repeat (first | exact find_head | apply find_tail)) (by first  | rfl) | exact keeps_self | exact keeps_left | exact keeps_right | exact keeps_swap | apply keeps_mv)) trivial ?_)
          clear hl hh a w; intro vc Fc a w hR hl hh
          obtain ⟨rfl, rfl⟩ := hR
          try simp only [List.cons_append, List.nil_append] at hh
          refine d_step (fun h => absurd h (by decide)) ?_
          refine d_done (by kernel_rfl) ?_
          try clear hM
          have hl2 := hl.add (t := 0) (hl.add (t := 3) (hl.add (t := 6) (hl.add (t := 7) (hl.add (t := 8) (hl.add (t := 9) (hl.nil) rfl) rfl) rfl) rfl) rfl) rfl; clear hl; have hl := hl2; clear hl2
          refine then_normal ?_
          refine c_region ?_
          refine wl (wl_val hl rfl trivial (r_move hl rfl) ?_)
          clear hl a; intro a hl
          refine wl (wl_val hl rfl trivial (r_sliceA00 hl rfl arr93 (by first | trivial | omega | (refine ⟨?_, ?_, ?_⟩ <;> omega) | (refine ⟨?_, ?_⟩ <;> omega))) ?_)
          clear hl a; intro a hl
          refine wl (w_append (news := (arrL 64 (bV (secQ ep sq dn kd dat s.1)))) hl hh rfl trivial app29 rfl rfl rfl hrow (by repeat (first | exact keeps_nil | apply keeps_cons (by repeat (first | exact find_head | apply find_tail)) (by first  | rfl) | exact keeps_self | exact keeps_left | exact keeps_right | exact keeps_swap | apply keeps_mv)) (hh.mem _ _ (Find.mem (by repeat (first | exact find_head | apply find_tail)))) (arr_whole _ _) (by rw [arrL_length]) (bV_one _ _) (by omega) (by omega) (by omega) (by decide) ?_)
          clear hl hh a w; intro rv2 E2 a w hR2 hl hh
          have hh3 := hh.comm; clear hh; have hh := hh3; clear hh3
          simp only [List.cons_append, List.nil_append] at hh
          refine wl (wl_val hl rfl trivial (r_assign hl rfl) ?_)
          clear hl a; intro a hl
          refine w_nil ?_
          have hl2 := hl.add (t := 0) (hl.add (t := 3) (hl.add (t := 6) (hl.add (t := 7) (hl.add (t := 8) (hl.nil) rfl) rfl) rfl) rfl) rfl; clear hl; have hl := hl2; clear hl2
          refine blk_normal ?_
          refine then_normal ?_
          refine c_region ?_
          refine wl (wl_val hl rfl trivial (r_move hl rfl) ?_)
          clear hl a; intro a hl
          first | refine wl (wl_val hl rfl trivial (r_add hl rfl rfl (by simp only [Fits]; omega)) ?_) | refine wl (wl_val hl rfl trivial (r_addW hl rfl rfl) ?_)
          clear hl a; intro a hl
          refine wl (wl_val hl rfl trivial (r_assign hl rfl) ?_)
          clear hl a; intro a hl
          refine w_nil ?_
          have hl2 := hl.add (t := 0) (hl.add (t := 3) (hl.add (t := 6) (hl.add (t := 7) (hl.add (t := 8) (hl.nil) rfl) rfl) rfl) rfl) rfl; clear hl; have hl := hl2; clear hl2
          refine then_normal ?_
          refine ⟨(s.1 + 1, rv2, E2, .slice p6 0 dcap), (by show secN dn - (s.1 + 1) < secN dn - s.1; omega), ⟨by show s.1 + 1 ≤ secN dn; omega, by show Row rv2 ((s.1 + 1) * 64) (encC (secQ ep sq dn kd dat) (s.1 + 1)) 1 5 E2; rw [encC_succ, show (s.1 + 1) * 64 = s.1 * 64 + 64 by omega]; exact hR2, ⟨p6, rfl⟩⟩, hl.addE (t := 7) (hl.addE (t := 0) (hl.addE (t := 6) (hl.addE (t := 3) (hl.addE (t := 8) (hl.nil) rfl (by first | rfl | rfl)) rfl (by first | rfl | rfl)) rfl (by first | rfl | rfl)) rfl (by first | rfl | rfl)) rfl (by first | rfl | rfl), hh.keep (by repeat (first | exact keeps_nil | apply keeps_cons (by repeat (first | exact find_head | apply find_tail)) (by first  | rfl) | exact keeps_self | exact keeps_left | exact keeps_right | exact keeps_swap | apply keeps_mv))⟩
        · intro hc2
          try simp only [decide_eq_true_eq, decide_eq_false_iff_not, Bool.not_eq_true', Bool.not_eq_false', Bool.not_eq_true, Bool.not_eq_false, Bool.and_eq_true, Bool.or_eq_true, Bool.and_eq_false_iff, Bool.or_eq_false_iff, Bool.not_not, ne_eq, Int.not_lt, Int.not_le, Decidable.not_not, beq_iff_eq, bne_iff_ne] at hc2
          have hse : s.1 = secN dn := by omega
          rw [hse] at hrow
          refine wp_exit ?_
          refine then_exit ?_
          refine then_exit ?_
          refine blk_exit ?_
          refine then_normal ?_
          refine c_seq ?_
          refine c_region ?_
          refine wl (wl_val hl rfl trivial (r_move hl rfl) ?_)
          clear hl a; intro a hl
          refine wl (wl_val hl rfl trivial (r_assign hl rfl) ?_)
          clear hl a; intro a hl
          refine wl (wl_val hl rfl trivial (r_assign hl rfl) ?_)
          clear hl a; intro a hl
          refine w_nil ?_
          have hl2 := hl.add (t := 4) (hl.add (t := 5) (hl.nil) rfl) rfl; clear hl; have hl := hl2; clear hl2
          refine then_normal ?_
          refine wp_ret ?_
          refine f_ret2 (F' := s.2.2.1) hl hh rfl rfl rfl (by repeat (first | exact keeps_nil | apply keeps_cons (by repeat (first | exact find_head | apply find_tail)) (by first  | rfl) | exact keeps_self | exact keeps_left | exact keeps_right | exact keeps_swap | apply keeps_mv)) ?_
          exact ⟨s.2.1, s.2.2.1, hrow, rfl, rfl⟩
    · intro hg1; clear hl; intro hl
      try simp only [decide_eq_true_eq, decide_eq_false_iff_not, Bool.not_eq_true', Bool.not_eq_false', Bool.not_eq_true, Bool.not_eq_false, Bool.and_eq_true, Bool.or_eq_true, Bool.and_eq_false_iff, Bool.or_eq_false_iff, Bool.not_not, ne_eq, Int.not_lt, Int.not_le, Decidable.not_not, beq_iff_eq, bne_iff_ne] at hg1
      refine wl (wl_skip hl rfl ⟨_, _, rfl, rfl, rfl⟩ ?_)
      clear hl a; intro a hl
      refine wl (wl_skip hl rfl ⟨_, _, rfl, rfl, rfl⟩ ?_)
      clear hl a; intro a hl
      refine wl (wl_skip hl rfl ⟨_, _, rfl, rfl, rfl⟩ ?_)
      clear hl a; intro a hl
      refine wl (wl_val hl rfl trivial (r_pickF hl rfl rfl) ?_)
      clear hl a; intro a hl
      refine w_nil ?_
      have hl2 := hl.add (t := 0) (hl.add (t := 3) (hl.add (t := 23) (hl.nil) rfl) rfl) rfl; clear hl; have hl := hl2; clear hl2
      refine then_normal ?_
      refine c_condF hl rfl ?_
      refine wp_skip ?_
      refine then_normal ?_
      refine c_seq ?_
      refine c_region ?_
      refine wl (wl_val hl rfl trivial (r_field hl rfl fld60_3) ?_)
      clear hl a; intro a hl
      refine wl (w_load hl hh rfl trivial one29 rfl (by repeat (first | exact find_head | apply find_tail)) (by first | rfl) ?_)
      clear hl a; intro a hl
      refine wl (wl_val hl rfl trivial (r_assign hl rfl) ?_)
      clear hl a; intro a hl
      refine w_nil ?_
      have hl2 := hl.add (t := 0) (hl.add (t := 3) (hl.add (t := 6) (hl.nil) rfl) rfl) rfl; clear hl; have hl := hl2; clear hl2
      refine then_normal ?_
      refine c_seq ?_
      refine c_seq ?_
      refine c_region ?_
      refine wl (wl_val hl rfl trivial (r_field hl rfl fld60_3) ?_)
      clear hl a; intro a hl
      refine wl (w_load hl hh rfl trivial one29 rfl (by repeat (first | exact find_head | apply find_tail)) (by first | rfl) ?_)
      clear hl a; intro a hl
      refine wl (wl_val hl rfl trivial (r_lenS hl rfl slc29) ?_)
      clear hl a; intro a hl
      refine wl (w_call hl hh rfl trivial rfl cal52 rfl (sectors_spec dn (by omega)) (by repeat (first | exact keeps_nil | apply keeps_cons (by repeat (first | exact find_head | apply find_tail)) (by first  | rfl) | exact keeps_self | exact keeps_left | exact keeps_right | exact keeps_swap | apply keeps_mv)) trivial ?_)
      clear hl hh a w; intro vc Fc a w hR hl hh
      obtain ⟨rfl, rfl⟩ := hR
      try simp only [List.cons_append, List.nil_append] at hh
      refine wl (wl_val hl rfl trivial (r_assign hl rfl) ?_)
      clear hl a; intro a hl
      refine wl (wl_val hl rfl trivial (r_assign hl rfl) ?_)
      clear hl a; intro a hl
      refine w_nil ?_
      have hl2 := hl.add (t := 0) (hl.add (t := 3) (hl.add (t := 6) (hl.add (t := 7) (hl.add (t := 8) (hl.nil) rfl) rfl) rfl) rfl) rfl; clear hl; have hl := hl2; clear hl2
      refine then_normal ?_
      refine wp_block ?_
      obtain ⟨KS0, hKS0, hk⟩ := (hl.add (t := 3) (hl.add (t := 8) (hl.nil) rfl) rfl).name
      obtain ⟨HS0, hHS0, hh2⟩ := hh.nameT (A := [(k3, C [.int .u32 (ep : Int), .int .u64 (sq : Int), .int .u8 (kd : Int), .slice p0 dn dcap] 60)]) (U := []) (keeps_cons (b := k3) (by repeat (first | exact find_head | apply find_tail)) (by first | rfl) ((by repeat (first | exact keeps_nil | exact keeps_self | exact keeps_swap | apply keeps_mv))))
      refine c_loop (α := Nat × Value × List (Nat × Obj) × Value) (fun s => secN dn - s.1) (fun s a w => (s.1 ≤ secN dn ∧ Row s.2.1 (s.1 * 64) (encC (secQ ep sq dn kd dat) s.1) 1 5 s.2.2.1 ∧ (∃ pp, s.2.2.2 = .slice pp 0 dcap)) ∧ Sl 71 ([(7, .int .i64 (s.1 : Int)), (0, s.2.1), (6, s.2.2.2)] ++ KS0) a ∧ Has _ w0 ([(k3, C [.int .u32 (ep : Int), .int .u64 (sq : Int), .int .u8 (kd : Int), .slice p0 dn dcap] 60)] ++ (HS0 ++ s.2.2.1)) w) (0, .slice none 0 0, [], .slice p0 dn dcap) ⟨⟨Nat.zero_le _, Row.nil _ _, ⟨p0, by show Value.slice p0 dn dcap = _; rw [h0]⟩⟩, hl.addE (t := 7) (hl.addE (t := 0) (hl.addE (t := 6) (hk) rfl (by first | rfl)) rfl (by first | rfl)) rfl (by first | rfl), (by first | exact hh2 | (simp only [List.append_nil]; simp only [List.append_nil] at hh2; exact hh2) | (simp only [List.append_nil]; exact hh2))⟩ ?_
      clear hk hh2 hl hh a w
      intro s a w hI
      obtain ⟨⟨hs, hrow, hrest⟩, hl, hh⟩ := hI
      subst hKS0; subst hHS0
      simp only [List.cons_append, List.nil_append, List.append_nil] at hl hh
      have hone : s.2.1.oneCell' = true := hrow.one
      refine c_seq ?_
      refine c_seq ?_
      refine c_region ?_
      refine wl (wl_val hl rfl trivial (r_move hl rfl) ?_)
      clear hl a; intro a hl
      refine wl (wl_val hl rfl trivial (r_move hl rfl) ?_)
      clear hl a; intro a hl
      refine wl (wl_val hl rfl trivial (r_lss hl rfl rfl) ?_)
      clear hl a; intro a hl
      refine w_nil ?_
      have hl2 := hl.add (t := 0) (hl.add (t := 3) (hl.add (t := 6) (hl.add (t := 7) (hl.add (t := 8) (hl.add (t := 34) (hl.nil) rfl) rfl) rfl) rfl) rfl) rfl; clear hl; have hl := hl2; clear hl2
      refine then_normal ?_
      refine c_cond hl rfl ?_ ?_
      · intro hc2
        try simp only [decide_eq_true_eq, decide_eq_false_iff_not, Bool.not_eq_true', Bool.not_eq_false', Bool.not_eq_true, Bool.not_eq_false, Bool.and_eq_true, Bool.or_eq_true, Bool.and_eq_false_iff, Bool.or_eq_false_iff, Bool.not_not, ne_eq, Int.not_lt, Int.not_le, Decidable.not_not, beq_iff_eq, bne_iff_ne] at hc2
        obtain ⟨pp, hrs⟩ := hrest
        rw [hrs] at hl
        have hs0 : secN dn = 1 := by rw [h0]; rfl
        refine wp_skip ?_
        refine then_normal ?_
        refine c_seq ?_
        refine wp_block ?_
        refine c_seq ?_
        refine c_region ?_
        refine wl (w_alloc hl hh rfl trivial zero93 rfl ?_)
        clear hl hh a w; intro k9 a w hl hh
        refine w_nil ?_
        have hl2 := hl.add (t := 0) (hl.add (t := 3) (hl.add (t := 6) (hl.add (t := 7) (hl.add (t := 8) (hl.add (t := 9) (hl.nil) rfl) rfl) rfl) rfl) rfl) rfl; clear hl; have hl := hl2; clear hl2
        refine then_normal ?_
        refine c_seq ?_
        refine c_draw [(k3, C [.int .u32 (ep : Int), .int .u64 (sq : Int), .int .u8 (kd : Int), .slice p0 dn dcap] 60)] [3] mixed hh ?_
        clear hh w; intro w hh
        have hM : Mem [(k3, C [.int .u32 (ep : Int), .int .u64 (sq : Int), .int .u8 (kd : Int), .slice p0 dn dcap] 60)] w := (by repeat (first | exact Mem.nil | refine Mem.cons hh.mem (by repeat (first | exact find_head | apply find_tail)) ?_ | refine Mem.consR hh (by assumption) (by simp) ?_))
        refine d_take (i := 0) hl rfl (by kernel_rfl) (by kernel_rfl) (by kernel_rfl) (by kernel_rfl) (by kernel_rfl) rfl trivial (fun _ _ _ h => h) hM (fun w hC => r_sliceA10 hl rfl rfl arr93 (by first | trivial | omega | (refine ⟨?_, ?_, ?_⟩ <;> omega) | (refine ⟨?_, ?_⟩ <;> omega)) (by first | (simp only [Int.reduceToNat]; rfl) | exact toNat_add1 _ | exact toNat_add2 _ _ | exact toNat_emod _ _ | exact Int.toNat_natCast _ | rfl)) rfl ?_
        clear hl a; intro a hl
        refine d_take (i := 1) hl rfl (by kernel_rfl) (by kernel_rfl) (by kernel_rfl) (by kernel_rfl) (by kernel_rfl) rfl trivial (fun _ _ _ h => h) hM (fun w hC => r_field hl rfl fld60_0) rfl ?_
        clear hl a; intro a hl
        refine d_take (i := 2) hl rfl (by kernel_rfl) (by kernel_rfl) (by kernel_rfl) (by kernel_rfl) (by kernel_rfl) rfl trivial (fun _ _ _ h => h) hM (fun w hC => r_loadC hl rfl one56 hC (by repeat (first | exact find_head | apply find_tail)) (by first | rfl)) rfl ?_
        clear hl a; intro a hl
        refine d_one (i := 3) (by kernel_rfl) rfl ?_
        try clear hM
        refine id (w_call hl hh rfl trivial rfl cal57 rfl (putU32_spec k9 64 4 60 60 93 (fun _ => 0) ep (by omega) (by omega) (by omega) (by omega)) (by repeat (first | exact keeps_nil | apply keeps_cons (by repeat (first | exact find_head | apply find_tail)) (by first  | rfl) | exact keeps_self | exact keeps_left | exact keeps_right | exact keeps_swap | apply keeps_mv)) trivial ?_)
        clear hl hh a w; intro vc Fc a w hR hl hh
        obtain ⟨rfl, rfl⟩ := hR
        try simp only [List.cons_append, List.nil_append] at hh
        refine d_step (fun h => absurd h (by decide)) ?_
        refine d_done (by kernel_rfl) ?_
        try clear hM
        have hl2 := hl.add (t := 0) (hl.add (t := 3) (hl.add (t := 6) (hl.add (t := 7) (hl.add (t := 8) (hl.add (t := 9) (hl.nil) rfl) rfl) rfl) rfl) rfl) rfl; clear hl; have hl := hl2; clear hl2
        refine then_normal ?_
        refine c_seq ?_
        refine c_draw [(k3, C [.int .u32 (ep : Int), .int .u64 (sq : Int), .int .u8 (kd : Int), .slice p0 dn dcap] 60)] [3] mixed hh ?_
        clear hh w; intro w hh
        have hM : Mem [(k3, C [.int .u32 (ep : Int), .int .u64 (sq : Int), .int .u8 (kd : Int), .slice p0 dn dcap] 60)] w := (by repeat (first | exact Mem.nil | refine Mem.cons hh.mem (by repeat (first | exact find_head | apply find_tail)) ?_ | refine Mem.consR hh (by assumption) (by simp) ?_))
        refine d_take (i := 0) hl rfl (by kernel_rfl) (by kernel_rfl) (by kernel_rfl) (by kernel_rfl) (by kernel_rfl) rfl trivial (fun _ _ _ h => h) hM (fun w hC => r_sliceA10 hl rfl rfl arr93 (by first | trivial | omega | (refine ⟨?_, ?_, ?_⟩ <;> omega) | (refine ⟨?_, ?_⟩ <;> omega)) (by first | (simp only [Int.reduceToNat]; rfl) | exact toNat_add1 _ | exact toNat_add2 _ _ | exact toNat_emod _ _ | exact Int.toNat_natCast _ | rfl)) rfl ?_
        clear hl a; intro a hl
        refine d_take (i := 1) hl rfl (by kernel_rfl) (by kernel_rfl) (by kernel_rfl) (by kernel_rfl) (by kernel_rfl) rfl trivial (fun _ _ _ h => h) hM (fun w hC => r_field hl rfl fld60_1) rfl ?_
        clear hl a; intro a hl
        refine d_take (i := 2) hl rfl (by kernel_rfl) (by kernel_rfl) (by kernel_rfl) (by kernel_rfl) (by kernel_rfl) rfl trivial (fun _ _ _ h => h) hM (fun w hC => r_loadC hl rfl one30 hC (by repeat (first | exact find_head | apply find_tail)) (by first | rfl)) rfl ?_
        clear hl a; intro a hl
        refine d_one (i := 3) (by kernel_rfl) rfl ?_
        try clear hM
        refine id (w_call hl hh rfl trivial rfl cal56 rfl (putU64_spec k9 64 8 56 56 93 (putF (fun _ => 0) 4 4 ep) sq (by omega) (by omega) (by omega) (by omega)) (by repeat (first | exact keeps_nil | apply keeps_cons (by repeat (first | exact find_head | apply find_tail)) (by first  | rfl) | exact keeps_self | exact keeps_left | exact keeps_right | exact keeps_swap | apply keeps_mv)) trivial ?_)
        clear hl hh a w; intro vc Fc a w hR hl hh
        obtain ⟨rfl, rfl⟩ := hR
        try simp only [List.cons_append, List.nil_append] at hh
        refine d_step (fun h => absurd h (by decide)) ?_
        refine d_done (by kernel_rfl) ?_
        try clear hM
        have hl2 := hl.add (t := 0) (hl.add (t := 3) (hl.add (t := 6) (hl.add (t := 7) (hl.add (t := 8) (hl.add (t := 9) (hl.nil) rfl) rfl) rfl) rfl) rfl) rfl; clear hl; have hl := hl2; clear hl2
        refine then_normal ?_
        refine c_seq ?_
        refine c_region ?_
        refine wl (wl_val hl rfl trivial (r_sliceA10 hl rfl rfl arr93 (by first | trivial | omega | (refine ⟨?_, ?_, ?_⟩ <;> omega) | (refine ⟨?_, ?_⟩ <;> omega)) (by first | (simp only [Int.reduceToNat]; rfl) | exact toNat_add1 _ | exact toNat_add2 _ _ | exact toNat_emod _ _ | exact Int.toNat_natCast _ | rfl)) ?_)
        clear hl a; intro a hl
        refine wl (wl_val hl rfl trivial (r_move hl rfl) ?_)
        clear hl a; intro a hl
        first | refine wl (wl_val hl rfl trivial (r_conv hl rfl Tryd.underlying3 Tryd.underlying96 (by simp only [Fits]; omega)) ?_) | refine wl (wl_val hl rfl trivial (r_convW hl rfl Tryd.underlying3 Tryd.underlying96) ?_)
        clear hl a; intro a hl
        refine wl (w_call hl hh rfl trivial rfl cal58 rfl (putU16_spec k9 64 16 48 48 93 (putF (putF (fun _ => 0) 4 4 ep) 8 8 sq) s.1 (by omega) (by omega) (by omega) (by omega)) (by repeat (first | exact keeps_nil | apply keeps_cons (by repeat (first | exact find_head | apply find_tail)) (by first  | rfl) | exact keeps_self | exact keeps_left | exact keeps_right | exact keeps_swap | apply keeps_mv)) trivial ?_)
        clear hl hh a w; intro vc Fc a w hR hl hh
        obtain ⟨rfl, rfl⟩ := hR
        try simp only [List.cons_append, List.nil_append] at hh
        refine w_nil ?_
        have hl2 := hl.add (t := 0) (hl.add (t := 3) (hl.add (t := 6) (hl.add (t := 7) (hl.add (t := 8) (hl.add (t := 9) (hl.nil) rfl) rfl) rfl) rfl) rfl) rfl; clear hl; have hl := hl2; clear hl2
        refine then_normal ?_
        refine c_seq ?_
        refine c_draw [(k3, C [.int .u32 (ep : Int), .int .u64 (sq : Int), .int .u8 (kd : Int), .slice p0 dn dcap] 60)] [5] mixed hh ?_
        clear hh w; intro w hh
        have hM : Mem [(k3, C [.int .u32 (ep : Int), .int .u64 (sq : Int), .int .u8 (kd : Int), .slice p0 dn dcap] 60)] w := (by repeat (first | exact Mem.nil | refine Mem.cons hh.mem (by repeat (first | exact find_head | apply find_tail)) ?_ | refine Mem.consR hh (by assumption) (by simp) ?_))
        refine d_take (i := 0) hl rfl (by kernel_rfl) (by kernel_rfl) (by kernel_rfl) (by kernel_rfl) (by kernel_rfl) rfl trivial (fun _ _ _ h => h) hM (fun w hC => r_sliceA10 hl rfl rfl arr93 (by first | trivial | omega | (refine ⟨?_, ?_, ?_⟩ <;> omega) | (refine ⟨?_, ?_⟩ <;> omega)) (by first | (simp only [Int.reduceToNat]; rfl) | exact toNat_add1 _ | exact toNat_add2 _ _ | exact toNat_emod _ _ | exact Int.toNat_natCast _ | rfl)) rfl ?_
        clear hl a; intro a hl
        refine d_take (i := 1) hl rfl (by kernel_rfl) (by kernel_rfl) (by kernel_rfl) (by kernel_rfl) (by kernel_rfl) rfl trivial (fun _ _ _ h => h) hM (fun w hC => r_field hl rfl fld60_3) rfl ?_
        clear hl a; intro a hl
        refine d_take (i := 2) hl rfl (by kernel_rfl) (by kernel_rfl) (by kernel_rfl) (by kernel_rfl) (by kernel_rfl) rfl trivial (fun _ _ _ h => h) hM (fun w hC => r_loadC hl rfl one29 hC (by repeat (first | exact find_head | apply find_tail)) (by first | rfl)) rfl ?_
        clear hl a; intro a hl
        refine d_take (i := 3) hl rfl (by kernel_rfl) (by kernel_rfl) (by kernel_rfl) (by kernel_rfl) (by kernel_rfl) rfl trivial (fun _ _ _ h => h) hM (fun w hC => r_lenS hl rfl slc29) rfl ?_
        clear hl a; intro a hl
        first | refine d_take (i := 4) hl rfl (by kernel_rfl) (by kernel_rfl) (by kernel_rfl) (by kernel_rfl) (by kernel_rfl) rfl trivial (fun _ _ _ h => h) hM (fun w hC => r_conv hl rfl Tryd.underlying3 Tryd.underlying56 (by simp only [Fits]; omega)) rfl ?_ | refine d_take (i := 4) hl rfl (by kernel_rfl) (by kernel_rfl) (by kernel_rfl) (by kernel_rfl) (by kernel_rfl) rfl trivial (fun _ _ _ h => h) hM (fun w hC => r_convW hl rfl Tryd.underlying3 Tryd.underlying56) rfl ?_
        clear hl a; intro a hl
        refine d_one (i := 5) (by kernel_rfl) rfl ?_
        try clear hM
        refine id (w_call hl hh rfl trivial rfl cal57 rfl (putU32_spec k9 64 18 46 46 93 (putF (putF (putF (fun _ => 0) 4 4 ep) 8 8 sq) 16 2 s.1) dn (by omega) (by omega) (by omega) (by omega)) (by repeat (first | exact keeps_nil | apply keeps_cons (by repeat (first | exact find_head | apply find_tail)) (by first  | rfl) | exact keeps_self | exact keeps_left | exact keeps_right | exact keeps_swap | apply keeps_mv)) trivial ?_)
        clear hl hh a w; intro vc Fc a w hR hl hh
        obtain ⟨rfl, rfl⟩ := hR
        try simp only [List.cons_append, List.nil_append] at hh
        refine d_step (fun h => absurd h (by decide)) ?_
        refine d_done (by kernel_rfl) ?_
        try clear hM
        have hl2 := hl.add (t := 0) (hl.add (t := 3) (hl.add (t := 6) (hl.add (t := 7) (hl.add (t := 8) (hl.add (t := 9) (hl.nil) rfl) rfl) rfl) rfl) rfl) rfl; clear hl; have hl := hl2; clear hl2
        refine then_normal ?_
        refine c_seq ?_
        refine c_region ?_
        refine wl (wl_val hl rfl trivial (r_field hl rfl fld60_2) ?_)
        clear hl a; intro a hl
        refine wl (w_load hl hh rfl trivial one58 rfl (by repeat (first | exact find_head | apply find_tail)) (by first | rfl) ?_)
        clear hl a; intro a hl
        refine wl (wl_val hl rfl trivial (r_indexA hl rfl rfl arr93 (by omega) (by omega) (by first | (simp only [Int.reduceToNat]; rfl) | exact toNat_add1 _ | exact toNat_add2 _ _ | exact toNat_emod _ _ | exact Int.toNat_natCast _ | rfl)) ?_)
        clear hl a; intro a hl
        refine wl (w_store hl hh trivial one5 rfl rfl (by repeat (first | exact find_head | apply find_tail)) (by rw [arrL_length]; omega) (by first | rfl | assumption | (apply Row.one; assumption)) (by exact st22 _ _) ?_)
        clear hh w; intro w hh
        refine w_nil ?_
        have hl2 := hl.add (t := 0) (hl.add (t := 3) (hl.add (t := 6) (hl.add (t := 7) (hl.add (t := 8) (hl.add (t := 9) (hl.nil) rfl) rfl) rfl) rfl) rfl) rfl; clear hl; have hl := hl2; clear hl2
        refine then_normal ?_
        refine c_seq ?_
        refine c_region ?_
        refine wl (wl_val hl rfl trivial (r_move hl rfl) ?_)
        clear hl a; intro a hl
        refine wl (wl_val hl rfl trivial (r_sliceA10 hl rfl rfl arr93 (by first | trivial | omega | (refine ⟨?_, ?_, ?_⟩ <;> omega) | (refine ⟨?_, ?_⟩ <;> omega)) (by first | (simp only [Int.reduceToNat]; rfl) | exact toNat_add1 _ | exact toNat_add2 _ _ | exact toNat_emod _ _ | exact Int.toNat_natCast _ | rfl)) ?_)
        clear hl a; intro a hl
        refine wl (wl_val hl rfl trivial (r_move hl rfl) ?_)
        clear hl a; intro a hl
        refine wl (wl_val hl rfl trivial (r_copy0 hl rfl rfl slc29) ?_)
        clear hl a; intro a hl
        rw [g6_zero ep sq dn kd dat s.1 h0] at hh
        obtain ⟨p6, hp6⟩ := r_sliceS10z (P := Tryd.prog) (dst := some 62) (T := 29) (pos := "frame.go:71") hl (rfl : val _ (.tmp 58) = some (.slice _ 0 dcap)) (rfl : val _ (.tmp 61) = some (.int .i64 0)) slc29
        refine wl (wl_val hl rfl trivial hp6 ?_)
        clear hl hp6 a; intro a hl
        refine wl (wl_val hl rfl trivial (r_assign hl rfl) ?_)
        clear hl a; intro a hl
        refine w_nil ?_
        have hl2 := hl.add (t := 0) (hl.add (t := 3) (hl.add (t := 6) (hl.add (t := 7) (hl.add (t := 8) (hl.add (t := 9) (hl.nil) rfl) rfl) rfl) rfl) rfl) rfl; clear hl; have hl := hl2; clear hl2
        refine then_normal ?_
        refine c_seq ?_
        refine c_draw [] [3] mixed hh ?_
        clear hh w; intro w hh
        have hM : Mem [] w := Mem.nil
        refine d_take (i := 0) hl rfl (by kernel_rfl) (by kernel_rfl) (by kernel_rfl) (by kernel_rfl) (by kernel_rfl) rfl trivial (fun _ _ _ h => h) hM (fun w hC => r_sliceA10 hl rfl rfl arr93 (by first | trivial | omega | (refine ⟨?_, ?_, ?_⟩ <;> omega) | (refine ⟨?_, ?_⟩ <;> omega)) (by first | (simp only [Int.reduceToNat]; rfl) | exact toNat_add1 _ | exact toNat_add2 _ _ | exact toNat_emod _ _ | exact Int.toNat_natCast _ | rfl)) rfl ?_
        clear hl a; intro a hl
        refine d_take (i := 1) hl rfl (by kernel_rfl) (by kernel_rfl) (by kernel_rfl) (by kernel_rfl) (by kernel_rfl) rfl trivial (fun _ _ _ h => h) hM (fun w hC => r_sliceA10 hl rfl rfl arr93 (by first | trivial | omega | (refine ⟨?_, ?_, ?_⟩ <;> omega) | (refine ⟨?_, ?_⟩ <;> omega)) (by first | (simp only [Int.reduceToNat]; rfl) | exact toNat_add1 _ | exact toNat_add2 _ _ | exact toNat_emod _ _ | exact Int.toNat_natCast _ | rfl)) rfl ?_
        clear hl a; intro a hl
        refine d_one (i := 2) (by kernel_rfl) rfl ?_
        try clear hM
        refine id (w_call hl hh rfl trivial rfl cal59 rfl (crc_spec k9 4 60 60 (arrL 64 (bV (g6F ep sq dn kd dat s.1))) 93 (fun j => g6F ep sq dn kd dat s.1 (4 + j)) (fun j hj => ⟨by rw [Nat.mul_one, arrL_get (by omega)]; rfl, g6_rng ep sq dn kd dat s.1 (by omega) hdr (4 + j)⟩) (by omega)) (by repeat (first | exact keeps_nil | apply keeps_cons (by repeat (first | exact find_head | apply find_tail)) (by first  | rfl) | exact keeps_self | exact keeps_left | exact keeps_right | exact keeps_swap | apply keeps_mv)) trivial ?_)
        clear hl hh a w; intro vc Fc a w hR hl hh
        obtain ⟨rfl, rfl⟩ := hR
        try simp only [List.cons_append, List.nil_append] at hh
        rw [(crF_eq ep sq dn kd dat s.1).1] at hl
        have hM : Mem [] w := Mem.nil
        refine d_step (fun _ => hM) ?_
        refine d_one (i := 3) (by kernel_rfl) rfl ?_
        try clear hM
        refine id (w_call hl hh rfl trivial rfl cal57 rfl (putU32_spec k9 64 0 64 64 93 (g6F ep sq dn kd dat s.1) (crF ep sq dn kd dat s.1) (by omega) (by omega) (by omega) (by omega)) (by repeat (first | exact keeps_nil | apply keeps_cons (by repeat (first | exact find_head | apply find_tail)) (by first  | rfl) | exact keeps_self | exact keeps_left | exact keeps_right | exact keeps_swap | apply keeps_mv)) trivial ?_)
        clear hl hh a w; intro vc Fc a w hR hl hh
        obtain ⟨rfl, rfl⟩ := hR
        try simp only [List.cons_append, List.nil_append] at hh
        refine d_step (fun h => absurd h (by decide)) ?_
        refine d_done (by kernel_rfl) ?_
        try clear hM
        have hl2 := hl.add (t := 0) (hl.add (t := 3) (hl.add (t := 6) (hl.add (t := 7) (hl.add (t := 8) (hl.add (t := 9) (hl.nil) rfl) rfl) rfl) rfl) rfl) rfl; clear hl; have hl := hl2; clear hl2
        refine then_normal ?_
        refine c_region ?_
        refine wl (wl_val hl rfl trivial (r_move hl rfl) ?_)
        clear hl a; intro a hl
        refine wl (wl_val hl rfl trivial (r_sliceA00 hl rfl arr93 (by first | trivial | omega | (refine ⟨?_, ?_, ?_⟩ <;> omega) | (refine ⟨?_, ?_⟩ <;> omega))) ?_)
        clear hl a; intro a hl
        refine wl (w_append (news := (arrL 64 (bV (secQ ep sq dn kd dat s.1)))) hl hh rfl trivial app29 rfl rfl rfl hrow (by repeat (first | exact keeps_nil | apply keeps_cons (by repeat (first | exact find_head | apply find_tail)) (by first  | rfl) | exact keeps_self | exact keeps_left | exact keeps_right | exact keeps_swap | apply keeps_mv)) (hh.mem _ _ (Find.mem (by repeat (first | exact find_head | apply find_tail)))) (arr_whole _ _) (by rw [arrL_length]) (bV_one _ _) (by omega) (by omega) (by omega) (by decide) ?_)
        clear hl hh a w; intro rv2 E2 a w hR2 hl hh
        have hh3 := hh.comm; clear hh; have hh := hh3; clear hh3
        simp only [List.cons_append, List.nil_append] at hh
        refine wl (wl_val hl rfl trivial (r_assign hl rfl) ?_)
        clear hl a; intro a hl
        refine w_nil ?_
        have hl2 := hl.add (t := 0) (hl.add (t := 3) (hl.add (t := 6) (hl.add (t := 7) (hl.add (t := 8) (hl.nil) rfl) rfl) rfl) rfl) rfl; clear hl; have hl := hl2; clear hl2
        refine blk_normal ?_
        refine then_normal ?_
        refine c_region ?_
        refine wl (wl_val hl rfl trivial (r_move hl rfl) ?_)
        clear hl a; intro a hl
        first | refine wl (wl_val hl rfl trivial (r_add hl rfl rfl (by simp only [Fits]; omega)) ?_) | refine wl (wl_val hl rfl trivial (r_addW hl rfl rfl) ?_)
        clear hl a; intro a hl
        refine wl (wl_val hl rfl trivial (r_assign hl rfl) ?_)
        clear hl a; intro a hl
        refine w_nil ?_
        have hl2 := hl.add (t := 0) (hl.add (t := 3) (hl.add (t := 6) (hl.add (t := 7) (hl.add (t := 8) (hl.nil) rfl) rfl) rfl) rfl) rfl; clear hl; have hl := hl2; clear hl2
        refine then_normal ?_
        refine ⟨(s.1 + 1, rv2, E2, .slice p6 0 dcap), (by show secN dn - (s.1 + 1) < secN dn - s.1; omega), ⟨by show s.1 + 1 ≤ secN dn; omega, by show Row rv2 ((s.1 + 1) * 64) (encC (secQ ep sq dn kd dat) (s.1 + 1)) 1 5 E2; rw [encC_succ, show (s.1 + 1) * 64 = s.1 * 64 + 64 by omega]; exact hR2, ⟨p6, rfl⟩⟩, hl.addE (t := 7) (hl.addE (t := 0) (hl.addE (t := 6) (hl.addE (t := 3) (hl.addE (t := 8) (hl.nil) rfl (by first | rfl | rfl)) rfl (by first | rfl | rfl)) rfl (by first | rfl | rfl)) rfl (by first | rfl | rfl)) rfl (by first | rfl | rfl), hh.keep (by repeat (first | exact keeps_nil | apply keeps_cons (by repeat (first | exact find_head | apply find_tail)) (by first  | rfl) | exact keeps_self | exact keeps_left | exact keeps_right | exact keeps_swap | apply keeps_mv))⟩
      · intro hc2
        try simp only [decide_eq_true_eq, decide_eq_false_iff_not, Bool.not_eq_true', Bool.not_eq_false', Bool.not_eq_true, Bool.not_eq_false, Bool.and_eq_true, Bool.or_eq_true, Bool.and_eq_false_iff, Bool.or_eq_false_iff, Bool.not_not, ne_eq, Int.not_lt, Int.not_le, Decidable.not_not, beq_iff_eq, bne_iff_ne] at hc2
        have hse : s.1 = secN dn := by omega
        rw [hse] at hrow
        refine wp_exit ?_
        refine then_exit ?_
        refine then_exit ?_
        refine blk_exit ?_
        refine then_normal ?_
        refine c_seq ?_
        refine c_region ?_
        refine wl (wl_val hl rfl trivial (r_move hl rfl) ?_)
        clear hl a; intro a hl
        refine wl (wl_val hl rfl trivial (r_assign hl rfl) ?_)
        clear hl a; intro a hl
        refine wl (wl_val hl rfl trivial (r_assign hl rfl) ?_)
        clear hl a; intro a hl
        refine w_nil ?_
        have hl2 := hl.add (t := 4) (hl.add (t := 5) (hl.nil) rfl) rfl; clear hl; have hl := hl2; clear hl2
        refine then_normal ?_
        refine wp_ret ?_
        refine f_ret2 (F' := s.2.2.1) hl hh rfl rfl rfl (by repeat (first | exact keeps_nil | apply keeps_cons (by repeat (first | exact find_head | apply find_tail)) (by first  | rfl) | exact keeps_self | exact keeps_left | exact keeps_right | exact keeps_swap | apply keeps_mv)) ?_
        exact ⟨s.2.1, s.2.2.1, hrow, rfl, rfl⟩
end Go.Proofs.Qxb6500909aDoor

import Derived.Test.Qxb6500908aGreatW25
import Derived.Test.Qxb6500908aGreatIfp
import Derived.Test.Qxb6500908aGreatUmd
namespace Go.Proofs.Qxb6500908aGreat
open Go.Eng
set_option linter.unusedVariables false
set_option linter.unusedSimpArgs false
theorem slc53 : slcOk Tryz.prog 53 8 = true := by kernel_rfl
/-! ## the network -/
def oddP (x : Int) : Bool := !decide (x.tmod 2 = 0)
def modP (x n : Int) : Int := (x.tmod n + n).tmod n
theorem modP_b {x n : Int} (h : 0 < n) : 0 ≤ modP x n ∧ modP x n < n := by
  unfold modP
  have h1 := Int.tmod_lt_of_pos x h
  have h2 : -n < x.tmod n := by have := Int.lt_tmod_of_pos x h; omega
  have h3 : 0 ≤ x.tmod n + n := by omega
  exact ⟨Int.tmod_nonneg _ h3, Int.tmod_lt_of_pos _ h⟩
def postP (bag ms : List Ms) : List Ms := (bag ++ ms).drop ((bag ++ ms).length - 160)
theorem postP_len (bag ms : List Ms) : (postP bag ms).length ≤ 160 := by unfold postP; rw [List.length_drop]; omega
theorem postP_mem {bag ms : List Ms} {m : Ms} (h : m ∈ postP bag ms) : m ∈ bag ∨ m ∈ ms := List.mem_append.1 (List.mem_of_mem_drop h)
def wst (l : List Value) (i : Nat) (v : Value) : List Value := setL l i [v]
theorem wst1 (l : List Value) (i : Nat) (v : Value) : setL l i [v] = wst l i v := rfl
theorem wst2 {l : List Value} {i : Nat} {u v : Value} (h : i < l.length) : setL (wst l i u) i [v] = wst l i v := by
  unfold wst
  rw [setL_set h, setL_set (by rw [List.length_set]; exact h), setL_set h, List.set_set]
theorem wst_len {l : List Value} {i : Nat} {v : Value} (h : i < l.length) : (wst l i v).length = l.length := setL_len1 h
def ROWB (p : Option Addr) (ms : List Ms) (c : Nat) (E : List (Nat × Obj)) : Prop := Row (.slice p ms.length c) ms.length (fl msc ms) 8 38 E
theorem ROWB.nil : ROWB none [] 0 [] := Row.nil _ _
theorem set_at9 {l : List Value} {i : Nat} {v u : Value} (h : l[i]? = some u) : (wst l i v)[i]? = some v := by
  have h1 := (List.getElem?_eq_some_iff.1 h).1
  unfold wst
  rw [setL_set h1, List.getElem?_set_self h1]

attribute [local irreducible] wst

set_option maxHeartbeats 1000000 in
theorem odd_spec (x : Int) (hx : -9223372036854775808 ≤ x ∧ x ≤ 9223372036854775807) : Sp Tryz.prog 18 #[.int .i64 x] [] (fun v F' => v = .bool (oddP x) ∧ F' = []) := by
  refine f_enter (args := [.int .i64 x]) Tryz.func18 rfl Tryz.ntmps18 rfl ?_
  intro w0 w a hpre hl hh
  simp only [slotsFrom, Nat.reduceAdd] at hl
  refine c_seq ?_
  refine c_region ?_
  refine wl (wl_val hl rfl trivial (r_assign hl rfl) ?_)
  clear hl a; intro a hl
  refine w_nil ?_
  have hl2 := hl.add (t := 0) (hl.nil) rfl; clear hl; have hl := hl2; clear hl2
  refine then_normal ?_
  refine c_seq ?_
  refine c_region ?_
  refine wl (wl_val hl rfl trivial (r_move hl rfl) ?_)
  clear hl a; intro a hl
  first | refine wl (wl_val hl rfl trivial (r_rem hl rfl rfl (by omega) (by omega)) ?_) | refine wl (wl_val hl rfl trivial (r_remT hl rfl rfl (by omega)) ?_)
  clear hl a; intro a hl
  refine wl (wl_val hl rfl trivial (r_neq hl rfl rfl) ?_)
  clear hl a; intro a hl
  refine wl (wl_val hl rfl trivial (r_assign hl rfl) ?_)
  clear hl a; intro a hl
  refine w_nil ?_
  have hl2 := hl.add (t := 2) (hl.nil) rfl; clear hl; have hl := hl2; clear hl2
  refine then_normal ?_
  refine wp_ret ?_
  refine f_ret1 (F' := []) hl hh rfl rfl (by repeat (first | exact keeps_nil | apply keeps_cons (by repeat (first | exact find_head | apply find_tail)) (by first  | rfl) | exact keeps_self | apply keeps_mv)) ?_
  refine ⟨?_, rfl⟩
  unfold oddP
  by_cases e : x.tmod 2 = 0 <;> simp [e]

set_option maxHeartbeats 1000000 in
theorem mod_spec (x n : Int) (hx : -9223372036854775808 ≤ x ∧ x ≤ 9223372036854775807) (hn : 0 < n ∧ n ≤ 160) : Sp Tryz.prog 22 #[.int .i64 x, .int .i64 n] [] (fun v F' => v = .int .i64 (modP x n) ∧ F' = []) := by
  refine f_enter (args := [.int .i64 x, .int .i64 n]) Tryz.func22 rfl Tryz.ntmps22 rfl ?_
  intro w0 w a hpre hl hh
  have h1 := Int.tmod_lt_of_pos x hn.1
  have h2 := Int.lt_tmod_of_pos x hn.1
  simp only [slotsFrom, Nat.reduceAdd] at hl
  refine c_seq ?_
  refine c_region ?_
  refine wl (wl_val hl rfl trivial (r_assign hl rfl) ?_)
  clear hl a; intro a hl
  refine w_nil ?_
  have hl2 := hl.add (t := 0) (hl.add (t := 1) (hl.nil) rfl) rfl; clear hl; have hl := hl2; clear hl2
  refine then_normal ?_
  refine c_seq ?_
  refine c_region ?_
  refine wl (wl_val hl rfl trivial (r_move hl rfl) ?_)
  clear hl a; intro a hl
  refine wl (wl_val hl rfl trivial (r_move hl rfl) ?_)
  clear hl a; intro a hl
  first | refine wl (wl_val hl rfl trivial (r_rem hl rfl rfl (by omega) (by omega)) ?_) | refine wl (wl_val hl rfl trivial (r_remT hl rfl rfl (by omega)) ?_)
  clear hl a; intro a hl
  refine wl (wl_val hl rfl trivial (r_move hl rfl) ?_)
  clear hl a; intro a hl
  first | refine wl (wl_val hl rfl trivial (r_add hl rfl rfl (by simp only [Fits]; omega)) ?_) | refine wl (wl_val hl rfl trivial (r_addW hl rfl rfl) ?_)
  clear hl a; intro a hl
  refine wl (wl_val hl rfl trivial (r_move hl rfl) ?_)
  clear hl a; intro a hl
  first | refine wl (wl_val hl rfl trivial (r_rem hl rfl rfl (by omega) (by omega)) ?_) | refine wl (wl_val hl rfl trivial (r_remT hl rfl rfl (by omega)) ?_)
  clear hl a; intro a hl
  refine wl (wl_val hl rfl trivial (r_assign hl rfl) ?_)
  clear hl a; intro a hl
  refine w_nil ?_
  have hl2 := hl.add (t := 4) (hl.nil) rfl; clear hl; have hl := hl2; clear hl2
  refine then_normal ?_
  refine wp_ret ?_
  refine f_ret1 (F' := []) hl hh rfl rfl (by repeat (first | exact keeps_nil | apply keeps_cons (by repeat (first | exact find_head | apply find_tail)) (by first  | rfl) | exact keeps_self | apply keeps_mv)) ?_
  refine ⟨?_, rfl⟩
  unfold modP
  rw [Int.tmod_eq_emod_of_nonneg (a := x.tmod n + n) (by omega)]

set_option maxHeartbeats 2000000 in
theorem take_spec (wb : Nat) (wc : List Value) (o9 : Nat) (ms : List Ms) (p : Option Addr) (cap : Nat) (E : List (Nat × Obj)) (hR : ROWB p ms cap E) (hc9 : wc[o9]? = some (.slice p ms.length cap)) (hml : ms.length ≤ 160) (i : Nat) (hi : i < ms.length) : Sp Tryz.prog 21 #[.pointer (some ⟨wb, o9, none⟩), .int .i64 (i : Int)] ((wb, C wc 55) :: E) (fun v F' => ∃ m p' c' E', ms[i]? = some m ∧ v = .agg ⟨msc m⟩ ∧ ROWB p' (delP ms i) c' E' ∧ F' = (wb, C (wst wc o9 (.slice p' (delP ms i).length c')) 55) :: E') := by
  refine f_enter (args := [.pointer (some ⟨wb, o9, none⟩), .int .i64 (i : Int)]) Tryz.func21 rfl Tryz.ntmps21 rfl ?_
  intro w0 w a hpre hl hh
  generalize hDD : List.map Prod.fst ((wb, C wc 55) :: E) = D at hh ⊢
  have hwl := (List.getElem?_eq_some_iff.1 hc9).1
  obtain ⟨m, hm9⟩ : ∃ m, ms[i]? = some m := ⟨_, List.getElem?_eq_getElem hi⟩
  obtain ⟨b9, j9, hq9, hjl9, hjc9, hE9⟩ := row_pos hR (by omega)
  subst hq9
  rw [hE9] at hh
  have hd1 := fl_at msc_len hm9 j9
  have h5 : ((fl msc ms ++ j9).drop 0).take (fl msc ms).length = fl msc ms := by rw [List.drop_zero, List.take_left]
  have hv1 := vw_take (Z := [(b9, C (fl msc ms ++ j9) 38)]) (size := 8) (o := 0) (m := ms.length) (c := cap) (i := i) (List.mem_singleton.2 rfl) h5 (fl_len msc_len ms) (by omega) hjc9
  have hv2 := vw_drop (Z := [(b9, C (fl msc ms ++ j9) 38)]) (size := 8) (o := 0) (m := ms.length) (c := cap) (i := i + 1) (List.mem_singleton.2 rfl) h5 (fl_len msc_len ms) (by omega) hjc9
  rw [fl_takeS msc_len _ _ (by omega)] at hv1
  rw [fl_dropS msc_len _ _ (by omega)] at hv2
  simp only [slotsFrom, Nat.reduceAdd] at hl
  refine c_seq ?_
  refine c_region ?_
  refine wl (w_alloc hl hh rfl trivial zero38 rfl ?_)
  clear hl hh a w; intro k4 a w hl hh
  refine w_nil ?_
  have hl2 := hl.add (t := 0) (hl.add (t := 1) (hl.add (t := 4) (hl.nil) rfl) rfl) rfl; clear hl; have hl := hl2; clear hl2
  refine then_normal ?_
  refine c_seq ?_
  refine c_region ?_
  refine wl (wl_val hl rfl trivial (r_move hl rfl) ?_)
  clear hl a; intro a hl
  refine wl (wl_val hl rfl trivial (r_nilCheck hl rfl) ?_)
  clear hl a; intro a hl
  refine wl (w_load hl hh rfl trivial one53 rfl (by repeat (first | exact find_head | apply find_tail | apply find_skip)) (by first | exact hc9 | rfl) ?_)
  clear hl a; intro a hl
  refine wl (wl_val hl rfl trivial (r_move hl rfl) ?_)
  clear hl a; intro a hl
  refine wl (wl_val hl rfl trivial (r_indexS hl rfl rfl slc53 (by omega) (by omega) (by first | (simp only [Int.reduceToNat]; rfl) | exact toNat_add1 _ | exact toNat_add2 _ _ | exact toNat_emod _ _ | exact Int.toNat_natCast _ | rfl)) ?_)
  clear hl a; intro a hl
  refine wl (w_loadA hl hh rfl trivial agg38 rfl (by repeat (first | exact find_head | apply find_tail | apply find_skip)) (by first | exact hd1 | rfl) (by rfl) ?_)
  clear hl a; intro a hl
  refine wl (w_alloc hl hh rfl trivial zero38 rfl ?_)
  clear hl hh a w; intro k5 a w hl hh
  refine wl (w_storeA hl hh trivial agg38 rfl rfl (by repeat (first | exact find_head | apply find_tail | apply find_skip)) (by rfl) (by exact Nat.le_refl 8) (by rfl) (by exact setL_all rfl) ?_)
  clear hh w; intro w hh
  refine w_nil ?_
  have hl2 := hl.add (t := 0) (hl.add (t := 1) (hl.add (t := 4) (hl.add (t := 5) (hl.nil) rfl) rfl) rfl) rfl; clear hl; have hl := hl2; clear hl2
  refine then_normal ?_
  refine c_seq ?_
  refine c_draw [(wb, C wc 55)] [14, 15] mixed hh ?_
  clear hh w; intro w hh
  have hM : Mem [(wb, C wc 55)] w := (memK hh (by repeat (first | exact keeps_nil | apply keeps_cons (by repeat (first | exact find_head | apply find_tail | apply find_skip)) (by first  | rfl) | exact keeps_self | exact keeps_left | apply keeps_app | apply keeps_mv | apply keeps_skip)))
  refine d_take (i := 0) hl rfl (by kernel_rfl) (by kernel_rfl) (by kernel_rfl) (by kernel_rfl) (by kernel_rfl) rfl trivial (fun _ _ _ h => h) hM (fun w hC => r_move hl rfl) rfl ?_
  clear hl a; intro a hl
  refine d_take (i := 1) hl rfl (by kernel_rfl) (by kernel_rfl) (by kernel_rfl) (by kernel_rfl) (by kernel_rfl) rfl trivial (fun _ _ _ h => h) hM (fun w hC => r_move hl rfl) rfl ?_
  clear hl a; intro a hl
  refine d_take (i := 2) hl rfl (by kernel_rfl) (by kernel_rfl) (by kernel_rfl) (by kernel_rfl) (by kernel_rfl) rfl trivial (fun _ _ _ h => h) hM (fun w hC => r_nilCheck hl rfl) rfl ?_
  clear hl a; intro a hl
  refine d_take (i := 3) hl rfl (by kernel_rfl) (by kernel_rfl) (by kernel_rfl) (by kernel_rfl) (by kernel_rfl) rfl trivial (fun _ _ _ h => h) hM (fun w hC => r_loadC hl rfl one53 hC (by repeat (first | exact find_head | apply find_tail | apply find_skip)) (by first | exact hc9 | rfl)) rfl ?_
  clear hl a; intro a hl
  refine d_take (i := 4) hl rfl (by kernel_rfl) (by kernel_rfl) (by kernel_rfl) (by kernel_rfl) (by kernel_rfl) rfl trivial (fun _ _ _ h => h) hM (fun w hC => r_move hl rfl) rfl ?_
  clear hl a; intro a hl
  refine d_take (i := 5) hl rfl (by kernel_rfl) (by kernel_rfl) (by kernel_rfl) (by kernel_rfl) (by kernel_rfl) rfl trivial (fun _ _ _ h => h) hM (fun w hC => r_sliceS01 (by intro q e; first | (cases e; rfl) | (cases e; done)) hl rfl rfl slc53 (by omega) (by first | (simp only [Int.reduceToNat]; rfl) | exact toNat_add1 _ | exact toNat_add2 _ _ | exact toNat_emod _ _ | exact Int.toNat_natCast _ | rfl)) rfl ?_
  clear hl a; intro a hl
  refine d_take (i := 7) hl rfl (by kernel_rfl) (by kernel_rfl) (by kernel_rfl) (by kernel_rfl) (by kernel_rfl) rfl trivial (fun _ _ _ h => h) hM (fun w hC => r_move hl rfl) rfl ?_
  clear hl a; intro a hl
  refine d_take (i := 8) hl rfl (by kernel_rfl) (by kernel_rfl) (by kernel_rfl) (by kernel_rfl) (by kernel_rfl) rfl trivial (fun _ _ _ h => h) hM (fun w hC => r_nilCheck hl rfl) rfl ?_
  clear hl a; intro a hl
  refine d_take (i := 9) hl rfl (by kernel_rfl) (by kernel_rfl) (by kernel_rfl) (by kernel_rfl) (by kernel_rfl) rfl trivial (fun _ _ _ h => h) hM (fun w hC => r_loadC hl rfl one53 hC (by repeat (first | exact find_head | apply find_tail | apply find_skip)) (by first | exact hc9 | rfl)) rfl ?_
  clear hl a; intro a hl
  refine d_take (i := 10) hl rfl (by kernel_rfl) (by kernel_rfl) (by kernel_rfl) (by kernel_rfl) (by kernel_rfl) rfl trivial (fun _ _ _ h => h) hM (fun w hC => r_move hl rfl) rfl ?_
  clear hl a; intro a hl
  first | refine d_take (i := 11) hl rfl (by kernel_rfl) (by kernel_rfl) (by kernel_rfl) (by kernel_rfl) (by kernel_rfl) rfl trivial (fun _ _ _ h => h) hM (fun w hC => r_add hl rfl rfl (by simp only [Fits]; omega)) rfl ?_ | refine d_take (i := 11) hl rfl (by kernel_rfl) (by kernel_rfl) (by kernel_rfl) (by kernel_rfl) (by kernel_rfl) rfl trivial (fun _ _ _ h => h) hM (fun w hC => r_addW hl rfl rfl) rfl ?_
  clear hl a; intro a hl
  refine d_take (i := 12) hl rfl (by kernel_rfl) (by kernel_rfl) (by kernel_rfl) (by kernel_rfl) (by kernel_rfl) rfl trivial (fun _ _ _ h => h) hM (fun w hC => r_sliceS10x hl rfl rfl slc53 (by omega) (by first | (simp only [Int.reduceToNat]; rfl) | exact toNat_add1 _ | exact toNat_add2 _ _ | exact toNat_emod _ _ | exact Int.toNat_natCast _ | rfl)) rfl ?_
  clear hl a; intro a hl
  refine d_one (i := 6) (by kernel_rfl) rfl ?_
  try clear hM
  refine id (w_appendV hl hh rfl trivial app53 rfl rfl rfl (Row.nil _ _) (by repeat (first | exact keeps_nil | apply keeps_cons (by repeat (first | exact find_head | apply find_tail | apply find_skip)) (by first  | rfl) | exact keeps_self | exact keeps_left | apply keeps_app | apply keeps_mv | apply keeps_skip)) hv1 (memK hh (by repeat (first | exact keeps_nil | apply keeps_cons (by repeat (first | exact find_head | apply find_tail | apply find_skip)) (by first  | rfl) | exact keeps_self | exact keeps_left | apply keeps_app | apply keeps_mv | apply keeps_skip))) (fl_all msc_one _) (by omega) (by omega) (by decide) ?_)
  clear hl hh a w; intro rv2 E2 a w hR2 hl hh
  have hh3 := hh.comm; clear hh; have hh := hh3; clear hh3
  try simp only [List.cons_append, List.nil_append, List.append_assoc, List.append_nil] at hh
  have hM : Mem [(wb, C wc 55)] w := (memK hh (by repeat (first | exact keeps_nil | apply keeps_cons (by repeat (first | exact find_head | apply find_tail | apply find_skip)) (by first  | rfl) | exact keeps_self | exact keeps_left | apply keeps_app | apply keeps_mv | apply keeps_skip)))
  refine d_step (fun _ => hM) ?_
  refine d_one (i := 13) (by kernel_rfl) rfl ?_
  try clear hM
  refine id (w_appendV hl hh rfl trivial app53 rfl rfl rfl hR2 (by repeat (first | exact keeps_nil | apply keeps_cons (by repeat (first | exact find_head | apply find_tail | apply find_skip)) (by first  | rfl) | exact keeps_self | exact keeps_left | apply keeps_app | apply keeps_mv | apply keeps_skip)) hv2 (memK hh (by repeat (first | exact keeps_nil | apply keeps_cons (by repeat (first | exact find_head | apply find_tail | apply find_skip)) (by first  | rfl) | exact keeps_self | exact keeps_left | apply keeps_app | apply keeps_mv | apply keeps_skip))) (fl_all msc_one _) (by omega) (by omega) (by decide) ?_)
  clear hl hh a w; intro rv3 E3 a w hR3 hl hh
  have hh3 := hh.comm; clear hh; have hh := hh3; clear hh3
  try simp only [List.cons_append, List.nil_append, List.append_assoc, List.append_nil] at hh
  obtain ⟨p6, c6, hv6⟩ := row_val hR3
  rw [hv6] at hl hR3
  rw [List.nil_append, ← fl_app, show ms.take i ++ ms.drop (i + 1) = delP ms i from rfl, show 0 + i + (ms.length - (i + 1)) = (delP ms i).length by rw [delP_len hi]; omega] at hR3
  rw [show 0 + i + (ms.length - (i + 1)) = (delP ms i).length by rw [delP_len hi]; omega] at hl
  have hM : Mem [(wb, C wc 55)] w := (memK hh (by repeat (first | exact keeps_nil | apply keeps_cons (by repeat (first | exact find_head | apply find_tail | apply find_skip)) (by first  | rfl) | exact keeps_self | exact keeps_left | apply keeps_app | apply keeps_mv | apply keeps_skip)))
  refine d_step (fun _ => hM) ?_
  refine d_takeL (i := 14) hl rfl (by kernel_rfl) (by kernel_rfl) (by kernel_rfl) (by kernel_rfl) (by kernel_rfl) rfl trivial (fun _ _ _ h => h) (fun w => r_nilCheck hl rfl) rfl ?_
  clear hl a; intro a hl
  refine d_one (i := 15) (by kernel_rfl) rfl ?_
  try clear hM
  refine id (w_store hl hh trivial one53 rfl rfl (by repeat (first | exact find_head | apply find_tail | apply find_skip)) (by first | (simp; done) | (simp; omega) | omega | (simp only [List.length_cons, List.length_nil]; omega)) (by first | rfl | assumption | (apply Row.one; assumption)) (by first | exact wst1 _ _ _ | (simp only [setL, List.getElem?_cons_zero, List.getElem?_cons_succ, Value.cells, List.take_zero, List.take_succ_cons, List.take_nil, List.drop_zero, List.drop_succ_cons, List.drop_nil, List.length_cons, List.length_nil, List.cons_append, List.nil_append, List.append_nil, Nat.zero_add, Nat.add_zero, Nat.reduceAdd, Nat.reduceBEq, Nat.reduceEqDiff, Nat.ble, BEq.rfl, Bool.and_true, Bool.and_self, cond_true, beq_self_eq_true]; rfl)) ?_)
  clear hh w; intro w hh
  refine d_step (fun h => absurd h (by decide)) ?_
  refine d_done (by kernel_rfl) ?_
  try clear hM
  have hl2 := hl.add (t := 4) (hl.add (t := 5) (hl.nil) rfl) rfl; clear hl; have hl := hl2; clear hl2
  refine then_normal ?_
  refine c_seq ?_
  refine c_region ?_
  refine wl (w_loadA hl hh rfl trivial agg38 rfl (by repeat (first | exact find_head | apply find_tail | apply find_skip)) (by first | exact hd1 | rfl) (by rfl) ?_)
  clear hl a; intro a hl
  refine wl (w_storeA hl hh trivial agg38 rfl rfl (by repeat (first | exact find_head | apply find_tail | apply find_skip)) (by rfl) (by exact Nat.le_refl 8) (by rfl) (by exact setL_all rfl) ?_)
  clear hh w; intro w hh
  refine w_nil ?_
  have hl2 := hl.add (t := 4) (hl.nil) rfl; clear hl; have hl := hl2; clear hl2
  refine then_normal ?_
  refine wp_ret ?_
  refine f_retC (F' := (wb, C (wst wc o9 (.slice p6 (delP ms i).length c6)) 55) :: E3) hl hh rfl rfl agg38 (by repeat (first | exact find_head | apply find_tail | apply find_skip)) (by first | rfl | exact arrL_length _ _ | (simp; done)) (by repeat (first | exact keeps_nil | apply keeps_cons (by repeat (first | exact find_head | apply find_tail | apply find_skip)) (by first  | rfl) | exact keeps_self | exact keeps_left | apply keeps_app | apply keeps_mv | apply keeps_skip)) ?_
  exact ⟨m, p6, c6, E3, hm9, rfl, hR3, rfl⟩

set_option maxHeartbeats 2000000 in
theorem post_spec (wb : Nat) (wc : List Value) (o9 : Nat) (ms : List Ms) (p : Option Addr) (cap : Nat) (E : List (Nat × Obj)) (hR : ROWB p ms cap E) (hc9 : wc[o9]? = some (.slice p ms.length cap)) (hml : ms.length ≤ 160) (ns : List Ms) (q : Option Addr) (cq : Nat) (Eq : List (Nat × Obj)) (hQ : ROWB q ns cq Eq) (hnl : ns.length ≤ 100) : Sp Tryz.prog 17 #[.pointer (some ⟨wb, o9, none⟩), .slice q ns.length cq] ((wb, C wc 55) :: (E ++ Eq)) (fun v F' => v = .tuple #[] ∧ ∃ p' c' E', ROWB p' (postP ms ns) c' E' ∧ F' = (wb, C (wst wc o9 (.slice p' (postP ms ns).length c')) 55) :: (E' ++ Eq)) := by
  refine f_enter (args := [.pointer (some ⟨wb, o9, none⟩), .slice q ns.length cq]) Tryz.func17 rfl Tryz.ntmps17 rfl ?_
  intro w0 w a hpre hl hh
  generalize hDD : List.map Prod.fst ((wb, C wc 55) :: (E ++ Eq)) = D at hh ⊢
  have hwl := (List.getElem?_eq_some_iff.1 hc9).1
  have hml2 : (ms ++ ns).length = ms.length + ns.length := List.length_append
  simp only [slotsFrom, Nat.reduceAdd] at hl
  refine c_seq ?_
  refine c_region ?_
  refine wl (wl_val hl rfl trivial (r_move hl rfl) ?_)
  clear hl a; intro a hl
  refine wl (wl_val hl rfl trivial (r_move hl rfl) ?_)
  clear hl a; intro a hl
  refine wl (wl_val hl rfl trivial (r_nilCheck hl rfl) ?_)
  clear hl a; intro a hl
  refine wl (w_load hl hh rfl trivial one53 rfl (by repeat (first | exact find_head | apply find_tail | apply find_skip)) (by first | exact hc9 | exact set_at9 hc9 | rfl) ?_)
  clear hl a; intro a hl
  refine wl (wl_val hl rfl trivial (r_move hl rfl) ?_)
  clear hl a; intro a hl
  refine wl (w_appendV hl hh rfl trivial app53 rfl rfl rfl hR (by repeat (first | exact keeps_nil | apply keeps_cons (by repeat (first | exact find_head | apply find_tail | apply find_skip)) (by first  | rfl) | exact keeps_self | exact keeps_left | apply keeps_app | apply keeps_mv | apply keeps_skip)) (VwZ.of hQ) (memK hh (by repeat (first | exact keeps_nil | apply keeps_cons (by repeat (first | exact find_head | apply find_tail | apply find_skip)) (by first  | rfl) | exact keeps_self | exact keeps_left | apply keeps_app | apply keeps_mv | apply keeps_skip))) (fl_all msc_one _) (by omega) (by omega) (by decide) ?_)
  clear hl hh a w; intro rv2 E2 a w hR2 hl hh
  have hh3 := hh.comm; clear hh; have hh := hh3; clear hh3
  try simp only [List.cons_append, List.nil_append, List.append_assoc, List.append_nil] at hh
  obtain ⟨p6, c6, hv6⟩ := row_val hR2
  rw [hv6] at hl hR2
  rw [← fl_app, ← hml2] at hR2
  rw [← hml2] at hl
  refine wl (wl_val hl rfl trivial (r_nilCheck hl rfl) ?_)
  clear hl a; intro a hl
  refine wl (w_store hl hh trivial one53 rfl rfl (by repeat (first | exact find_head | apply find_tail | apply find_skip)) (by first | (simp; done) | (simp; omega) | omega | (simp only [List.length_cons, List.length_nil]; omega) | (rw [wst_len hwl]; exact hwl) | (rw [wst_len hwl]; omega)) (by first | rfl | assumption | (apply Row.one; assumption)) (by first | exact wst2 hwl | exact wst1 _ _ _ | (simp only [setL, List.getElem?_cons_zero, List.getElem?_cons_succ, Value.cells, List.take_zero, List.take_succ_cons, List.take_nil, List.drop_zero, List.drop_succ_cons, List.drop_nil, List.length_cons, List.length_nil, List.cons_append, List.nil_append, List.append_nil, Nat.zero_add, Nat.add_zero, Nat.reduceAdd, Nat.reduceBEq, Nat.reduceEqDiff, Nat.ble, BEq.rfl, Bool.and_true, Bool.and_self, cond_true, beq_self_eq_true]; rfl)) ?_)
  clear hh w; intro w hh
  refine w_nil ?_
  have hl2 := hl.add (t := 0) (hl.nil) rfl; clear hl; have hl := hl2; clear hl2
  refine then_normal ?_
  refine c_seq ?_
  refine c_region ?_
  refine wl (wl_val hl rfl trivial (r_move hl rfl) ?_)
  clear hl a; intro a hl
  refine wl (wl_val hl rfl trivial (r_nilCheck hl rfl) ?_)
  clear hl a; intro a hl
  refine wl (w_load hl hh rfl trivial one53 rfl (by repeat (first | exact find_head | apply find_tail | apply find_skip)) (by first | exact hc9 | exact set_at9 hc9 | rfl) ?_)
  clear hl a; intro a hl
  refine wl (wl_val hl rfl trivial (r_lenS hl rfl slc53) ?_)
  clear hl a; intro a hl
  first | refine wl (wl_val hl rfl trivial (r_sub hl rfl rfl (by simp only [Fits]; omega)) ?_) | refine wl (wl_val hl rfl trivial (r_subW hl rfl rfl) ?_)
  clear hl a; intro a hl
  refine wl (wl_val hl rfl trivial (r_assign hl rfl) ?_)
  clear hl a; intro a hl
  refine w_nil ?_
  have hl2 := hl.add (t := 0) (hl.add (t := 4) (hl.nil) rfl) rfl; clear hl; have hl := hl2; clear hl2
  refine then_normal ?_
  refine c_seq ?_
  refine c_region ?_
  refine wl (wl_val hl rfl trivial (r_move hl rfl) ?_)
  clear hl a; intro a hl
  refine wl (wl_val hl rfl trivial (r_gtr hl rfl rfl) ?_)
  clear hl a; intro a hl
  refine w_nil ?_
  have hl2 := hl.add (t := 0) (hl.add (t := 4) (hl.add (t := 18) (hl.nil) rfl) rfl) rfl; clear hl; have hl := hl2; clear hl2
  refine then_normal ?_
  refine c_cond hl rfl ?_ ?_
  · intro hc0
    try simp only [decide_eq_true_eq, decide_eq_false_iff_not, Bool.not_eq_true', Bool.not_eq_false', Bool.not_eq_true, Bool.not_eq_false, Bool.and_eq_true, Bool.or_eq_true, Bool.and_eq_false_iff, Bool.or_eq_false_iff, Bool.not_not, ne_eq, Int.not_lt, Int.not_le, Decidable.not_not, beq_iff_eq, bne_iff_ne] at hc0
    obtain ⟨q9, hq9v⟩ : ∃ q9 : Nat, q9 = (ms ++ ns).length - 160 := ⟨_, rfl⟩
    obtain ⟨b9, j9, hpp, hjl9, hjc9, hE9⟩ := row_pos hR2 (by omega)
    subst hpp
    rw [hE9] at hh
    have h5 : ((fl msc (ms ++ ns) ++ j9).drop 0).take (fl msc (ms ++ ns)).length = fl msc (ms ++ ns) := by rw [List.drop_zero, List.take_left]
    have hv2 := vw_drop (Z := [(b9, C (fl msc (ms ++ ns) ++ j9) 38)]) (size := 8) (o := 0) (m := (ms ++ ns).length) (c := c6) (i := q9) (List.mem_singleton.2 rfl) h5 (fl_len msc_len _) (by omega) hjc9
    rw [fl_dropS msc_len _ _ (by omega)] at hv2
    have hq10 : ((ms ++ ns).length : Int) - 160 = (q9 : Int) := by omega
    rw [hq10] at hl
    refine c_region ?_
    refine wl (wl_val hl rfl trivial (r_move hl rfl) ?_)
    clear hl a; intro a hl
    refine wl (wl_val hl rfl trivial (r_move hl rfl) ?_)
    clear hl a; intro a hl
    refine wl (wl_val hl rfl trivial (r_nilCheck hl rfl) ?_)
    clear hl a; intro a hl
    refine wl (w_load hl hh rfl trivial one53 rfl (by repeat (first | exact find_head | apply find_tail | apply find_skip)) (by first | exact hc9 | exact set_at9 hc9 | rfl) ?_)
    clear hl a; intro a hl
    refine wl (wl_val hl rfl trivial (r_move hl rfl) ?_)
    clear hl a; intro a hl
    refine wl (wl_val hl rfl trivial (r_sliceS10x hl rfl rfl slc53 (by omega) (by first | (simp only [Int.reduceToNat]; rfl) | exact toNat_add1 _ | exact toNat_add2 _ _ | exact toNat_emod _ _ | exact Int.toNat_natCast _ | rfl)) ?_)
    clear hl a; intro a hl
    refine wl (w_appendV hl hh rfl trivial app53 rfl rfl rfl (Row.nil _ _) (by repeat (first | exact keeps_nil | apply keeps_cons (by repeat (first | exact find_head | apply find_tail | apply find_skip)) (by first  | rfl) | exact keeps_self | exact keeps_left | apply keeps_app | apply keeps_mv | apply keeps_skip)) hv2 (memK hh (by repeat (first | exact keeps_nil | apply keeps_cons (by repeat (first | exact find_head | apply find_tail | apply find_skip)) (by first  | rfl) | exact keeps_self | exact keeps_left | apply keeps_app | apply keeps_mv | apply keeps_skip))) (fl_all msc_one _) (by omega) (by omega) (by decide) ?_)
    clear hl hh a w; intro rv3 E3 a w hR3 hl hh
    have hh3 := hh.comm; clear hh; have hh := hh3; clear hh3
    try simp only [List.cons_append, List.nil_append, List.append_assoc, List.append_nil] at hh
    obtain ⟨p7, c7, hv7⟩ := row_val hR3
    rw [hv7] at hl hR3
    rw [List.nil_append, Nat.zero_add, show (ms ++ ns).drop q9 = postP ms ns by unfold postP; rw [hq9v], show (ms ++ ns).length - q9 = (postP ms ns).length by unfold postP; rw [List.length_drop, hq9v]] at hR3
    rw [Nat.zero_add, show (ms ++ ns).length - q9 = (postP ms ns).length by unfold postP; rw [List.length_drop, hq9v]] at hl
    refine wl (wl_val hl rfl trivial (r_nilCheck hl rfl) ?_)
    clear hl a; intro a hl
    refine wl (w_store hl hh trivial one53 rfl rfl (by repeat (first | exact find_head | apply find_tail | apply find_skip)) (by first | (simp; done) | (simp; omega) | omega | (simp only [List.length_cons, List.length_nil]; omega) | (rw [wst_len hwl]; exact hwl) | (rw [wst_len hwl]; omega)) (by first | rfl | assumption | (apply Row.one; assumption)) (by first | exact wst2 hwl | exact wst1 _ _ _ | (simp only [setL, List.getElem?_cons_zero, List.getElem?_cons_succ, Value.cells, List.take_zero, List.take_succ_cons, List.take_nil, List.drop_zero, List.drop_succ_cons, List.drop_nil, List.length_cons, List.length_nil, List.cons_append, List.nil_append, List.append_nil, Nat.zero_add, Nat.add_zero, Nat.reduceAdd, Nat.reduceBEq, Nat.reduceEqDiff, Nat.ble, BEq.rfl, Bool.and_true, Bool.and_self, cond_true, beq_self_eq_true]; rfl)) ?_)
    clear hh w; intro w hh
    refine w_nil ?_
    have hl2 := hl.nil; clear hl; have hl := hl2; clear hl2
    first
    | (have hx9 := hpo; refine f_end0 (F' := (wb, C (wst wc o9 (.slice p6 (ms ++ ns).length c6)) 55) :: (E2 ++ Eq)) hl hh rfl (by repeat (first | exact keeps_nil | apply keeps_cons (by repeat (first | exact find_head | apply find_tail | apply find_skip)) (by first  | rfl) | exact keeps_self | exact keeps_left | apply keeps_app | apply keeps_mv | apply keeps_skip)) ?_; exact ⟨rfl, p6, c6, E2, by rw [hpo]; exact hR2, by rw [hpo]⟩)
    | (refine f_end0 (F' := (wb, C (wst wc o9 (.slice p7 (postP ms ns).length c7)) 55) :: (E3 ++ Eq)) hl hh rfl (by repeat (first | exact keeps_nil | apply keeps_cons (by repeat (first | exact find_head | apply find_tail | apply find_skip)) (by first  | rfl) | exact keeps_self | exact keeps_left | apply keeps_app | apply keeps_mv | apply keeps_skip)) ?_; exact ⟨rfl, p7, c7, E3, hR3, rfl⟩)
  · intro hc0
    try simp only [decide_eq_true_eq, decide_eq_false_iff_not, Bool.not_eq_true', Bool.not_eq_false', Bool.not_eq_true, Bool.not_eq_false, Bool.and_eq_true, Bool.or_eq_true, Bool.and_eq_false_iff, Bool.or_eq_false_iff, Bool.not_not, ne_eq, Int.not_lt, Int.not_le, Decidable.not_not, beq_iff_eq, bne_iff_ne] at hc0
    have hpo : postP ms ns = ms ++ ns := by unfold postP; rw [show (ms ++ ns).length - 160 = 0 by omega]; rfl
    refine wp_skip ?_
    first
    | (have hx9 := hpo; refine f_end0 (F' := (wb, C (wst wc o9 (.slice p6 (ms ++ ns).length c6)) 55) :: (E2 ++ Eq)) hl hh rfl (by repeat (first | exact keeps_nil | apply keeps_cons (by repeat (first | exact find_head | apply find_tail | apply find_skip)) (by first  | rfl) | exact keeps_self | exact keeps_left | apply keeps_app | apply keeps_mv | apply keeps_skip)) ?_; exact ⟨rfl, p6, c6, E2, by rw [hpo]; exact hR2, by rw [hpo]⟩)
    | (refine f_end0 (F' := (wb, C (wst wc o9 (.slice p7 (postP ms ns).length c7)) 55) :: (E3 ++ Eq)) hl hh rfl (by repeat (first | exact keeps_nil | apply keeps_cons (by repeat (first | exact find_head | apply find_tail | apply find_skip)) (by first  | rfl) | exact keeps_self | exact keeps_left | apply keeps_app | apply keeps_mv | apply keeps_skip)) ?_; exact ⟨rfl, p7, c7, E3, hR3, rfl⟩)
end Go.Proofs.Qxb6500908aGreat

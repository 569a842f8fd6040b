import Derived.Test.Qxb6500907aX9
import Derived.Test.Qxb6500907aN3
namespace Go.Proofs.Qxb6500907a
open Go.Eng
set_option linter.unusedVariables false
set_option linter.unusedSimpArgs false
theorem zero82 : zeroOk Try.prog 82 (.agg #[(.slice none 0 0)]) := by unfold zeroOk; kernel_rfl
theorem fld37_0 : fieldOk Try.prog 37 0 0 = true := by kernel_rfl
theorem cal33 : callable Try.prog 33 = true := by kernel_rfl
theorem flat_take {cs : List Ch} {i : Nat} {c : Ch} (h : cs[i]? = some c) : (cs.take (i + 1)).flatMap pCh = (cs.take i).flatMap pCh ++ pCh c := by
  rw [List.take_add_one, h]; simp
structure PrI (o0 : List Int) (cs : List Ch) (i : Nat) (o : List Int) : Prop where
  le : i ≤ cs.length
  eq : o = o0 ++ (cs.take i).flatMap pCh
  len : o.length ≤ o0.length + 101 * i
theorem PrI.next {o0 o : List Int} {cs : List Ch} {i : Nat} {c : Ch} (h : PrI o0 cs i o) (hc : cs[i]? = some c) (hl : (pCh c).length ≤ 101) : PrI o0 cs (i + 1) (o ++ pCh c) :=
  ⟨(List.getElem?_eq_some_iff.1 hc).1, by rw [flat_take hc, h.eq, List.append_assoc], by rw [List.length_append]; have := h.len; omega⟩
structure PrS where
  i : Nat
  o : List Int
  rv : Value
  E : List (Nat × Obj)

set_option maxHeartbeats 4000000 in
theorem print_ro (idv : Int) (hid : 0 ≤ idv ∧ idv ≤ 4294967295) (p : Option Addr) (cap : Nat) (cs : List Ch) (E : List (Nat × Obj)) (hR : Row (.slice p cs.length cap) cs.length (chs cs) 12 57 E) (hok : ∀ c, c ∈ cs → c.ok) (hlen : cs.length ≤ 128) : SpK Try.prog 12 #[.agg ⟨[.int .u32 idv, .slice p cs.length cap]⟩] (Mem E) [] (fun u F' => ∃ E', Row u (pTx idv cs).length (iv8 (pTx idv cs)) 1 5 E' ∧ F' = E') := by
  refine f_enter (args := [.agg ⟨[.int .u32 idv, .slice p cs.length cap]⟩]) Try.func12 rfl Try.ntmps12 rfl ?_
  intro w0 w a hpre hl hh
  simp only [slotsFrom, Nat.reduceAdd] at hl
  refine c_seq ?_
  refine c_region ?_
  refine wl (w_box hl hh rfl trivial rfl rfl ?_)
  clear hl hh a w; intro k1 a w hl hh
  refine wl (wl_val hl rfl trivial (r_assign hl rfl) ?_)
  clear hl a; intro a hl
  refine w_nil ?_
  have hl2 := hl.add (t := 1) (hl.nil) rfl; clear hl; have hl := hl2; clear hl2
  refine then_normal ?_
  refine c_seq ?_
  refine c_region ?_
  refine wl (w_alloc hl hh rfl trivial zero82 rfl ?_)
  clear hl hh a w; intro k3 a w hl hh
  refine w_nil ?_
  have hl2 := hl.add (t := 1) (hl.add (t := 3) (hl.nil) rfl) rfl; clear hl; have hl := hl2; clear hl2
  refine then_normal ?_
  refine c_seq ?_
  refine c_draw [(k1, C [.int .u32 idv, .slice p cs.length cap] 37)] [3, 4] mixed hh ?_
  clear hh w; intro w hh
  have hM : Mem [(k1, C [.int .u32 idv, .slice p cs.length cap] 37)] w := (by (repeat (first | exact Mem.nil | refine Mem.cons hh.mem (by (repeat (first | exact find_head | apply find_tail)); done) ?_ | refine Mem.consR hh (by assumption) (by simp) ?_ | fail)); done)
  refine d_take (i := 1) hl rfl (by kernel_rfl) (by kernel_rfl) (by kernel_rfl) (by kernel_rfl) (by kernel_rfl) rfl trivial (fun _ _ _ h => h) hM (fun w hC => r_field hl rfl fld37_0) rfl ?_
  clear hl a; intro a hl
  refine d_take (i := 2) hl rfl (by kernel_rfl) (by kernel_rfl) (by kernel_rfl) (by kernel_rfl) (by kernel_rfl) rfl trivial (fun _ _ _ h => h) hM (fun w hC => r_loadC hl rfl one34 hC (by repeat (first | exact find_head | apply find_tail)) (by first | rfl)) rfl ?_
  clear hl a; intro a hl
  refine d_one (i := 0) (by kernel_rfl) rfl ?_
  try clear hM
  refine id (w_call hl hh rfl trivial rfl cal31 rfl (str_spec k3 ([] : List Int) (.slice none 0 0) [] (Row.nil _ _) (by simp) _ [98, 97, 116, 99, 104, 32] rfl (by decide)) (by repeat (first | exact keeps_nil | apply keeps_cons (by repeat (first | exact find_head | apply find_tail)) (by first  | rfl) | exact keeps_self | exact keeps_left | exact keeps_right | exact keeps_swap | apply keeps_mv)) trivial ?_)
  clear hl hh a w; intro vc Fc a w hR hl hh
  obtain ⟨rfl, rv1, E1, hR1, rfl⟩ := hR
  try simp only [List.cons_append, List.nil_append] at hh
  obtain ⟨o1, hoe1⟩ : ∃ y, y = ([] : List Int) ++ ([98, 97, 116, 99, 104, 32]) := ⟨_, rfl⟩
  rw [← hoe1] at hR1
  have hol1 : o1.length ≤ 6 := by (rw [hoe1]; decide)
  (try replace hh := has_tail1 hh); (try simp only [List.cons_append, List.nil_append, List.append_nil] at hh)
  have hM : Mem [(k1, C [.int .u32 idv, .slice p cs.length cap] 37)] w := (by (repeat (first | exact Mem.nil | refine Mem.cons hh.mem (by (repeat (first | exact find_head | apply find_tail)); done) ?_ | refine Mem.consR hh (by assumption) (by simp) ?_ | fail)); done)
  refine d_step (fun _ => hM) ?_
  refine d_one (i := 3) (by kernel_rfl) rfl ?_
  try clear hM
  refine id (w_call hl hh rfl trivial rfl cal32 rfl (numI_spec k3 o1 rv1 E1 hR1 (by omega) idv (by omega) (by omega)) (by repeat (first | exact keeps_nil | apply keeps_cons (by repeat (first | exact find_head | apply find_tail)) (by first  | rfl) | exact keeps_self | exact keeps_left | exact keeps_right | exact keeps_swap | apply keeps_mv)) trivial ?_)
  clear hl hh a w; intro vc Fc a w hR hl hh
  obtain ⟨rfl, rv2, E2, hR2, rfl⟩ := hR
  try simp only [List.cons_append, List.nil_append] at hh
  obtain ⟨o2, hoe2⟩ : ∃ y, y = o1 ++ (dg (idv).toNat) := ⟨_, rfl⟩
  rw [← hoe2] at hR2
  have hol2 : o2.length ≤ o1.length + 10 := by (rw [hoe2, List.length_append]; have := dg_len10 (n := (idv).toNat) (by omega); omega)
  (try replace hh := has_tail1 hh); (try simp only [List.cons_append, List.nil_append, List.append_nil] at hh)
  refine d_step (fun h => absurd h (by decide)) ?_
  refine d_one (i := 4) (by kernel_rfl) rfl ?_
  try clear hM
  refine id (w_call hl hh rfl trivial rfl cal31 rfl (str_spec k3 o2 rv2 E2 hR2 (by omega) _ [10] rfl (by decide)) (by repeat (first | exact keeps_nil | apply keeps_cons (by repeat (first | exact find_head | apply find_tail)) (by first  | rfl) | exact keeps_self | exact keeps_left | exact keeps_right | exact keeps_swap | apply keeps_mv)) trivial ?_)
  clear hl hh a w; intro vc Fc a w hR hl hh
  obtain ⟨rfl, rv3, E3, hR3, rfl⟩ := hR
  try simp only [List.cons_append, List.nil_append] at hh
  obtain ⟨o3, hoe3⟩ : ∃ y, y = o2 ++ ([10]) := ⟨_, rfl⟩
  rw [← hoe3] at hR3
  have hol3 : o3.length ≤ o2.length + 1 := by (rw [hoe3, List.length_append]; simp only [List.length_cons, List.length_nil]; omega)
  (try replace hh := has_tail1 hh); (try simp only [List.cons_append, List.nil_append, List.append_nil] at hh)
  refine d_step (fun h => absurd h (by decide)) ?_
  refine d_done (by kernel_rfl) ?_
  try clear hM
  have hl2 := hl.add (t := 1) (hl.add (t := 3) (hl.nil) rfl) rfl; clear hl; have hl := hl2; clear hl2
  refine then_normal ?_
  refine c_seq ?_
  refine c_seq ?_
  refine c_region ?_
  refine wl (wl_val hl rfl trivial (r_field hl rfl fld37_1) ?_)
  clear hl a; intro a hl
  refine wl (w_load hl hh rfl trivial one35 rfl (by repeat (first | exact find_head | apply find_tail)) (by first | rfl) ?_)
  clear hl a; intro a hl
  refine wl (wl_val hl rfl trivial (r_lenS hl rfl slc35) ?_)
  clear hl a; intro a hl
  refine wl (wl_val hl rfl trivial (r_move hl rfl) ?_)
  clear hl a; intro a hl
  refine w_nil ?_
  have hl2 := hl.add (t := 3) (hl.add (t := 12) (hl.add (t := 13) (hl.add (t := 14) (hl.nil) rfl) rfl) rfl) rfl; clear hl; have hl := hl2; clear hl2
  refine then_normal ?_
  refine wp_block ?_
  obtain ⟨KS0, hKS0, hk⟩ := (hl.add (t := 3) (hl.add (t := 12) (hl.add (t := 13) (hl.nil) rfl) rfl) rfl).name
  obtain ⟨HS0, hHS0, hh2⟩ := hh.nameT (A := [(k3, C [rv3] 82)]) (U := E3) (keeps_cons (b := k3) (o' := C [rv3] 82) (by repeat (first | exact find_head | apply find_tail)) (by first | rfl) ((by repeat (first | exact keeps_nil | exact keeps_self | exact keeps_swap | apply keeps_mv))))
  refine c_loop (α := PrS) (fun s => cs.length - s.i) (fun s a w => (PrI o3 cs s.i s.o ∧ Row s.rv s.o.length (iv8 s.o) 1 5 s.E) ∧ Sl 25 ([(14, .int .i64 (s.i : Int))] ++ KS0) a ∧ Has _ w0 ([(k3, C [s.rv] 82)] ++ (HS0 ++ s.E)) w) ⟨0, o3, rv3, E3⟩ ⟨⟨⟨Nat.zero_le _, by simp, by simp⟩, hR3⟩, hl.addE (t := 14) (hk) rfl (by first | rfl), hh2⟩ ?_
  clear hk hh2 hl hh a w
  intro s a w hI
  obtain ⟨⟨hS, hS2⟩, hl, hh⟩ := hI
  subst hKS0; subst hHS0
  simp only [List.cons_append, List.nil_append, List.append_nil] at hl hh
  have hsi := hS.le
  refine c_seq ?_
  refine c_region ?_
  refine wl (wl_val hl rfl trivial (r_lss hl rfl rfl) ?_)
  clear hl a; intro a hl
  refine w_nil ?_
  have hl2 := hl.add (t := 3) (hl.add (t := 12) (hl.add (t := 13) (hl.add (t := 14) (hl.add (t := 15) (hl.nil) rfl) rfl) rfl) rfl) rfl; clear hl; have hl := hl2; clear hl2
  refine then_normal ?_
  refine c_seq ?_
  refine c_cond hl rfl ?_ ?_
  · intro hc0
    try simp only [decide_eq_true_eq, decide_eq_false_iff_not, Bool.not_eq_true', Bool.not_eq_false', Bool.not_eq_true, Bool.not_eq_false, Bool.and_eq_true, Bool.or_eq_true, Bool.and_eq_false_iff, Bool.or_eq_false_iff, Bool.not_not, ne_eq, Int.not_lt, Int.not_le, Decidable.not_not, beq_iff_eq, bne_iff_ne] at hc0
    obtain ⟨c, hcat⟩ : ∃ c, cs[s.i]? = some c := ⟨_, List.getElem?_eq_getElem (by omega)⟩
    obtain ⟨bq, junk, rfl, hjl, hjc, rfl⟩ := row_pos hR (by omega)
    have hm := hpre _ _ (List.mem_singleton.2 rfl)
    have hrowi := chs_at hcat junk
    have hcok := hok c (List.mem_of_getElem? hcat)
    obtain ⟨ckd, cdv, cpr, cix, cup, cra, crl, cvia, cpm, cda, cdl, ccl⟩ := c
    simp only [Ch.vals] at hrowi
    refine wp_skip ?_
    refine then_normal ?_
    refine c_seq ?_
    refine wp_block ?_
    refine c_seq ?_
    refine c_region ?_
    refine wl (wl_val hl rfl trivial (r_indexS hl rfl rfl slc35 (by omega) (by omega) (by first | (simp only [Int.reduceToNat]; rfl) | exact toNat_add1 _ | exact toNat_add2 _ _ | exact toNat_emod _ _ | exact Int.toNat_natCast _ | rfl)) ?_)
    clear hl a; intro a hl
    first | refine wl (w_loadA hl hh rfl trivial agg57 rfl (by repeat (first | exact find_head | apply find_tail)) (by first | (simp only [List.getElem?_cons_zero, List.getElem?_cons_succ, Value.cells, List.take_zero, List.take_succ_cons, List.take_nil, List.drop_zero, List.drop_succ_cons, List.drop_nil, List.length_cons, List.length_nil, List.cons_append, List.nil_append, List.append_nil, Nat.zero_add, Nat.add_zero, Nat.reduceAdd, Nat.reduceBEq, Nat.reduceEqDiff, Nat.ble, BEq.rfl, Bool.and_true, Bool.and_self, cond_true, beq_self_eq_true]; rfl)) (by first | rfl | (simp; done)) ?_) | refine wl (w_loadRA hl hh rfl trivial agg57 rfl hm (by simp) hrowi rfl ?_)
    clear hl a; intro a hl
    refine wl (w_alloc hl hh rfl trivial zero57 rfl ?_)
    clear hl hh a w; intro k5 a w hl hh
    refine wl (w_storeA hl hh trivial agg57 rfl rfl (by repeat (first | exact find_head | apply find_tail)) (by first | rfl | (simp; done)) (by first | (simp; done) | (simp; omega)) (by first | rfl | (simp; done)) (by first | (simp only [setL, List.getElem?_cons_zero, List.getElem?_cons_succ, Value.cells, List.take_zero, List.take_succ_cons, List.take_nil, List.drop_zero, List.drop_succ_cons, List.drop_nil, List.length_cons, List.length_nil, List.cons_append, List.nil_append, List.append_nil, Nat.zero_add, Nat.add_zero, Nat.reduceAdd, Nat.reduceBEq, Nat.reduceEqDiff, Nat.ble, BEq.rfl, Bool.and_true, Bool.and_self, cond_true, beq_self_eq_true]; rfl)) ?_)
    clear hh w; intro w hh
    refine w_nil ?_
    have hl2 := hl.add (t := 3) (hl.add (t := 5) (hl.add (t := 12) (hl.add (t := 13) (hl.add (t := 14) (hl.nil) rfl) rfl) rfl) rfl) rfl; clear hl; have hl := hl2; clear hl2
    refine then_normal ?_
    refine c_region ?_
    first | refine wl (w_loadA hl hh rfl trivial agg57 rfl (by repeat (first | exact find_head | apply find_tail)) (by first | (simp only [List.getElem?_cons_zero, List.getElem?_cons_succ, Value.cells, List.take_zero, List.take_succ_cons, List.take_nil, List.drop_zero, List.drop_succ_cons, List.drop_nil, List.length_cons, List.length_nil, List.cons_append, List.nil_append, List.append_nil, Nat.zero_add, Nat.add_zero, Nat.reduceAdd, Nat.reduceBEq, Nat.reduceEqDiff, Nat.ble, BEq.rfl, Bool.and_true, Bool.and_self, cond_true, beq_self_eq_true]; rfl)) (by first | rfl | (simp; done)) ?_) | refine wl (w_loadRA hl hh rfl trivial agg57 rfl hm (by simp) hrowi rfl ?_)
    clear hl a; intro a hl
    refine wl (w_call hl hh rfl trivial rfl cal33 rfl (pchange_spec k3 s.o s.rv s.E hS2 (by have := hS.len; omega) ckd cdv cpr cix cup cra crl cvia cpm cda cdl ccl hcok) (by repeat (first | exact keeps_nil | apply keeps_cons (by repeat (first | exact find_head | apply find_tail)) (by first  | rfl) | exact keeps_self | exact keeps_left | exact keeps_right | exact keeps_swap | apply keeps_mv)) trivial ?_)
    clear hl hh a w; intro vc Fc a w hR hl hh
    obtain ⟨rfl, ⟨rv2, E2, hR2, rfl⟩, hpl⟩ := hR
    try simp only [List.cons_append, List.nil_append] at hh
    (try replace hh := has_tail1 hh); (try simp only [List.cons_append, List.nil_append, List.append_nil] at hh)
    refine w_nil ?_
    have hl2 := hl.add (t := 3) (hl.add (t := 12) (hl.add (t := 13) (hl.add (t := 14) (hl.nil) rfl) rfl) rfl) rfl; clear hl; have hl := hl2; clear hl2
    refine blk_normal ?_
    refine then_normal ?_
    refine c_region ?_
    first | refine wl (wl_val hl rfl trivial (r_add hl rfl rfl (by simp only [Fits]; omega)) ?_) | refine wl (wl_val hl rfl trivial (r_addW hl rfl rfl) ?_)
    clear hl a; intro a hl
    refine wl (wl_val hl rfl trivial (r_move hl rfl) ?_)
    clear hl a; intro a hl
    refine w_nil ?_
    have hl2 := hl.add (t := 3) (hl.add (t := 12) (hl.add (t := 13) (hl.add (t := 14) (hl.nil) rfl) rfl) rfl) rfl; clear hl; have hl := hl2; clear hl2
    refine then_normal ?_
    refine ⟨⟨s.i + 1, s.o ++ pCh ⟨ckd, cdv, cpr, cix, cup, cra, crl, cvia, cpm, cda, cdl, ccl⟩, rv2, E2⟩, (by simp only; omega), ⟨hS.next hcat hpl, hR2⟩, hl.addE (t := 14) (hl.addE (t := 3) (hl.addE (t := 12) (hl.addE (t := 13) (hl.nil) rfl (by first | rfl | rfl)) rfl (by first | rfl | rfl)) rfl (by first | rfl | rfl)) rfl (by first | rfl | rfl), hh.keep (by repeat (first | exact keeps_nil | apply keeps_cons (by repeat (first | exact find_head | apply find_tail)) (by first  | rfl) | exact keeps_self | exact keeps_left | exact keeps_right | exact keeps_swap | apply keeps_mv))⟩
  · intro hc0
    try simp only [decide_eq_true_eq, decide_eq_false_iff_not, Bool.not_eq_true', Bool.not_eq_false', Bool.not_eq_true, Bool.not_eq_false, Bool.and_eq_true, Bool.or_eq_true, Bool.and_eq_false_iff, Bool.or_eq_false_iff, Bool.not_not, ne_eq, Int.not_lt, Int.not_le, Decidable.not_not, beq_iff_eq, bne_iff_ne] at hc0
    have hsl : s.i = cs.length := by omega
    have hoe := hS.eq
    rw [hsl, List.take_length] at hoe
    refine wp_exit ?_
    refine then_exit ?_
    refine then_exit ?_
    refine blk_exit ?_
    refine then_normal ?_
    refine c_seq ?_
    refine c_region ?_
    refine wl (w_call hl hh rfl trivial rfl cal31 rfl (str_spec k3 s.o s.rv s.E hS2 (by have := hS.len; omega) _ [101, 110, 100, 10] rfl (by decide)) (by repeat (first | exact keeps_nil | apply keeps_cons (by repeat (first | exact find_head | apply find_tail)) (by first  | rfl) | exact keeps_self | exact keeps_left | exact keeps_right | exact keeps_swap | apply keeps_mv)) trivial ?_)
    clear hl hh a w; intro vc Fc a w hR hl hh
    obtain ⟨rfl, rv4, E4, hR4, rfl⟩ := hR
    try simp only [List.cons_append, List.nil_append] at hh
    (try replace hh := has_tail1 hh); (try simp only [List.cons_append, List.nil_append, List.append_nil] at hh)
    have hone4 := hR4.one
    refine wl (wl_val hl rfl trivial (r_nilCheck hl rfl) ?_)
    clear hl a; intro a hl
    refine wl (wl_val hl rfl trivial (r_field hl rfl fld82_0) ?_)
    clear hl a; intro a hl
    refine wl (w_load hl hh rfl trivial one41 rfl (by repeat (first | exact find_head | apply find_tail)) (by first | rfl) ?_)
    clear hl a; intro a hl
    refine wl (wl_val hl rfl trivial (r_assign hl rfl) ?_)
    clear hl a; intro a hl
    refine w_nil ?_
    have hl2 := hl.add (t := 2) (hl.nil) rfl; clear hl; have hl := hl2; clear hl2
    refine then_normal ?_
    refine wp_ret ?_
    refine f_ret1 (F' := E4) hl hh rfl rfl (by repeat (first | exact keeps_nil | apply keeps_cons (by repeat (first | exact find_head | apply find_tail)) (by first  | rfl) | exact keeps_self | exact keeps_left | exact keeps_right | exact keeps_swap | apply keeps_mv)) ?_
    refine ⟨E4, ?_, rfl⟩
    have hq : pTx idv cs = s.o ++ [101, 110, 100, 10] := by (rw [hoe, hoe3, hoe2, hoe1]; unfold pTx; simp only [List.append_assoc, List.nil_append])
    rw [hq]; exact hR4

theorem row_rd {p : Option Addr} {n cap : Nat} {tx : List Int} {E : List (Nat × Obj)} {w : World} (hn : n = tx.length) (hR : Row (.slice p n cap) n (iv8 tx) 1 5 E) (hm : Mem E w) : Rd p n (iv8 tx) w := by
  rcases hR with ⟨h1, h2, h3, rfl⟩ | ⟨b, c, junk, h1, h2, h3, h4, rfl⟩
  · exact .inl ⟨h2, h3⟩
  · injection h1 with h5 h6 h7
    refine .inr ⟨by rw [iv8_len, hn], b, 0, iv8 tx ++ junk, 5, (0, 0), h5, hm _ _ (List.mem_singleton.2 rfl), ?_⟩
    rw [List.drop_zero, hn, ← iv8_len tx, List.take_left]

set_option maxHeartbeats 4000000 in
theorem sameBatch_ro (idv : Int) (p1 p2 : Option Addr) (cap1 cap2 : Nat) (cs : List Ch) (E1 E2 : List (Nat × Obj)) (hR1 : Row (.slice p1 cs.length cap1) cs.length (chs cs) 12 57 E1) (hR2 : Row (.slice p2 cs.length cap2) cs.length (chs cs) 12 57 E2) (hok : ∀ c, c ∈ cs → c.ok) (hlen : cs.length ≤ 1000000) : SpK Try.prog 14 #[.agg ⟨[.int .u32 idv, .slice p1 cs.length cap1]⟩, .agg ⟨[.int .u32 idv, .slice p2 cs.length cap2]⟩] (fun w => Mem E1 w ∧ Mem E2 w) [] (fun u F' => u = .bool true ∧ F' = []) := by
  refine f_enter (args := [.agg ⟨[.int .u32 idv, .slice p1 cs.length cap1]⟩, .agg ⟨[.int .u32 idv, .slice p2 cs.length cap2]⟩]) Try.func14 rfl Try.ntmps14 rfl ?_
  intro w0 w a hpre hl hh
  simp only [slotsFrom, Nat.reduceAdd] at hl
  refine c_seq ?_
  refine c_region ?_
  refine wl (w_box hl hh rfl trivial rfl rfl ?_)
  clear hl hh a w; intro k2 a w hl hh
  refine wl (w_box hl hh rfl trivial rfl rfl ?_)
  clear hl hh a w; intro k3 a w hl hh
  refine wl (wl_val hl rfl trivial (r_assign hl rfl) ?_)
  clear hl a; intro a hl
  refine w_nil ?_
  have hl2 := hl.add (t := 2) (hl.add (t := 3) (hl.nil) rfl) rfl; clear hl; have hl := hl2; clear hl2
  refine then_normal ?_
  refine c_seq ?_
  refine c_seq ?_
  refine c_region ?_
  refine wl (wl_val hl rfl trivial (r_field hl rfl fld37_0) ?_)
  clear hl a; intro a hl
  refine wl (w_load hl hh rfl trivial one34 rfl (by repeat (first | exact find_head | apply find_tail)) (by first | rfl) ?_)
  clear hl a; intro a hl
  refine wl (wl_val hl rfl trivial (r_field hl rfl fld37_0) ?_)
  clear hl a; intro a hl
  refine wl (w_load hl hh rfl trivial one34 rfl (by repeat (first | exact find_head | apply find_tail)) (by first | rfl) ?_)
  clear hl a; intro a hl
  refine wl (wl_val hl rfl trivial (r_neq hl rfl rfl) ?_)
  clear hl a; intro a hl
  refine wl (wl_val hl rfl trivial (r_move hl rfl) ?_)
  clear hl a; intro a hl
  refine sl_split (t := 11) hl rfl ?_ ?_
  · intro hg1; clear hl; intro hl
    try simp only [decide_eq_true_eq, decide_eq_false_iff_not, Bool.not_eq_true', Bool.not_eq_false', Bool.not_eq_true, Bool.not_eq_false, Bool.and_eq_true, Bool.or_eq_true, Bool.and_eq_false_iff, Bool.or_eq_false_iff, Bool.not_not, ne_eq, Int.not_lt, Int.not_le, Decidable.not_not, beq_iff_eq, bne_iff_ne] at hg1
    exfalso; first | omega | (simp at *; done)
  · intro hg1; clear hl; intro hl
    try simp only [decide_eq_true_eq, decide_eq_false_iff_not, Bool.not_eq_true', Bool.not_eq_false', Bool.not_eq_true, Bool.not_eq_false, Bool.and_eq_true, Bool.or_eq_true, Bool.and_eq_false_iff, Bool.or_eq_false_iff, Bool.not_not, ne_eq, Int.not_lt, Int.not_le, Decidable.not_not, beq_iff_eq, bne_iff_ne] at hg1
    refine wl (wl_val hl rfl ⟨_, _, rfl, rfl, rfl⟩ (r_field hl rfl fld37_1) ?_)
    clear hl a; intro a hl
    refine wl (w_load hl hh rfl ⟨_, _, rfl, rfl, rfl⟩ one35 rfl (by repeat (first | exact find_head | apply find_tail)) (by first | rfl) ?_)
    clear hl a; intro a hl
    refine wl (wl_val hl rfl ⟨_, _, rfl, rfl, rfl⟩ (r_lenS hl rfl slc35) ?_)
    clear hl a; intro a hl
    refine wl (wl_val hl rfl ⟨_, _, rfl, rfl, rfl⟩ (r_field hl rfl fld37_1) ?_)
    clear hl a; intro a hl
    refine wl (w_load hl hh rfl ⟨_, _, rfl, rfl, rfl⟩ one35 rfl (by repeat (first | exact find_head | apply find_tail)) (by first | rfl) ?_)
    clear hl a; intro a hl
    refine wl (wl_val hl rfl ⟨_, _, rfl, rfl, rfl⟩ (r_lenS hl rfl slc35) ?_)
    clear hl a; intro a hl
    refine wl (wl_val hl rfl ⟨_, _, rfl, rfl, rfl⟩ (r_neq hl rfl rfl) ?_)
    clear hl a; intro a hl
    refine wl (wl_val hl rfl trivial (r_pickF hl rfl rfl) ?_)
    clear hl a; intro a hl
    refine w_nil ?_
    have hl2 := hl.add (t := 2) (hl.add (t := 3) (hl.add (t := 19) (hl.nil) rfl) rfl) rfl; clear hl; have hl := hl2; clear hl2
    refine then_normal ?_
    refine c_cond hl rfl ?_ ?_
    · intro hc0
      try simp only [decide_eq_true_eq, decide_eq_false_iff_not, Bool.not_eq_true', Bool.not_eq_false', Bool.not_eq_true, Bool.not_eq_false, Bool.and_eq_true, Bool.or_eq_true, Bool.and_eq_false_iff, Bool.or_eq_false_iff, Bool.not_not, ne_eq, Int.not_lt, Int.not_le, Decidable.not_not, beq_iff_eq, bne_iff_ne] at hc0
      exfalso; first | omega | (simp at *; done)
    · intro hc0
      try simp only [decide_eq_true_eq, decide_eq_false_iff_not, Bool.not_eq_true', Bool.not_eq_false', Bool.not_eq_true, Bool.not_eq_false, Bool.and_eq_true, Bool.or_eq_true, Bool.and_eq_false_iff, Bool.or_eq_false_iff, Bool.not_not, ne_eq, Int.not_lt, Int.not_le, Decidable.not_not, beq_iff_eq, bne_iff_ne] at hc0
      refine wp_skip ?_
      refine then_normal ?_
      refine c_seq ?_
      refine c_seq ?_
      refine c_region ?_
      refine wl (wl_val hl rfl trivial (r_field hl rfl fld37_1) ?_)
      clear hl a; intro a hl
      refine wl (w_load hl hh rfl trivial one35 rfl (by repeat (first | exact find_head | apply find_tail)) (by first | rfl) ?_)
      clear hl a; intro a hl
      refine wl (wl_val hl rfl trivial (r_lenS hl rfl slc35) ?_)
      clear hl a; intro a hl
      refine wl (wl_val hl rfl trivial (r_move hl rfl) ?_)
      clear hl a; intro a hl
      refine w_nil ?_
      have hl2 := hl.add (t := 2) (hl.add (t := 3) (hl.add (t := 22) (hl.add (t := 23) (hl.nil) rfl) rfl) rfl) rfl; clear hl; have hl := hl2; clear hl2
      refine then_normal ?_
      refine wp_block ?_
      obtain ⟨KS0, hKS0, hk⟩ := (hl.add (t := 2) (hl.add (t := 3) (hl.add (t := 22) (hl.nil) rfl) rfl) rfl).name
      obtain ⟨HS0, hHS0, hh2⟩ := hh.name (keeps_nil)
      refine c_loop (α := Nat) (fun i => cs.length - i) (fun i a w => (i ≤ cs.length) ∧ Sl 38 ([(23, .int .i64 (i : Int))] ++ KS0) a ∧ Has _ w0 ([] ++ HS0) w) 0 ⟨Nat.zero_le _, hl.addE (t := 23) (hk) rfl (by first | rfl), hh2⟩ ?_
      clear hk hh2 hl hh a w
      intro i a w hI
      obtain ⟨hi, hl, hh⟩ := hI
      subst hKS0; subst hHS0
      simp only [List.cons_append, List.nil_append, List.append_nil] at hl hh
      refine c_seq ?_
      refine c_region ?_
      refine wl (wl_val hl rfl trivial (r_lss hl rfl rfl) ?_)
      clear hl a; intro a hl
      refine w_nil ?_
      have hl2 := hl.add (t := 2) (hl.add (t := 3) (hl.add (t := 22) (hl.add (t := 23) (hl.add (t := 24) (hl.nil) rfl) rfl) rfl) rfl) rfl; clear hl; have hl := hl2; clear hl2
      refine then_normal ?_
      refine c_seq ?_
      refine c_cond hl rfl ?_ ?_
      · intro hc1
        try simp only [decide_eq_true_eq, decide_eq_false_iff_not, Bool.not_eq_true', Bool.not_eq_false', Bool.not_eq_true, Bool.not_eq_false, Bool.and_eq_true, Bool.or_eq_true, Bool.and_eq_false_iff, Bool.or_eq_false_iff, Bool.not_not, ne_eq, Int.not_lt, Int.not_le, Decidable.not_not, beq_iff_eq, bne_iff_ne] at hc1
        obtain ⟨c, hcat⟩ : ∃ c, cs[i]? = some c := ⟨_, List.getElem?_eq_getElem (by omega)⟩
        obtain ⟨b1, junk1, rfl, hjl1, hjc1, rfl⟩ := row_pos hR1 (by omega)
        obtain ⟨b2, junk2, rfl, hjl2, hjc2, rfl⟩ := row_pos hR2 (by omega)
        have hm1 := hpre.1 _ _ (List.mem_singleton.2 rfl)
        have hm2 := hpre.2 _ _ (List.mem_singleton.2 rfl)
        have hrow1 := chs_at hcat junk1
        have hrow2 := chs_at hcat junk2
        have hcok := hok c (List.mem_of_getElem? hcat)
        obtain ⟨h1, h2, h3, h4, h5, h6, h7, h8, h9, h10⟩ := hcok
        obtain ⟨ckd, cdv, cpr, cix, cup, cra, crl, cvia, cpm, cda, cdl, ccl⟩ := c
        simp only [Ch.vals] at hrow1 hrow2
        simp only at h1 h2 h3 h4 h5 h6 h7 h8 h9 h10
        refine wp_skip ?_
        refine then_normal ?_
        refine c_seq ?_
        refine wp_block ?_
        refine c_seq ?_
        refine c_region ?_
        refine wl (wl_val hl rfl trivial (r_move hl rfl) ?_)
        clear hl a; intro a hl
        refine wl (wl_val hl rfl trivial (r_assign hl rfl) ?_)
        clear hl a; intro a hl
        refine w_nil ?_
        have hl2 := hl.add (t := 2) (hl.add (t := 3) (hl.add (t := 5) (hl.add (t := 22) (hl.add (t := 23) (hl.nil) rfl) rfl) rfl) rfl) rfl; clear hl; have hl := hl2; clear hl2
        refine then_normal ?_
        refine c_seq ?_
        refine c_draw [(k2, C [.int .u32 idv, .slice (some ⟨b1, 0, none⟩) cs.length cap1] 37), (k3, C [.int .u32 idv, .slice (some ⟨b2, 0, none⟩) cs.length cap2] 37), (b1, C (chs cs ++ junk1) 57), (b2, C (chs cs ++ junk2) 57)] [10] mixed hh ?_
        clear hh w; intro w hh
        have hM : Mem [(k2, C [.int .u32 idv, .slice (some ⟨b1, 0, none⟩) cs.length cap1] 37), (k3, C [.int .u32 idv, .slice (some ⟨b2, 0, none⟩) cs.length cap2] 37), (b1, C (chs cs ++ junk1) 57), (b2, C (chs cs ++ junk2) 57)] w := (by (repeat (first | exact Mem.nil | refine Mem.consR hh (by assumption) (by simp) ?_ | refine Mem.cons hh.mem (by (repeat (first | exact find_head | apply find_tail)); done) ?_ | fail)); done)
        refine d_take (i := 0) hl rfl (by kernel_rfl) (by kernel_rfl) (by kernel_rfl) (by kernel_rfl) (by kernel_rfl) rfl trivial (fun _ _ _ h => h) hM (fun w hC => r_field hl rfl fld37_1) rfl ?_
        clear hl a; intro a hl
        refine d_take (i := 1) hl rfl (by kernel_rfl) (by kernel_rfl) (by kernel_rfl) (by kernel_rfl) (by kernel_rfl) rfl trivial (fun _ _ _ h => h) hM (fun w hC => r_loadC hl rfl one35 hC (by repeat (first | exact find_head | apply find_tail)) (by first | rfl)) rfl ?_
        clear hl a; intro a hl
        refine d_take (i := 2) hl rfl (by kernel_rfl) (by kernel_rfl) (by kernel_rfl) (by kernel_rfl) (by kernel_rfl) rfl trivial (fun _ _ _ h => h) hM (fun w hC => r_move hl rfl) rfl ?_
        clear hl a; intro a hl
        refine d_take (i := 3) hl rfl (by kernel_rfl) (by kernel_rfl) (by kernel_rfl) (by kernel_rfl) (by kernel_rfl) rfl trivial (fun _ _ _ h => h) hM (fun w hC => r_indexS hl rfl rfl slc35 (by omega) (by omega) (by first | (simp only [Int.reduceToNat]; rfl) | exact toNat_add1 _ | exact toNat_add2 _ _ | exact toNat_emod _ _ | exact Int.toNat_natCast _ | rfl)) rfl ?_
        clear hl a; intro a hl
        refine d_take (i := 4) hl rfl (by kernel_rfl) (by kernel_rfl) (by kernel_rfl) (by kernel_rfl) (by kernel_rfl) rfl trivial (fun _ _ _ h => h) hM (fun w hC => r_loadCA hl rfl agg57 hC (by repeat (first | exact find_head | apply find_tail)) (by first | exact hrow1 | exact hrow2 | (simp only [List.getElem?_cons_zero, List.getElem?_cons_succ, Value.cells, List.take_zero, List.take_succ_cons, List.take_nil, List.drop_zero, List.drop_succ_cons, List.drop_nil, List.length_cons, List.length_nil, List.cons_append, List.nil_append, List.append_nil, Nat.zero_add, Nat.add_zero, Nat.reduceAdd, Nat.reduceBEq, Nat.reduceEqDiff, Nat.ble, BEq.rfl, Bool.and_true, Bool.and_self, cond_true, beq_self_eq_true]; rfl)) (by first | rfl | (simp; done))) rfl ?_
        clear hl a; intro a hl
        refine d_take (i := 5) hl rfl (by kernel_rfl) (by kernel_rfl) (by kernel_rfl) (by kernel_rfl) (by kernel_rfl) rfl trivial (fun _ _ _ h => h) hM (fun w hC => r_field hl rfl fld37_1) rfl ?_
        clear hl a; intro a hl
        refine d_take (i := 6) hl rfl (by kernel_rfl) (by kernel_rfl) (by kernel_rfl) (by kernel_rfl) (by kernel_rfl) rfl trivial (fun _ _ _ h => h) hM (fun w hC => r_loadC hl rfl one35 hC (by repeat (first | exact find_head | apply find_tail)) (by first | rfl)) rfl ?_
        clear hl a; intro a hl
        refine d_take (i := 7) hl rfl (by kernel_rfl) (by kernel_rfl) (by kernel_rfl) (by kernel_rfl) (by kernel_rfl) rfl trivial (fun _ _ _ h => h) hM (fun w hC => r_move hl rfl) rfl ?_
        clear hl a; intro a hl
        refine d_take (i := 8) hl rfl (by kernel_rfl) (by kernel_rfl) (by kernel_rfl) (by kernel_rfl) (by kernel_rfl) rfl trivial (fun _ _ _ h => h) hM (fun w hC => r_indexS hl rfl rfl slc35 (by omega) (by omega) (by first | (simp only [Int.reduceToNat]; rfl) | exact toNat_add1 _ | exact toNat_add2 _ _ | exact toNat_emod _ _ | exact Int.toNat_natCast _ | rfl)) rfl ?_
        clear hl a; intro a hl
        refine d_take (i := 9) hl rfl (by kernel_rfl) (by kernel_rfl) (by kernel_rfl) (by kernel_rfl) (by kernel_rfl) rfl trivial (fun _ _ _ h => h) hM (fun w hC => r_loadCA hl rfl agg57 hC (by repeat (first | exact find_head | apply find_tail)) (by first | exact hrow1 | exact hrow2 | (simp only [List.getElem?_cons_zero, List.getElem?_cons_succ, Value.cells, List.take_zero, List.take_succ_cons, List.take_nil, List.drop_zero, List.drop_succ_cons, List.drop_nil, List.length_cons, List.length_nil, List.cons_append, List.nil_append, List.append_nil, Nat.zero_add, Nat.add_zero, Nat.reduceAdd, Nat.reduceBEq, Nat.reduceEqDiff, Nat.ble, BEq.rfl, Bool.and_true, Bool.and_self, cond_true, beq_self_eq_true]; rfl)) (by first | rfl | (simp; done))) rfl ?_
        clear hl a; intro a hl
        refine d_takeL (i := 10) hl rfl (by kernel_rfl) (by kernel_rfl) (by kernel_rfl) (by kernel_rfl) (by kernel_rfl) rfl trivial (fun _ _ _ h => h) (fun w => r_neqA hl rfl rfl eqf57 shp57 (by simp only [unlitL, unlit]; rfl) (by simp only [unlitL, unlit]; rfl) (by first | exact ⟨trivial⟩ | (refine ⟨?_⟩; simp [LitsOk, litOk, Fits]; done) | (refine ⟨?_⟩; simp [LitsOk, litOk, Fits]; omega)) (by first | exact ⟨trivial⟩ | (refine ⟨?_⟩; simp [LitsOk, litOk, Fits]; done) | (refine ⟨?_⟩; simp [LitsOk, litOk, Fits]; omega))) rfl ?_
        clear hl a; intro a hl
        refine d_done (by kernel_rfl) ?_
        try clear hM
        have hl2 := hl.add (t := 2) (hl.add (t := 3) (hl.add (t := 22) (hl.add (t := 23) (hl.add (t := 36) (hl.nil) rfl) rfl) rfl) rfl) rfl; clear hl; have hl := hl2; clear hl2
        refine then_normal ?_
        refine c_cond hl rfl ?_ ?_
        · intro hc2
          try simp only [decide_eq_true_eq, decide_eq_false_iff_not, Bool.not_eq_true', Bool.not_eq_false', Bool.not_eq_true, Bool.not_eq_false, Bool.and_eq_true, Bool.or_eq_true, Bool.and_eq_false_iff, Bool.or_eq_false_iff, Bool.not_not, ne_eq, Int.not_lt, Int.not_le, Decidable.not_not, beq_iff_eq, bne_iff_ne] at hc2
          exfalso; simp [eqLits, litBeq] at hc2
        · intro hc2
          try simp only [decide_eq_true_eq, decide_eq_false_iff_not, Bool.not_eq_true', Bool.not_eq_false', Bool.not_eq_true, Bool.not_eq_false, Bool.and_eq_true, Bool.or_eq_true, Bool.and_eq_false_iff, Bool.or_eq_false_iff, Bool.not_not, ne_eq, Int.not_lt, Int.not_le, Decidable.not_not, beq_iff_eq, bne_iff_ne] at hc2
          refine wp_skip ?_
          refine blk_normal ?_
          refine then_normal ?_
          refine c_region ?_
          first | refine wl (wl_val hl rfl trivial (r_add hl rfl rfl (by simp only [Fits]; omega)) ?_) | refine wl (wl_val hl rfl trivial (r_addW hl rfl rfl) ?_)
          clear hl a; intro a hl
          refine wl (wl_val hl rfl trivial (r_move hl rfl) ?_)
          clear hl a; intro a hl
          refine w_nil ?_
          have hl2 := hl.add (t := 2) (hl.add (t := 3) (hl.add (t := 22) (hl.add (t := 23) (hl.nil) rfl) rfl) rfl) rfl; clear hl; have hl := hl2; clear hl2
          refine then_normal ?_
          refine ⟨i + 1, (by omega), (by omega), hl.addE (t := 23) (hl.addE (t := 2) (hl.addE (t := 3) (hl.addE (t := 22) (hl.nil) rfl (by first | rfl | rfl)) rfl (by first | rfl | rfl)) rfl (by first | rfl | rfl)) rfl (by first | rfl | rfl), hh.keep (by repeat (first | exact keeps_nil | apply keeps_cons (by repeat (first | exact find_head | apply find_tail)) (by first  | rfl) | exact keeps_self | exact keeps_left | exact keeps_right | exact keeps_swap | apply keeps_mv))⟩
      · intro hc1
        try simp only [decide_eq_true_eq, decide_eq_false_iff_not, Bool.not_eq_true', Bool.not_eq_false', Bool.not_eq_true, Bool.not_eq_false, Bool.and_eq_true, Bool.or_eq_true, Bool.and_eq_false_iff, Bool.or_eq_false_iff, Bool.not_not, ne_eq, Int.not_lt, Int.not_le, Decidable.not_not, beq_iff_eq, bne_iff_ne] at hc1
        refine wp_exit ?_
        refine then_exit ?_
        refine then_exit ?_
        refine blk_exit ?_
        refine then_normal ?_
        refine c_seq ?_
        refine c_region ?_
        refine wl (wl_val hl rfl trivial (r_assign hl rfl) ?_)
        clear hl a; intro a hl
        refine w_nil ?_
        have hl2 := hl.add (t := 4) (hl.nil) rfl; clear hl; have hl := hl2; clear hl2
        refine then_normal ?_
        refine wp_ret ?_
        refine f_ret1 (F' := []) hl hh rfl rfl (by repeat (first | exact keeps_nil | apply keeps_cons (by repeat (first | exact find_head | apply find_tail)) (by first  | rfl) | exact keeps_self | exact keeps_left | exact keeps_right | exact keeps_swap | apply keeps_mv)) ?_
        exact ⟨rfl, rfl⟩

set_option maxHeartbeats 1000000 in
theorem sameBytes_ro (p1 p2 : Option Addr) (n cap1 cap2 : Nat) (tx : List Int) (E1 E2 : List (Nat × Obj)) (hn : n = tx.length) (hR1 : Row (.slice p1 n cap1) n (iv8 tx) 1 5 E1) (hR2 : Row (.slice p2 n cap2) n (iv8 tx) 1 5 E2) : SpK Try.prog 15 #[.slice p1 n cap1, .slice p2 n cap2] (fun w => Mem E1 w ∧ Mem E2 w) [] (fun u F' => u = .bool true ∧ F' = []) := by
  refine f_enter (args := [.slice p1 n cap1, .slice p2 n cap2]) Try.func15 rfl Try.ntmps15 rfl ?_
  intro w0 w a hpre hl hh
  have hr1 := row_rd hn hR1 hpre.1; have hr2 := row_rd hn hR2 hpre.2
  simp only [slotsFrom, Nat.reduceAdd] at hl
  refine c_seq ?_
  refine c_region ?_
  refine wl (wl_val hl rfl trivial (r_assign hl rfl) ?_)
  clear hl a; intro a hl
  refine w_nil ?_
  have hl2 := hl.add (t := 0) (hl.add (t := 1) (hl.nil) rfl) rfl; clear hl; have hl := hl2; clear hl2
  refine then_normal ?_
  refine c_seq ?_
  refine c_region ?_
  refine wl (wl_val hl rfl trivial (r_move hl rfl) ?_)
  clear hl a; intro a hl
  refine wl (wl_val hl rfl trivial (r_bytesToString (cs := iv8 tx) hl Try.underlying41 Try.underlying9 Try.underlying5 rfl (by first | exact Rd.keep hh hr1 | exact Rd.keep hh hr2) (iv8_bytes _)) ?_)
  clear hl a; intro a hl
  refine wl (wl_val hl rfl trivial (r_move hl rfl) ?_)
  clear hl a; intro a hl
  refine wl (wl_val hl rfl trivial (r_bytesToString (cs := iv8 tx) hl Try.underlying41 Try.underlying9 Try.underlying5 rfl (by first | exact Rd.keep hh hr1 | exact Rd.keep hh hr2) (iv8_bytes _)) ?_)
  clear hl a; intro a hl
  refine wl (wl_val hl rfl trivial (r_eql_string hl rfl rfl) ?_)
  clear hl a; intro a hl
  refine wl (wl_val hl rfl trivial (r_assign hl rfl) ?_)
  clear hl a; intro a hl
  refine w_nil ?_
  have hl2 := hl.add (t := 4) (hl.nil) rfl; clear hl; have hl := hl2; clear hl2
  refine then_normal ?_
  refine wp_ret ?_
  refine f_ret1 (F' := []) hl hh rfl rfl (by repeat (first | exact keeps_nil | apply keeps_cons (by repeat (first | exact find_head | apply find_tail)) (by first  | rfl) | exact keeps_self | exact keeps_left | exact keeps_right | exact keeps_swap | apply keeps_mv)) ?_
  exact ⟨by simp, rfl⟩
end Go.Proofs.Qxb6500907a

import Derived.Test.Qxb6500909aDoorA4
import Derived.Test.Qxb6500909aDoorByt
namespace Go.Proofs.Qxb6500909aDoor
open Go.Eng
set_option linter.unusedVariables false
set_option linter.unusedSimpArgs false
theorem slcT29 : slcT Tryd.prog 29 = true := by kernel_rfl
theorem cal61 : callable Tryd.prog 61 = true := by kernel_rfl
theorem all_take {l : List Value} (h : l.all (·.oneCell') = true) (n : Nat) : (l.take n).all (·.oneCell') = true := by
  rw [List.all_eq_true] at *
  intro v hv
  exact h v (List.mem_of_mem_take hv)
theorem decode_spec (k1 kb n cap ep sq ln kd : Nat) (cells : List Value) (dat : Nat → Int) (hB : Buf cells ep sq ln kd dat) (hep : ep < 4294967296) (hsq : sq < 18446744073709551616) (hln : ln ≤ 81880) (hkd : kd = 1 ∨ kd = 2) (hn1 : secN ln * 64 ≤ n) (hn : n ≤ cap) (hb : n ≤ 1000000) (av : Nat) (hav : secN ln ≤ av) (hav2 : av ≤ 1000000) :
    Sp Tryd.prog 61 #[.func (.func 60) #[] #[.pointer (some ⟨k1, 0, none⟩)], .int .i64 (av : Int)] [(k1, C [.slice (some ⟨kb, 0, none⟩) n cap] 29), (kb, C cells 5)] (fun u F' => ∃ dv E, Row dv ln (datL dat ln) 1 5 E ∧ u = .tuple #[.agg ⟨[.int .u32 (ep : Int), .int .u64 (sq : Int), .int .u8 (kd : Int), dv]⟩, .int .i64 ((secN ln : Nat) : Int), .nilIface] ∧ F' = [(k1, C [.slice (some ⟨kb, 0, none⟩) n cap] 29), (kb, C cells 5)] ++ E) := by
  by_cases h0 : ln = 0
  · exact decode0_spec av k1 kb n cap ep sq ln kd cells dat hB hep hsq hln hkd hn1 hn hb h0 (by have := secN_pos ln; omega) hav2
  · exact decodeN_spec av k1 kb n cap ep sq ln kd cells dat hB hep hsq hln hkd hn1 hn hb (by omega) hav hav2
theorem has_mid2 {D : List Nat} {w0 w : World} {x y z : Nat × Obj} {E : List (Nat × Obj)} (h : Has D w0 (x :: y :: (E ++ [z])) w) : Has D w0 (x :: y :: z :: E) w := h.perm (List.Perm.cons _ (List.Perm.cons _ List.perm_append_comm))
/-- a contract that gives a block back as it was only reads it -/
theorem sp_borrow {P : Program} {f : FuncId} {args : Array Value} {Sc : List (Nat × Obj)} {R R' : Value → List (Nat × Obj) → Prop} (h : Sp P f args Sc R) (hr : ∀ v F', R v F' → ∃ F1, F'.Perm (F1 ++ Sc) ∧ R' v F1) :
    SpK P f args (fun w => Mem Sc w ∧ (Sc.map Prod.fst).Nodup) [] R' := by
  intro w hp _ _
  refine (h w trivial hp.1 hp.2).mono fun e w' hq => ?_
  cases e with
  | returned v =>
    obtain ⟨F', hR, hh0⟩ := hq
    obtain ⟨F1, hpm, hR'⟩ := hr v F' hR
    have hh := hh0.perm hpm
    have hnd := hh.nodup
    rw [List.map_append, List.nodup_append] at hnd
    refine ⟨F1, hR', ⟨⟨hh.frm.os, hh.frm.tape, hh.frm.output, hh.frm.size, fun b hb _ => ?_⟩, fun b o m => hh.mem b o (List.mem_append_left _ m), hnd.1, fun b o m => ?_⟩⟩
    · by_cases hm : b ∈ Sc.map Prod.fst
      · obtain ⟨⟨b', o⟩, hbo, rfl⟩ := List.mem_map.1 hm
        rw [hh.mem _ _ (List.mem_append_right _ hbo), hp.1 _ _ hbo]
      · exact hh.frm.block b hb hm
    · rcases hh.own b o (List.mem_append_left _ m) with h1 | h1
      · exact absurd rfl (hnd.2.2 b (List.mem_map.2 ⟨_, m, rfl⟩) b h1)
      · exact .inr h1
  | _ => exact hq


set_option maxHeartbeats 1000000 in
theorem equal_spec (p1 p2 : Option Addr) (m c1 c2 : Nat) (cs : List Value) (hb : ∀ v, v ∈ cs → ∃ x : Int, v = .int .u8 x) : SpK Tryd.prog 36 #[.slice p1 m c1, .slice p2 m c2] (fun w => Rd p1 m cs w ∧ Rd p2 m cs w) [] (fun u F' => u = .bool true ∧ F' = []) := by
  refine f_enter (args := [.slice p1 m c1, .slice p2 m c2]) Tryd.func36 rfl Tryd.ntmps36 rfl ?_
  intro w0 w a hpre hl hh
  simp only [slotsFrom, Nat.reduceAdd] at hl
  refine c_seq ?_
  refine c_region ?_
  refine wl (wl_val hl rfl trivial (r_assign hl rfl) ?_)
  clear hl a; intro a hl
  refine w_nil ?_
  have hl2 := hl.add (t := 0) (hl.add (t := 1) (hl.nil) rfl) rfl; clear hl; have hl := hl2; clear hl2
  refine then_normal ?_
  refine c_seq ?_
  refine c_region ?_
  refine wl (wl_val hl rfl trivial (r_move hl rfl) ?_)
  clear hl a; intro a hl
  refine wl (wl_val hl rfl trivial (r_bytesToString hl Tryd.underlying29 Tryd.underlying9 Tryd.underlying5 rfl (Rd.keep hh hpre.1) hb) ?_)
  clear hl a; intro a hl
  refine wl (wl_val hl rfl trivial (r_move hl rfl) ?_)
  clear hl a; intro a hl
  refine wl (wl_val hl rfl trivial (r_bytesToString hl Tryd.underlying29 Tryd.underlying9 Tryd.underlying5 rfl (Rd.keep hh hpre.2) hb) ?_)
  clear hl a; intro a hl
  refine wl (wl_val hl rfl trivial (r_eql_string hl rfl rfl) ?_)
  clear hl a; intro a hl
  refine wl (wl_val hl rfl trivial (r_assign hl rfl) ?_)
  clear hl a; intro a hl
  refine w_nil ?_
  have hl2 := hl.add (t := 4) (hl.nil) rfl; clear hl; have hl := hl2; clear hl2
  refine then_normal ?_
  refine wp_ret ?_
  refine f_ret1 (F' := []) hl hh rfl rfl (by repeat (first | exact keeps_nil | apply keeps_cons (by repeat (first | exact find_head | apply find_tail)) (by first  | rfl) | exact keeps_self | apply keeps_mv)) ?_
  exact ⟨by simp, rfl⟩

set_option maxHeartbeats 1000000 in
theorem clone_spec (kb n cap : Nat) (cells : List Value) (h1 : n ≤ cells.length) (h0 : 0 < n) (hm : n ≤ 1000000) (hone : (cells.take n).all (·.oneCell') = true) : Sp Tryd.prog 40 #[.slice (some ⟨kb, 0, none⟩) n cap] [(kb, C cells 5)] (fun u F' => ∃ E, Row u n (cells.take n) 1 5 E ∧ F' = [(kb, C cells 5)] ++ E) := by
  refine f_enter (args := [.slice (some ⟨kb, 0, none⟩) n cap]) Tryd.func40 rfl Tryd.ntmps40 rfl ?_
  intro w0 w a hpre hl hh
  simp only [slotsFrom, Nat.reduceAdd] at hl
  refine c_seq ?_
  refine c_region ?_
  refine wl (wl_val hl rfl trivial (r_assign hl rfl) ?_)
  clear hl a; intro a hl
  refine w_nil ?_
  have hl2 := hl.add (t := 0) (hl.nil) rfl; clear hl; have hl := hl2; clear hl2
  refine then_normal ?_
  refine c_seq ?_
  refine c_seq ?_
  refine c_region ?_
  refine wl (wl_val hl rfl trivial (r_move hl rfl) ?_)
  clear hl a; intro a hl
  refine wl (wl_val hl rfl trivial (r_eql_slcN hl rfl rfl slcT29) ?_)
  clear hl a; intro a hl
  refine w_nil ?_
  have hl2 := hl.add (t := 0) (hl.add (t := 4) (hl.nil) rfl) rfl; clear hl; have hl := hl2; clear hl2
  refine then_normal ?_
  refine c_cond hl rfl ?_ ?_
  · intro hc0
    try simp only [decide_eq_true_eq, decide_eq_false_iff_not, Bool.not_eq_true', Bool.not_eq_false', Bool.not_eq_true, Bool.not_eq_false, Bool.and_eq_true, Bool.or_eq_true, Bool.and_eq_false_iff, Bool.or_eq_false_iff, Bool.not_not, ne_eq, Int.not_lt, Int.not_le, Decidable.not_not, beq_iff_eq, bne_iff_ne] at hc0
    exfalso; (simp at hc0; done)
  · intro hc0
    try simp only [decide_eq_true_eq, decide_eq_false_iff_not, Bool.not_eq_true', Bool.not_eq_false', Bool.not_eq_true, Bool.not_eq_false, Bool.and_eq_true, Bool.or_eq_true, Bool.and_eq_false_iff, Bool.or_eq_false_iff, Bool.not_not, ne_eq, Int.not_lt, Int.not_le, Decidable.not_not, beq_iff_eq, bne_iff_ne] at hc0
    refine wp_skip ?_
    refine then_normal ?_
    refine c_seq ?_
    refine c_region ?_
    refine wl (w_buildSlice0 hl hh rfl trivial app29 ?_)
    clear hl hh a w; intro k5 a w hl hh
    refine wl (wl_val hl rfl trivial (r_move hl rfl) ?_)
    clear hl a; intro a hl
    refine wl (w_append (news := (cells.take n)) hl hh rfl trivial app29 rfl rfl rfl (show Row (.slice (some ⟨k5, 0, none⟩) 0 0) 0 [] 1 5 [(k5, C [] 5)] from .inr ⟨k5, 0, [], rfl, rfl, rfl, Nat.zero_le _, rfl⟩) (by repeat (first | exact keeps_nil | apply keeps_cons (by repeat (first | exact find_head | apply find_tail)) (by first  | rfl) | exact keeps_self | exact keeps_left | exact keeps_right | exact keeps_swap | apply keeps_mv)) (hh.mem _ _ (Find.mem (by repeat (first | exact find_head | apply find_tail)))) (by rw [List.drop_zero, List.length_take, Nat.min_eq_left h1]) (by rw [List.length_take]; omega) hone (by omega) (by omega) (by omega) (by decide) ?_)
    clear hl hh a w; intro rv2 E2 a w hR2 hl hh
    have hh3 := hh.comm; clear hh; have hh := hh3; clear hh3
    simp only [List.cons_append, List.nil_append] at hh
    refine wl (wl_val hl rfl trivial (r_assign hl rfl) ?_)
    clear hl a; intro a hl
    refine w_nil ?_
    have hl2 := hl.add (t := 2) (hl.nil) rfl; clear hl; have hl := hl2; clear hl2
    refine then_normal ?_
    refine wp_ret ?_
    refine f_ret1 (F' := [(kb, C cells 5)] ++ E2) hl hh rfl rfl (by repeat (first | exact keeps_nil | apply keeps_cons (by repeat (first | exact find_head | apply find_tail)) (by first  | rfl) | exact keeps_self | exact keeps_left | exact keeps_right | exact keeps_swap | apply keeps_mv)) ?_
    exact ⟨E2, by simpa using hR2, rfl⟩

set_option maxHeartbeats 4000000 in
theorem dec_spec (kb n cap ep sq ln kd : Nat) (cells : List Value) (dat : Nat → Int) (hB : Buf cells ep sq ln kd dat) (hep : ep < 4294967296) (hsq : sq < 18446744073709551616) (hln : ln ≤ 81880) (hkd : kd = 1 ∨ kd = 2) (hn1 : secN ln * 64 ≤ n) (hn : n ≤ cap) (hb : n ≤ 1000000) : Sp Tryd.prog 41 #[.slice (some ⟨kb, 0, none⟩) n cap] [(kb, C cells 5)] (fun u F' => ∃ dv E, Row dv ln (datL dat ln) 1 5 E ∧ u = .tuple #[.agg ⟨[.int .u32 (ep : Int), .int .u64 (sq : Int), .int .u8 (kd : Int), dv]⟩, .int .i64 ((secN ln * 64 : Nat) : Int), .nilIface] ∧ F' = [(kb, C cells 5)] ++ E) := by
  refine f_enter (args := [.slice (some ⟨kb, 0, none⟩) n cap]) Tryd.func41 rfl Tryd.ntmps41 rfl ?_
  intro w0 w a hpre hl hh
  have hsp := secN_pos ln; have hsl := secN_le ln
  simp only [slotsFrom, Nat.reduceAdd] at hl
  refine c_seq ?_
  refine c_region ?_
  refine wl (w_box hl hh rfl trivial rfl rfl ?_)
  clear hl hh a w; intro k1 a w hl hh
  refine wl (w_alloc hl hh rfl trivial zero60 rfl ?_)
  clear hl hh a w; intro k2 a w hl hh
  refine wl (wl_val hl rfl trivial (r_assign hl rfl) ?_)
  clear hl a; intro a hl
  refine wl (wl_val hl rfl trivial (r_assign hl rfl) ?_)
  clear hl a; intro a hl
  refine w_nil ?_
  have hl2 := hl.add (t := 1) (hl.add (t := 2) (hl.nil) rfl) rfl; clear hl; have hl := hl2; clear hl2
  refine then_normal ?_
  refine c_seq ?_
  refine c_region ?_
  refine wl (wl_val hl rfl trivial (r_makeFunc hl rfl) ?_)
  clear hl a; intro a hl
  refine wl (wl_val hl rfl trivial (r_assign hl rfl) ?_)
  clear hl a; intro a hl
  refine w_nil ?_
  have hl2 := hl.add (t := 1) (hl.add (t := 2) (hl.add (t := 5) (hl.nil) rfl) rfl) rfl; clear hl; have hl := hl2; clear hl2
  refine then_normal ?_
  refine c_seq ?_
  refine c_region ?_
  refine wl (wl_val hl rfl trivial (r_move hl rfl) ?_)
  clear hl a; intro a hl
  refine wl (w_load hl hh rfl trivial one29 rfl (by repeat (first | exact find_head | apply find_tail)) (by first | rfl) ?_)
  clear hl a; intro a hl
  refine wl (wl_val hl rfl trivial (r_lenS hl rfl slc29) ?_)
  clear hl a; intro a hl
  first | refine wl (wl_val hl rfl trivial (r_quo hl rfl rfl (by omega) (by omega) (by simp only [Fits]; omega)) ?_) | refine wl (wl_val hl rfl trivial (r_quoT hl rfl rfl (by omega)) ?_)
  clear hl a; intro a hl
  refine wl (w_call hl hh rfl trivial rfl cal61 rfl (decode_spec k1 kb n cap ep sq ln kd cells dat hB hep hsq hln hkd hn1 hn hb (n / 64) (by omega) (by omega)) (by repeat (first | exact keeps_nil | apply keeps_cons (by repeat (first | exact find_head | apply find_tail)) (by first  | rfl) | exact keeps_self | exact keeps_left | exact keeps_right | exact keeps_swap | apply keeps_mv)) trivial ?_)
  clear hl hh a w; intro vc Fc a w hR hl hh
  obtain ⟨dv, E, hrow, rfl, rfl⟩ := hR
  try simp only [List.cons_append, List.nil_append] at hh
  obtain ⟨dp, dc, hdv⟩ := row_val4 hrow
  subst hdv
  replace hh := has_mid2 hh
  refine wl (wl_val hl rfl trivial (r_move hl rfl) ?_)
  clear hl a; intro a hl
  refine wl (wl_val hl rfl trivial (r_extract hl rfl (by simp only [List.getElem?_toArray, List.getElem?_cons_zero, List.getElem?_cons_succ]; rfl)) ?_)
  clear hl a; intro a hl
  refine wl (wl_val hl rfl trivial (r_extract hl rfl (by simp only [List.getElem?_toArray, List.getElem?_cons_zero, List.getElem?_cons_succ]; rfl)) ?_)
  clear hl a; intro a hl
  refine wl (wl_val hl rfl trivial (r_extract hl rfl (by simp only [List.getElem?_toArray, List.getElem?_cons_zero, List.getElem?_cons_succ]; rfl)) ?_)
  clear hl a; intro a hl
  refine wl (w_alloc hl hh rfl trivial zero60 rfl ?_)
  clear hl hh a w; intro k6 a w hl hh
  refine wl (w_storeA hl hh trivial agg60 rfl rfl (by repeat (first | exact find_head | apply find_tail)) (by first | rfl | (simp; done)) (by first | (simp; done) | (simp; omega)) (by first | rfl | (simp; done)) (by first | (simp only [setL, List.getElem?_cons_zero, List.getElem?_cons_succ, Value.cells, List.take_zero, List.take_succ_cons, List.take_nil, List.drop_zero, List.drop_succ_cons, List.drop_nil, List.length_cons, List.length_nil, List.cons_append, List.nil_append, List.append_nil, Nat.zero_add, Nat.add_zero, Nat.reduceAdd, Nat.reduceBEq, Nat.reduceEqDiff, Nat.ble, BEq.rfl, Bool.and_true, Bool.and_self, cond_true, beq_self_eq_true]; rfl)) ?_)
  clear hh w; intro w hh
  refine wl (wl_val hl rfl trivial (r_assign hl rfl) ?_)
  clear hl a; intro a hl
  refine wl (wl_val hl rfl trivial (r_assign hl rfl) ?_)
  clear hl a; intro a hl
  refine w_nil ?_
  have hl2 := hl.add (t := 2) (hl.add (t := 6) (hl.add (t := 7) (hl.add (t := 8) (hl.nil) rfl) rfl) rfl) rfl; clear hl; have hl := hl2; clear hl2
  refine then_normal ?_
  refine c_seq ?_
  refine c_region ?_
  refine wl (w_loadA hl hh rfl trivial agg60 rfl (by repeat (first | exact find_head | apply find_tail)) (by first | (simp only [List.getElem?_cons_zero, List.getElem?_cons_succ, Value.cells, List.take_zero, List.take_succ_cons, List.take_nil, List.drop_zero, List.drop_succ_cons, List.drop_nil, List.length_cons, List.length_nil, List.cons_append, List.nil_append, List.append_nil, Nat.zero_add, Nat.add_zero, Nat.reduceAdd, Nat.reduceBEq, Nat.reduceEqDiff, Nat.ble, BEq.rfl, Bool.and_true, Bool.and_self, cond_true, beq_self_eq_true]; rfl)) (by first | rfl | (simp; done)) ?_)
  clear hl a; intro a hl
  refine wl (wl_val hl rfl trivial (r_move hl rfl) ?_)
  clear hl a; intro a hl
  first | refine wl (wl_val hl rfl trivial (r_mul hl rfl rfl (by simp only [Fits]; omega)) ?_) | refine wl (wl_val hl rfl trivial (r_mulW hl rfl rfl) ?_)
  clear hl a; intro a hl
  refine wl (wl_val hl rfl trivial (r_move hl rfl) ?_)
  clear hl a; intro a hl
  refine wl (w_storeA hl hh trivial agg60 rfl rfl (by repeat (first | exact find_head | apply find_tail)) (by first | rfl | (simp; done)) (by first | (simp; done) | (simp; omega)) (by first | rfl | (simp; done)) (by first | (simp only [setL, List.getElem?_cons_zero, List.getElem?_cons_succ, Value.cells, List.take_zero, List.take_succ_cons, List.take_nil, List.drop_zero, List.drop_succ_cons, List.drop_nil, List.length_cons, List.length_nil, List.cons_append, List.nil_append, List.append_nil, Nat.zero_add, Nat.add_zero, Nat.reduceAdd, Nat.reduceBEq, Nat.reduceEqDiff, Nat.ble, BEq.rfl, Bool.and_true, Bool.and_self, cond_true, beq_self_eq_true]; rfl)) ?_)
  clear hh w; intro w hh
  refine wl (wl_val hl rfl trivial (r_assign hl rfl) ?_)
  clear hl a; intro a hl
  refine wl (wl_val hl rfl trivial (r_assign hl rfl) ?_)
  clear hl a; intro a hl
  refine w_nil ?_
  have hl2 := hl.add (t := 2) (hl.add (t := 3) (hl.add (t := 4) (hl.nil) rfl) rfl) rfl; clear hl; have hl := hl2; clear hl2
  refine then_normal ?_
  refine wp_ret ?_
  refine f_retCTT (F' := [(kb, C cells 5)] ++ E) hl hh rfl rfl agg60 (by repeat (first | exact find_head | apply find_tail)) (by first | rfl | (simp; done)) rfl rfl (by repeat (first | exact keeps_nil | apply keeps_cons (by repeat (first | exact find_head | apply find_tail)) (by first  | rfl) | exact keeps_self | exact keeps_left | exact keeps_right | exact keeps_swap | apply keeps_mv)) ?_
  exact ⟨_, E, hrow, by simp, rfl⟩

theorem dec_ro (kb n cap ep sq ln kd : Nat) (cells : List Value) (dat : Nat → Int) (hB : Buf cells ep sq ln kd dat) (hep : ep < 4294967296) (hsq : sq < 18446744073709551616) (hln : ln ≤ 81880) (hkd : kd = 1 ∨ kd = 2) (hn1 : secN ln * 64 ≤ n) (hn : n ≤ cap) (hb : n ≤ 1000000) : SpK Tryd.prog 41 #[.slice (some ⟨kb, 0, none⟩) n cap] (fun w => w.heap[kb]? = some (C cells 5)) [] (fun u F' => ∃ dv, Row dv ln (datL dat ln) 1 5 F' ∧ u = .tuple #[.agg ⟨[.int .u32 (ep : Int), .int .u64 (sq : Int), .int .u8 (kd : Int), dv]⟩, .int .i64 ((secN ln * 64 : Nat) : Int), .nilIface]) := by
  intro w hp h1 h2
  refine sp_borrow (dec_spec kb n cap ep sq ln kd cells dat hB hep hsq hln hkd hn1 hn hb) (fun v F' h => ?_) w ⟨?_, by simp⟩ h1 h2
  · obtain ⟨dv, E, hr, hv, rfl⟩ := h
    exact ⟨E, List.perm_append_comm, dv, hr, hv⟩
  · intro b o m
    rw [List.mem_singleton] at m
    cases m; exact hp

end Go.Proofs.Qxb6500909aDoor

import Derived.Test.Qxb6500907aR21
import Derived.Test.Qxb6500907aN6
namespace Go.Proofs.Qxb6500907a
open Go.Eng
set_option linter.unusedVariables false
set_option linter.unusedSimpArgs false

set_option maxHeartbeats 8000000 in
theorem run_no (idv : Int) (rv av : Nat → Value) (P : Pl) (Z : List (Nat × Obj)) (hN : NetR rv av P Z) (hP : POk P) (p : Option Addr) (cap : Nat) (cs : List Ch) (Ec : List (Nat × Obj)) (hR : Row (.slice p cs.length cap) cs.length (chs cs) 12 57 Ec) (hEc : ∀ x, x ∈ Ec → x ∈ Z) (hok : ∀ c, c ∈ cs → c.ok) (hlen : cs.length ≤ 1000000) (hn : ¬ chk cs) : SpK Try.prog 41 #[.agg ⟨arrL 64 (nvF rv av P)⟩, .agg ⟨[.int .u32 idv, .slice p cs.length cap]⟩] (Mem Z) [] (fun u F' => ∃ (k : Nat) (code : Int), u = .tuple #[.agg ⟨arrL 64 (nvF rv av P)⟩, .slice none 0 0, .iface 77 (.pointer (some ⟨k, 0, none⟩))] ∧ F' = [(k, C [.int .u8 code, .int .i64 (illF cs)] 79)] ∧ 5 ≤ code ∧ code ≤ 12) := by
  refine f_enter (args := [.agg ⟨arrL 64 (nvF rv av P)⟩, .agg ⟨[.int .u32 idv, .slice p cs.length cap]⟩]) Try.func41 rfl Try.ntmps41 rfl ?_
  intro w0 w a hpre hl hh
  simp only [slotsFrom, Nat.reduceAdd] at hl
  refine c_seq ?_
  refine c_region ?_
  refine wl (w_box hl hh rfl trivial rfl rfl ?_)
  clear hl hh a w; intro k2 a w hl hh
  refine wl (w_box hl hh rfl trivial rfl rfl ?_)
  clear hl hh a w; intro k3 a w hl hh
  refine wl (w_alloc hl hh rfl trivial zero33 rfl ?_)
  clear hl hh a w; intro k4 a w hl hh
  refine wl (wl_val hl rfl trivial (r_assign hl rfl) ?_)
  clear hl a; intro a hl
  refine wl (wl_val hl rfl trivial (r_assign hl rfl) ?_)
  clear hl a; intro a hl
  refine w_nil ?_
  have hl2 := hl.add (t := 2) (hl.add (t := 3) (hl.add (t := 4) (hl.nil) rfl) rfl) rfl; clear hl; have hl := hl2; clear hl2
  refine then_normal ?_
  refine c_seq ?_
  refine c_seq ?_
  refine c_region ?_
  refine wl (w_loadA hl hh rfl trivial agg37 rfl (by repeat (first | exact find_head | apply find_tail)) (by first | (simp only [List.getElem?_cons_zero, List.getElem?_cons_succ, Value.cells, List.take_zero, List.take_succ_cons, List.take_nil, List.drop_zero, List.drop_succ_cons, List.drop_nil, List.length_cons, List.length_nil, List.cons_append, List.nil_append, List.append_nil, Nat.zero_add, Nat.add_zero, Nat.reduceAdd, Nat.reduceBEq, Nat.reduceEqDiff, Nat.ble, BEq.rfl, Bool.and_true, Bool.and_self, cond_true, beq_self_eq_true]; rfl)) (by first | rfl | (simp; done)) ?_)
  clear hl a; intro a hl
  refine wl (w_call hl hh rfl trivial rfl cal11 rfl (check_no idv p cap cs Ec hR hok hlen hn) (by repeat (first | exact keeps_nil | apply keeps_cons (by repeat (first | exact find_head | apply find_tail)) (by first  | rfl) | exact keeps_self | exact keeps_left | exact keeps_right | exact keeps_swap | apply keeps_mv)) (mem_keep hh (fun b o m => hpre b o (hEc _ m))) ?_)
  clear hl hh a w; intro vc Fc a w hR hl hh
  rcases hR with ⟨k, code, rfl, rfl, hc1, hc2⟩
  ·
    try simp only [List.cons_append, List.nil_append, List.append_nil] at hh
    refine wl (wl_val hl rfl trivial (r_assign hl rfl) ?_)
    clear hl a; intro a hl
    refine w_nil ?_
    have hl2 := hl.add (t := 2) (hl.add (t := 3) (hl.add (t := 4) (hl.add (t := 7) (hl.nil) rfl) rfl) rfl) rfl; clear hl; have hl := hl2; clear hl2
    refine then_normal ?_
    refine c_seq ?_
    refine c_region ?_
    refine wl (wl_val hl rfl trivial (r_move hl rfl) ?_)
    clear hl a; intro a hl
    first | refine wl (wl_val hl rfl trivial (r_neq_ifcN hl rfl ifc39) ?_) | refine wl (wl_val hl rfl trivial (r_neq_ifcS hl rfl ifc39) ?_)
    clear hl a; intro a hl
    refine w_nil ?_
    have hl2 := hl.add (t := 2) (hl.add (t := 3) (hl.add (t := 4) (hl.add (t := 7) (hl.add (t := 17) (hl.nil) rfl) rfl) rfl) rfl) rfl; clear hl; have hl := hl2; clear hl2
    refine then_normal ?_
    refine c_condT hl rfl ?_
    refine c_seq ?_
    refine c_region ?_
    refine wl (w_loadA hl hh rfl trivial agg33 rfl (by repeat (first | exact find_head | apply find_tail)) (by first | exact whole _ _ | exact ed_take _ _ _ _) (by rw [arrL_length]) ?_)
    clear hl a; intro a hl
    refine wl (wl_val hl rfl trivial (r_move hl rfl) ?_)
    clear hl a; intro a hl
    refine wl (w_storeA hl hh trivial agg33 rfl rfl (by repeat (first | exact find_head | apply find_tail)) (by rw [arrL_length]) (by rw [arrL_length]; omega) (by first | exact nv_one (by assumption) | exact nv_one hN.one | exact nv_one hI.ed.one) (by exact setw _ _ _) ?_)
    clear hh w; intro w hh
    refine wl (wl_val hl rfl trivial (r_assign hl rfl) ?_)
    clear hl a; intro a hl
    refine wl (wl_val hl rfl trivial (r_assign hl rfl) ?_)
    clear hl a; intro a hl
    refine w_nil ?_
    have hl2 := hl.add (t := 4) (hl.add (t := 5) (hl.add (t := 6) (hl.nil) rfl) rfl) rfl; clear hl; have hl := hl2; clear hl2
    refine then_normal ?_
    refine wp_ret ?_
    refine then_ret ?_
    refine f_retCTT (F' := [(k, C [.int .u8 code, .int .i64 (illF cs)] 79)]) hl hh rfl rfl agg33 (by repeat (first | exact find_head | apply find_tail)) (by first | rfl | exact arrL_length _ _ | (simp; done)) rfl rfl (by repeat (first | exact keeps_nil | apply keeps_cons (by repeat (first | exact find_head | apply find_tail)) (by first  | rfl) | exact keeps_self | exact keeps_left | exact keeps_right | exact keeps_swap | apply keeps_mv)) ?_
    exact ⟨k, code, rfl, rfl, hc1, hc2⟩

set_option maxHeartbeats 4000000 in
theorem apply_no (idv : Int) (rv av : Nat → Value) (P : Pl) (Z : List (Nat × Obj)) (hN : NetR rv av P Z) (hP : POk P) (p : Option Addr) (cap : Nat) (cs : List Ch) (Ec : List (Nat × Obj)) (hR : Row (.slice p cs.length cap) cs.length (chs cs) 12 57 Ec) (hEc : ∀ x, x ∈ Ec → x ∈ Z) (hok : ∀ c, c ∈ cs → c.ok) (hlen : cs.length ≤ 1000000) (hn : ¬ chk cs) : SpK Try.prog 18 #[.agg ⟨arrL 64 (nvF rv av P)⟩, .agg ⟨[.int .u32 idv, .slice p cs.length cap]⟩] (Mem Z) [] (fun u F' => ∃ (k : Nat) (code : Int), u = .tuple #[.agg ⟨arrL 64 (nvF rv av P)⟩, .iface 77 (.pointer (some ⟨k, 0, none⟩))] ∧ F' = [(k, C [.int .u8 code, .int .i64 (illF cs)] 79)] ∧ 5 ≤ code ∧ code ≤ 12) := by
  refine f_enter (args := [.agg ⟨arrL 64 (nvF rv av P)⟩, .agg ⟨[.int .u32 idv, .slice p cs.length cap]⟩]) Try.func18 rfl Try.ntmps18 rfl ?_
  intro w0 w a hpre hl hh
  simp only [slotsFrom, Nat.reduceAdd] at hl
  refine c_seq ?_
  refine c_region ?_
  refine wl (w_box hl hh rfl trivial rfl rfl ?_)
  clear hl hh a w; intro k2 a w hl hh
  refine wl (w_box hl hh rfl trivial rfl rfl ?_)
  clear hl hh a w; intro k3 a w hl hh
  refine wl (w_alloc hl hh rfl trivial zero33 rfl ?_)
  clear hl hh a w; intro k4 a w hl hh
  refine wl (wl_val hl rfl trivial (r_assign hl rfl) ?_)
  clear hl a; intro a hl
  refine w_nil ?_
  have hl2 := hl.add (t := 2) (hl.add (t := 3) (hl.add (t := 4) (hl.nil) rfl) rfl) rfl; clear hl; have hl := hl2; clear hl2
  refine then_normal ?_
  refine c_seq ?_
  refine c_region ?_
  refine wl (w_loadA hl hh rfl trivial agg33 rfl (by repeat (first | exact find_head | apply find_tail)) (by first | exact whole _ _ | exact ed_take _ _ _ _) (by rw [arrL_length]) ?_)
  clear hl a; intro a hl
  refine wl (w_loadA hl hh rfl trivial agg37 rfl (by repeat (first | exact find_head | apply find_tail)) (by first | (simp only [List.getElem?_cons_zero, List.getElem?_cons_succ, Value.cells, List.take_zero, List.take_succ_cons, List.take_nil, List.drop_zero, List.drop_succ_cons, List.drop_nil, List.length_cons, List.length_nil, List.cons_append, List.nil_append, List.append_nil, Nat.zero_add, Nat.add_zero, Nat.reduceAdd, Nat.reduceBEq, Nat.reduceEqDiff, Nat.ble, BEq.rfl, Bool.and_true, Bool.and_self, cond_true, beq_self_eq_true]; rfl)) (by first | rfl | (simp; done)) ?_)
  clear hl a; intro a hl
  refine wl (w_call hl hh rfl trivial rfl cal41 rfl (run_no idv rv av P Z hN hP p cap cs Ec hR hEc hok hlen hn) (by repeat (first | exact keeps_nil | apply keeps_cons (by repeat (first | exact find_head | apply find_tail)) (by first  | rfl) | exact keeps_self | exact keeps_left | exact keeps_right | exact keeps_swap | apply keeps_mv)) (mem_keep hh hpre) ?_)
  clear hl hh a w; intro vc Fc a w hR hl hh
  obtain ⟨k, code, rfl, rfl, hc1, hc2⟩ := hR
  try simp only [List.cons_append, List.nil_append] at hh
  have honeN := hN.one
  refine wl (wl_val hl rfl trivial (r_move hl rfl) ?_)
  clear hl a; intro a hl
  refine wl (wl_val hl rfl trivial (r_extract hl rfl (by simp only [List.getElem?_toArray, List.getElem?_cons_zero, List.getElem?_cons_succ]; rfl)) ?_)
  clear hl a; intro a hl
  refine wl (wl_val hl rfl trivial (r_extract hl rfl (by simp only [List.getElem?_toArray, List.getElem?_cons_zero, List.getElem?_cons_succ]; rfl)) ?_)
  clear hl a; intro a hl
  refine wl (wl_val hl rfl trivial (r_extract hl rfl (by simp only [List.getElem?_toArray, List.getElem?_cons_zero, List.getElem?_cons_succ]; rfl)) ?_)
  clear hl a; intro a hl
  refine wl (w_alloc hl hh rfl trivial zero33 rfl ?_)
  clear hl hh a w; intro k6 a w hl hh
  refine wl (w_storeA hl hh trivial agg33 rfl rfl (by repeat (first | exact find_head | apply find_tail)) (by rw [arrL_length]) (by rw [arrL_length]; omega) (by exact nv_one honeN) (by exact setw _ _ _) ?_)
  clear hh w; intro w hh
  refine wl (wl_val hl rfl trivial (r_assign hl rfl) ?_)
  clear hl a; intro a hl
  refine wl (wl_val hl rfl trivial (r_assign hl rfl) ?_)
  clear hl a; intro a hl
  refine w_nil ?_
  have hl2 := hl.add (t := 4) (hl.add (t := 6) (hl.add (t := 8) (hl.nil) rfl) rfl) rfl; clear hl; have hl := hl2; clear hl2
  refine then_normal ?_
  refine c_seq ?_
  refine c_region ?_
  refine wl (w_loadA hl hh rfl trivial agg33 rfl (by repeat (first | exact find_head | apply find_tail)) (by first | exact whole _ _ | exact ed_take _ _ _ _) (by rw [arrL_length]) ?_)
  clear hl a; intro a hl
  refine wl (wl_val hl rfl trivial (r_move hl rfl) ?_)
  clear hl a; intro a hl
  refine wl (w_storeA hl hh trivial agg33 rfl rfl (by repeat (first | exact find_head | apply find_tail)) (by rw [arrL_length]) (by rw [arrL_length]; omega) (by exact nv_one honeN) (by exact setw _ _ _) ?_)
  clear hh w; intro w hh
  refine wl (wl_val hl rfl trivial (r_assign hl rfl) ?_)
  clear hl a; intro a hl
  refine w_nil ?_
  have hl2 := hl.add (t := 4) (hl.add (t := 5) (hl.nil) rfl) rfl; clear hl; have hl := hl2; clear hl2
  refine then_normal ?_
  refine wp_ret ?_
  refine f_retCT (F' := [(k, C [.int .u8 code, .int .i64 (illF cs)] 79)]) hl hh rfl rfl agg33 (by repeat (first | exact find_head | apply find_tail)) (arrL_length _ _) rfl (by repeat (first | exact keeps_nil | apply keeps_cons (by repeat (first | exact find_head | apply find_tail)) (by first  | rfl) | exact keeps_self | exact keeps_left | exact keeps_right | exact keeps_swap | apply keeps_mv)) ?_; exact ⟨k, code, rfl, rfl, hc1, hc2⟩
end Go.Proofs.Qxb6500907a

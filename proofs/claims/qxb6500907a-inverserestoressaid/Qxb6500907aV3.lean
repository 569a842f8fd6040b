import Derived.Test.Qxb6500907aV2
import Derived.Test.Qxb6500907aN8
namespace Go.Proofs.Qxb6500907a
open Go.Eng
set_option linter.unusedVariables false
set_option linter.unusedSimpArgs false
theorem cal19 : callable Try.prog 19 = true := by kernel_rfl
theorem cal18 : callable Try.prog 18 = true := by kernel_rfl
theorem cal20 : callable Try.prog 20 = true := by kernel_rfl
theorem NetR.ext {rv av : Nat → Value} {P : Pl} {Z E : List (Nat × Obj)} (h : NetR rv av P Z) : NetR rv av P (Z ++ E) := h.mono fun x hx => List.mem_append_left _ hx
theorem NetR.ext2 {rv av : Nat → Value} {P : Pl} {Z E G : List (Nat × Obj)} (h : NetR rv av P (Z ++ E)) : NetR rv av P (Z ++ (E ++ G)) := by rw [← List.append_assoc]; exact h.ext
section oks
variable (idv : Int) (rv av : Nat → Value) (P : Pl) (Z : List (Nat × Obj)) (hN : NetR rv av P Z) (hP : POk P) (p : Option Addr) (cap : Nat) (cs : List Ch) (Ec : List (Nat × Obj)) (hR : Row (.slice p cs.length cap) cs.length (chs cs) 12 57 Ec) (hEc : ∀ x, x ∈ Ec → x ∈ Z) (hok : ∀ c, c ∈ cs → c.ok) (hlen : cs.length ≤ 1000000)
include hN hP hR hEc hok hlen
theorem apply_ok0 {P' : Pl} {us : List Ch} (hc : chk cs) (hs : steps P cs = (P', us, 0)) :
    SpK Try.prog 18 #[.agg ⟨arrL 64 (nvF rv av P)⟩, .agg ⟨[.int .u32 idv, .slice p cs.length cap]⟩] (Mem Z) [] (fun u F' => ∃ rv' av', POk P' ∧ NetR rv' av' P' (Z ++ F') ∧ u = .tuple #[.agg ⟨arrL 64 (nvF rv' av' P')⟩, .nilIface]) := by
  refine spK_post (apply_spec idv rv av P Z hN hP p cap cs Ec hR hEc hok hlen) (fun _ h => h) ?_
  rintro v F' (⟨P2, us2, rv', av', _, h1, h2, h3, h4⟩ | ⟨_, _, _, hb, _⟩)
  · have e := steps_fun h1 hs
    subst e
    exact ⟨F', [], ⟨rv', av', h2, h3, h4⟩, by simp⟩
  · exact (ok_not_bad hc hs hb).elim
theorem inverse_ok {P' : Pl} {us : List Ch} (hc : chk cs) (hs : steps P cs = (P', us, 0)) :
    SpK Try.prog 19 #[.agg ⟨arrL 64 (nvF rv av P)⟩, .agg ⟨[.int .u32 idv, .slice p cs.length cap]⟩] (Mem Z) [] (fun u F' => ∃ q c, us.length = cs.length ∧ (∀ c, c ∈ us → c.ok) ∧ Row (.slice q us.reverse.length c) us.reverse.length (chs us.reverse) 12 57 F' ∧ u = .tuple #[.agg ⟨[.int .u32 idv, .slice q us.reverse.length c]⟩, .nilIface]) := by
  refine spK_post (inverse_spec idv rv av P Z hN hP p cap cs Ec hR hEc hok hlen) (fun _ h => h) ?_
  rintro v F' (⟨P2, us2, uv, _, h1, h2, h3, h4, h5⟩ | ⟨_, _, _, hb, _⟩)
  · have e : us2 = us := by rw [hs] at h1; injection h1 with _ h1; injection h1 with h1 _; exact h1.symm
    subst e
    obtain ⟨q, c, rfl⟩ := row_val h4
    exact ⟨F', [], ⟨q, c, h2, h3, by rw [List.length_reverse]; exact h4, by rw [List.length_reverse]; exact h5⟩, by simp⟩
  · exact (ok_not_bad hc hs hb).elim
theorem apply_no (hno : ∀ P' us, chk cs → steps P cs = (P', us, 0) → False) :
    SpK Try.prog 18 #[.agg ⟨arrL 64 (nvF rv av P)⟩, .agg ⟨[.int .u32 idv, .slice p cs.length cap]⟩] (Mem Z) [] (fun u F' => ∃ k : Nat, u = .tuple #[.agg ⟨arrL 64 (nvF rv av P)⟩, .iface 77 (.pointer (some ⟨k, 0, none⟩))]) := by
  refine spK_post (apply_spec idv rv av P Z hN hP p cap cs Ec hR hEc hok hlen) (fun _ h => h) ?_
  rintro v F' (⟨P2, us2, rv', av', h0, h1, _⟩ | ⟨k, _, _, hb, h, _⟩)
  · exact (hno _ _ h0 h1).elim
  · exact ⟨F', [], ⟨k, h⟩, by simp⟩
theorem inverse_no (hno : ∀ P' us, chk cs → steps P cs = (P', us, 0) → False) :
    SpK Try.prog 19 #[.agg ⟨arrL 64 (nvF rv av P)⟩, .agg ⟨[.int .u32 idv, .slice p cs.length cap]⟩] (Mem Z) [] (fun u F' => ∃ k : Nat, u = .tuple #[.agg ⟨[.int .u32 0, .slice none 0 0]⟩, .iface 77 (.pointer (some ⟨k, 0, none⟩))]) := by
  refine spK_post (inverse_spec idv rv av P Z hN hP p cap cs Ec hR hEc hok hlen) (fun _ h => h) ?_
  rintro v F' (⟨P2, us2, uv, h0, h1, _⟩ | ⟨k, _, _, hb, h, _⟩)
  · exact (hno _ _ h0 h1).elim
  · exact ⟨F', [], ⟨k, h⟩, by simp⟩
end oks
theorem check_ok (idv : Int) (p : Option Addr) (cap : Nat) (cs : List Ch) (E : List (Nat × Obj)) (hR : Row (.slice p cs.length cap) cs.length (chs cs) 12 57 E) (hok : ∀ c, c ∈ cs → c.ok) (hlen : cs.length ≤ 1000000) (hc : chk cs) : SpK Try.prog 11 #[.agg ⟨[.int .u32 idv, .slice p cs.length cap]⟩] (Mem E) [] (fun u F' => u = .nilIface ∧ F' = []) := by
  refine spK_post (check_ro idv p cap cs E hR hok hlen) (fun _ h => h) ?_
  rintro v F' (⟨_, h1, h2⟩ | ⟨h, _⟩)
  · exact ⟨F', [], ⟨h1, h2⟩, by simp⟩
  · exact absurd hc h


set_option maxHeartbeats 4000000 in
theorem inv_each_no (idv : Int) (rv av : Nat → Value) (P : Pl) (Z : List (Nat × Obj)) (hN : NetR rv av P Z) (hP : POk P) (hW : WF P) (p : Option Addr) (cap : Nat) (cs : List Ch) (Ec : List (Nat × Obj)) (hR : Row (.slice p cs.length cap) cs.length (chs cs) 12 57 Ec) (hEc : ∀ x, x ∈ Ec → x ∈ Z) (hok : ∀ c, c ∈ cs → c.ok) (hlen : cs.length ≤ 1000000) (hno : ∀ P' us, chk cs → steps P cs = (P', us, 0) → False) : SpK Try.prog 17 #[.agg ⟨arrL 64 (nvF rv av P)⟩, .agg ⟨[.int .u32 idv, .slice p cs.length cap]⟩] (Mem Z) [] (fun u F' => u = .bool true) := by
  refine f_enter (args := [.agg ⟨arrL 64 (nvF rv av P)⟩, .agg ⟨[.int .u32 idv, .slice p cs.length cap]⟩]) Try.func17 rfl Try.ntmps17 rfl ?_
  intro w0 w a hpre hl hh
  simp only [slotsFrom, Nat.reduceAdd] at hl
  refine c_seq ?_
  refine c_region ?_
  refine wl (w_box hl hh rfl trivial rfl rfl ?_)
  clear hl hh a w; intro k2 a w hl hh
  refine wl (w_box hl hh rfl trivial rfl rfl ?_)
  clear hl hh a w; intro k3 a w hl hh
  refine wl (wl_val hl rfl trivial (r_assign hl rfl) ?_)
  clear hl a; intro a hl
  refine w_nil ?_
  have hl2 := hl.add (t := 2) (hl.add (t := 3) (hl.nil) rfl) rfl; clear hl; have hl := hl2; clear hl2
  refine then_normal ?_
  refine c_seq ?_
  refine c_region ?_
  refine wl (w_loadA hl hh rfl trivial agg33 rfl (by repeat (first | exact find_head | apply find_tail)) (by first | exact whole _ _ | exact ed_take _ _ _ _) (by rw [arrL_length]) ?_)
  clear hl a; intro a hl
  refine wl (w_loadA hl hh rfl trivial agg37 rfl (by repeat (first | exact find_head | apply find_tail)) (by first | (simp only [List.getElem?_cons_zero, List.getElem?_cons_succ, Value.cells, List.take_zero, List.take_succ_cons, List.take_nil, List.drop_zero, List.drop_succ_cons, List.drop_nil, List.length_cons, List.length_nil, List.cons_append, List.nil_append, List.append_nil, Nat.zero_add, Nat.add_zero, Nat.reduceAdd, Nat.reduceBEq, Nat.reduceEqDiff, Nat.ble, BEq.rfl, Bool.and_true, Bool.and_self, cond_true, beq_self_eq_true]; rfl)) (by first | rfl | (simp; done)) ?_)
  clear hl a; intro a hl
  refine wl (w_call hl hh rfl trivial rfl cal18 rfl (apply_no idv rv av P Z hN hP p cap cs Ec hR hEc hok hlen hno) (by repeat (first | exact keeps_nil | apply keeps_cons (by repeat (first | exact find_head | apply find_tail)) (by first  | rfl) | exact keeps_self | exact keeps_left | exact keeps_right | exact keeps_swap | apply keeps_mv)) (mem_keep hh hpre) ?_)
  clear hl hh a w; intro vc Fc a w hR hl hh
  obtain ⟨k, rfl⟩ := hR
  try simp only [List.cons_append, List.nil_append] at hh
  replace hh := has_dropl hh
  refine wl (wl_val hl rfl trivial (r_move hl rfl) ?_)
  clear hl a; intro a hl
  refine wl (wl_val hl rfl trivial (r_extract hl rfl (by simp only [List.getElem?_toArray, List.getElem?_cons_zero, List.getElem?_cons_succ]; rfl)) ?_)
  clear hl a; intro a hl
  refine wl (wl_val hl rfl trivial (r_extract hl rfl (by simp only [List.getElem?_toArray, List.getElem?_cons_zero, List.getElem?_cons_succ]; rfl)) ?_)
  clear hl a; intro a hl
  refine wl (w_alloc hl hh rfl trivial zero33 rfl ?_)
  clear hl hh a w; intro k5 a w hl hh
  refine wl (w_storeA hl hh trivial agg33 rfl rfl (by repeat (first | exact find_head | apply find_tail)) (by rw [arrL_length]) (by rw [arrL_length]; omega) (by exact nv_one hN.one) (by exact setw _ _ _) ?_)
  clear hh w; intro w hh
  refine wl (wl_val hl rfl trivial (r_assign hl rfl) ?_)
  clear hl a; intro a hl
  refine w_nil ?_
  have hl2 := hl.add (t := 2) (hl.add (t := 3) (hl.add (t := 5) (hl.add (t := 6) (hl.nil) rfl) rfl) rfl) rfl; clear hl; have hl := hl2; clear hl2
  refine then_normal ?_
  refine c_seq ?_
  refine c_region ?_
  refine wl (w_loadA hl hh rfl trivial agg33 rfl (by repeat (first | exact find_head | apply find_tail)) (by first | exact whole _ _ | exact ed_take _ _ _ _) (by rw [arrL_length]) ?_)
  clear hl a; intro a hl
  refine wl (w_loadA hl hh rfl trivial agg37 rfl (by repeat (first | exact find_head | apply find_tail)) (by first | (simp only [List.getElem?_cons_zero, List.getElem?_cons_succ, Value.cells, List.take_zero, List.take_succ_cons, List.take_nil, List.drop_zero, List.drop_succ_cons, List.drop_nil, List.length_cons, List.length_nil, List.cons_append, List.nil_append, List.append_nil, Nat.zero_add, Nat.add_zero, Nat.reduceAdd, Nat.reduceBEq, Nat.reduceEqDiff, Nat.ble, BEq.rfl, Bool.and_true, Bool.and_self, cond_true, beq_self_eq_true]; rfl)) (by first | rfl | (simp; done)) ?_)
  clear hl a; intro a hl
  refine wl (w_call hl hh rfl trivial rfl cal19 rfl (inverse_no idv rv av P Z hN hP p cap cs Ec hR hEc hok hlen hno) (by repeat (first | exact keeps_nil | apply keeps_cons (by repeat (first | exact find_head | apply find_tail)) (by first  | rfl) | exact keeps_self | exact keeps_left | exact keeps_right | exact keeps_swap | apply keeps_mv)) (mem_keep hh hpre) ?_)
  clear hl hh a w; intro vc Fc a w hR hl hh
  obtain ⟨k9, rfl⟩ := hR
  try simp only [List.cons_append, List.nil_append] at hh
  replace hh := has_dropl hh
  refine wl (wl_val hl rfl trivial (r_move hl rfl) ?_)
  clear hl a; intro a hl
  refine wl (wl_val hl rfl trivial (r_extract hl rfl (by simp only [List.getElem?_toArray, List.getElem?_cons_zero, List.getElem?_cons_succ]; rfl)) ?_)
  clear hl a; intro a hl
  refine wl (wl_val hl rfl trivial (r_extract hl rfl (by simp only [List.getElem?_toArray, List.getElem?_cons_zero, List.getElem?_cons_succ]; rfl)) ?_)
  clear hl a; intro a hl
  refine wl (w_alloc hl hh rfl trivial zero37 rfl ?_)
  clear hl hh a w; intro k7 a w hl hh
  refine wl (w_storeA hl hh trivial agg37 rfl rfl (by repeat (first | exact find_head | apply find_tail)) (by first | rfl | (simp; done)) (by first | (simp; done) | (simp; omega)) (by first | rfl | (simp; done)) (by first | (simp only [setL, List.getElem?_cons_zero, List.getElem?_cons_succ, Value.cells, List.take_zero, List.take_succ_cons, List.take_nil, List.drop_zero, List.drop_succ_cons, List.drop_nil, List.length_cons, List.length_nil, List.cons_append, List.nil_append, List.append_nil, Nat.zero_add, Nat.add_zero, Nat.reduceAdd, Nat.reduceBEq, Nat.reduceEqDiff, Nat.ble, BEq.rfl, Bool.and_true, Bool.and_self, cond_true, beq_self_eq_true]; rfl)) ?_)
  clear hh w; intro w hh
  refine wl (wl_val hl rfl trivial (r_assign hl rfl) ?_)
  clear hl a; intro a hl
  refine w_nil ?_
  have hl2 := hl.add (t := 2) (hl.add (t := 3) (hl.add (t := 5) (hl.add (t := 6) (hl.add (t := 7) (hl.add (t := 8) (hl.nil) rfl) rfl) rfl) rfl) rfl) rfl; clear hl; have hl := hl2; clear hl2
  refine then_normal ?_
  refine c_seq ?_
  refine c_seq ?_
  refine c_region ?_
  refine wl (wl_val hl rfl trivial (r_move hl rfl) ?_)
  clear hl a; intro a hl
  first | refine wl (wl_val hl rfl trivial (r_neq_ifcN hl rfl ifc39) ?_) | refine wl (wl_val hl rfl trivial (r_neq_ifcS hl rfl ifc39) ?_)
  clear hl a; intro a hl
  refine wl (wl_val hl rfl trivial (r_move hl rfl) ?_)
  clear hl a; intro a hl
  refine sl_split (t := 26) hl rfl ?_ ?_
  · intro hg1; clear hl; intro hl
    try simp only [decide_eq_true_eq, decide_eq_false_iff_not, Bool.not_eq_true', Bool.not_eq_false', Bool.not_eq_true, Bool.not_eq_false, Bool.and_eq_true, Bool.or_eq_true, Bool.and_eq_false_iff, Bool.or_eq_false_iff, Bool.not_not, ne_eq, Int.not_lt, Int.not_le, Decidable.not_not, beq_iff_eq, bne_iff_ne] at hg1
    refine wl (wl_skip hl rfl ⟨_, _, rfl, rfl, rfl⟩ ?_)
    clear hl a; intro a hl
    refine wl (wl_skip hl rfl ⟨_, _, rfl, rfl, rfl⟩ ?_)
    clear hl a; intro a hl
    refine wl (wl_val hl rfl trivial (r_pickT hl rfl rfl) ?_)
    clear hl a; intro a hl
    refine w_nil ?_
    have hl2 := hl.add (t := 2) (hl.add (t := 3) (hl.add (t := 5) (hl.add (t := 6) (hl.add (t := 7) (hl.add (t := 8) (hl.add (t := 29) (hl.nil) rfl) rfl) rfl) rfl) rfl) rfl) rfl; clear hl; have hl := hl2; clear hl2
    refine then_normal ?_
    refine c_condT hl rfl ?_
    refine c_seq ?_
    refine c_region ?_
    refine wl (wl_val hl rfl trivial (r_move hl rfl) ?_)
    clear hl a; intro a hl
    first | refine wl (wl_val hl rfl trivial (r_neq_ifcN hl rfl ifc39) ?_) | refine wl (wl_val hl rfl trivial (r_neq_ifcS hl rfl ifc39) ?_)
    clear hl a; intro a hl
    refine wl (wl_val hl rfl trivial (r_move hl rfl) ?_)
    clear hl a; intro a hl
    refine sl_split (t := 32) hl rfl ?_ ?_
    · intro hg2; clear hl; intro hl
      try simp only [decide_eq_true_eq, decide_eq_false_iff_not, Bool.not_eq_true', Bool.not_eq_false', Bool.not_eq_true, Bool.not_eq_false, Bool.and_eq_true, Bool.or_eq_true, Bool.and_eq_false_iff, Bool.or_eq_false_iff, Bool.not_not, ne_eq, Int.not_lt, Int.not_le, Decidable.not_not, beq_iff_eq, bne_iff_ne] at hg2
      refine wl (wl_val hl rfl ⟨_, _, rfl, rfl, rfl⟩ (r_move hl rfl) ?_)
      clear hl a; intro a hl
      first | refine wl (wl_val hl rfl ⟨_, _, rfl, rfl, rfl⟩ (r_neq_ifcN hl rfl ifc39) ?_) | refine wl (wl_val hl rfl ⟨_, _, rfl, rfl, rfl⟩ (r_neq_ifcS hl rfl ifc39) ?_)
      clear hl a; intro a hl
      refine wl (wl_val hl rfl trivial (r_pickT hl rfl rfl) ?_)
      clear hl a; intro a hl
      refine wl (wl_val hl rfl trivial (r_assign hl rfl) ?_)
      clear hl a; intro a hl
      refine w_nil ?_
      have hl2 := hl.add (t := 4) (hl.nil) rfl; clear hl; have hl := hl2; clear hl2
      refine then_normal ?_
      refine wp_ret ?_
      refine then_ret ?_
      refine f_ret1 (F' := []) hl hh rfl rfl (by repeat (first | exact keeps_nil | apply keeps_cons (by repeat (first | exact find_head | apply find_tail)) (by first  | rfl) | exact keeps_self | exact keeps_left | exact keeps_right | exact keeps_swap | apply keeps_mv)) ?_
      rfl
    · intro hg2; clear hl; intro hl
      try simp only [decide_eq_true_eq, decide_eq_false_iff_not, Bool.not_eq_true', Bool.not_eq_false', Bool.not_eq_true, Bool.not_eq_false, Bool.and_eq_true, Bool.or_eq_true, Bool.and_eq_false_iff, Bool.or_eq_false_iff, Bool.not_not, ne_eq, Int.not_lt, Int.not_le, Decidable.not_not, beq_iff_eq, bne_iff_ne] at hg2
      exfalso; first | contradiction | omega
  · intro hg1; clear hl; intro hl
    try simp only [decide_eq_true_eq, decide_eq_false_iff_not, Bool.not_eq_true', Bool.not_eq_false', Bool.not_eq_true, Bool.not_eq_false, Bool.and_eq_true, Bool.or_eq_true, Bool.and_eq_false_iff, Bool.or_eq_false_iff, Bool.not_not, ne_eq, Int.not_lt, Int.not_le, Decidable.not_not, beq_iff_eq, bne_iff_ne] at hg1
    exfalso; first | contradiction | omega

set_option maxHeartbeats 16000000 in
theorem inv_each_ok (idv : Int) (rv av : Nat → Value) (P : Pl) (Z : List (Nat × Obj)) (hN : NetR rv av P Z) (hP : POk P) (hW : WF P) (p : Option Addr) (cap : Nat) (cs : List Ch) (Ec : List (Nat × Obj)) (hR : Row (.slice p cs.length cap) cs.length (chs cs) 12 57 Ec) (hEc : ∀ x, x ∈ Ec → x ∈ Z) (hok : ∀ c, c ∈ cs → c.ok) (hlen : cs.length ≤ 1000000) (P' : Pl) (us : List Ch) (hchk : chk cs) (hst : steps P cs = (P', us, 0)) : SpK Try.prog 17 #[.agg ⟨arrL 64 (nvF rv av P)⟩, .agg ⟨[.int .u32 idv, .slice p cs.length cap]⟩] (Mem Z) [] (fun u F' => u = .bool true) := by
  refine f_enter (args := [.agg ⟨arrL 64 (nvF rv av P)⟩, .agg ⟨[.int .u32 idv, .slice p cs.length cap]⟩]) Try.func17 rfl Try.ntmps17 rfl ?_
  intro w0 w a hpre hl hh
  simp only [slotsFrom, Nat.reduceAdd] at hl
  refine c_seq ?_
  refine c_region ?_
  refine wl (w_box hl hh rfl trivial rfl rfl ?_)
  clear hl hh a w; intro k2 a w hl hh
  refine wl (w_box hl hh rfl trivial rfl rfl ?_)
  clear hl hh a w; intro k3 a w hl hh
  refine wl (wl_val hl rfl trivial (r_assign hl rfl) ?_)
  clear hl a; intro a hl
  refine w_nil ?_
  have hl2 := hl.add (t := 2) (hl.add (t := 3) (hl.nil) rfl) rfl; clear hl; have hl := hl2; clear hl2
  refine then_normal ?_
  refine c_seq ?_
  refine c_region ?_
  refine wl (w_loadA hl hh rfl trivial agg33 rfl (by repeat (first | exact find_head | apply find_tail)) (by first | exact whole _ _ | exact ed_take _ _ _ _) (by rw [arrL_length]) ?_)
  clear hl a; intro a hl
  refine wl (w_loadA hl hh rfl trivial agg37 rfl (by repeat (first | exact find_head | apply find_tail)) (by first | (simp only [List.getElem?_cons_zero, List.getElem?_cons_succ, Value.cells, List.take_zero, List.take_succ_cons, List.take_nil, List.drop_zero, List.drop_succ_cons, List.drop_nil, List.length_cons, List.length_nil, List.cons_append, List.nil_append, List.append_nil, Nat.zero_add, Nat.add_zero, Nat.reduceAdd, Nat.reduceBEq, Nat.reduceEqDiff, Nat.ble, BEq.rfl, Bool.and_true, Bool.and_self, cond_true, beq_self_eq_true]; rfl)) (by first | rfl | (simp; done)) ?_)
  clear hl a; intro a hl
  refine wl (w_call hl hh rfl trivial rfl cal18 rfl (apply_ok0 idv rv av P Z hN hP p cap cs Ec hR hEc hok hlen hchk hst) (by repeat (first | exact keeps_nil | apply keeps_cons (by repeat (first | exact find_head | apply find_tail)) (by first  | rfl) | exact keeps_self | exact keeps_left | exact keeps_right | exact keeps_swap | apply keeps_mv)) (mem_keep hh hpre) ?_)
  clear hl hh a w; intro vc Fc a w hR hl hh
  obtain ⟨rv1, av1, hP1, hN1, rfl⟩ := hR
  try simp only [List.cons_append, List.nil_append] at hh
  generalize Fc = F1 at hh hN1
  replace hh := hh.comm
  simp only [List.cons_append, List.nil_append, List.append_nil] at hh
  have hone1 := hN1.one
  refine wl (wl_val hl rfl trivial (r_move hl rfl) ?_)
  clear hl a; intro a hl
  refine wl (wl_val hl rfl trivial (r_extract hl rfl (by simp only [List.getElem?_toArray, List.getElem?_cons_zero, List.getElem?_cons_succ]; rfl)) ?_)
  clear hl a; intro a hl
  refine wl (wl_val hl rfl trivial (r_extract hl rfl (by simp only [List.getElem?_toArray, List.getElem?_cons_zero, List.getElem?_cons_succ]; rfl)) ?_)
  clear hl a; intro a hl
  refine wl (w_alloc hl hh rfl trivial zero33 rfl ?_)
  clear hl hh a w; intro k5 a w hl hh
  refine wl (w_storeA hl hh trivial agg33 rfl rfl (by repeat (first | exact find_head | apply find_tail)) (by rw [arrL_length]) (by rw [arrL_length]; omega) (by first | exact nv_one hone5 | exact nv_one hone3 | exact nv_one hone1) (by exact setw _ _ _) ?_)
  clear hh w; intro w hh
  refine wl (wl_val hl rfl trivial (r_assign hl rfl) ?_)
  clear hl a; intro a hl
  refine w_nil ?_
  have hl2 := hl.add (t := 2) (hl.add (t := 3) (hl.add (t := 5) (hl.add (t := 6) (hl.nil) rfl) rfl) rfl) rfl; clear hl; have hl := hl2; clear hl2
  refine then_normal ?_
  refine c_seq ?_
  refine c_region ?_
  refine wl (w_loadA hl hh rfl trivial agg33 rfl (by repeat (first | exact find_head | apply find_tail)) (by first | exact whole _ _ | exact ed_take _ _ _ _) (by rw [arrL_length]) ?_)
  clear hl a; intro a hl
  refine wl (w_loadA hl hh rfl trivial agg37 rfl (by repeat (first | exact find_head | apply find_tail)) (by first | (simp only [List.getElem?_cons_zero, List.getElem?_cons_succ, Value.cells, List.take_zero, List.take_succ_cons, List.take_nil, List.drop_zero, List.drop_succ_cons, List.drop_nil, List.length_cons, List.length_nil, List.cons_append, List.nil_append, List.append_nil, Nat.zero_add, Nat.add_zero, Nat.reduceAdd, Nat.reduceBEq, Nat.reduceEqDiff, Nat.ble, BEq.rfl, Bool.and_true, Bool.and_self, cond_true, beq_self_eq_true]; rfl)) (by first | rfl | (simp; done)) ?_)
  clear hl a; intro a hl
  refine wl (w_call hl hh rfl trivial rfl cal19 rfl (inverse_ok idv rv av P Z hN hP p cap cs Ec hR hEc hok hlen hchk hst) (by repeat (first | exact keeps_nil | apply keeps_cons (by repeat (first | exact find_head | apply find_tail)) (by first  | rfl) | exact keeps_self | exact keeps_left | exact keeps_right | exact keeps_swap | apply keeps_mv)) (mem_keep hh hpre) ?_)
  clear hl hh a w; intro vc Fc a w hR hl hh
  obtain ⟨q1, qc1, hul, huok, hrow1, rfl⟩ := hR
  try simp only [List.cons_append, List.nil_append] at hh
  generalize Fc = F2 at hh hrow1
  replace hh := has_push0 (A := [_, _, _]) hh
  simp only [List.cons_append, List.nil_append] at hh
  obtain ⟨hW1, hchk1, vs, hst1⟩ := inv_main hP hW hok hchk hst hul
  have hc128 := hchk.1
  have hur : ∀ c, c ∈ us.reverse → c.ok := fun c hc => huok c (List.mem_reverse.1 hc)
  have hlr : us.reverse.length ≤ 1000000 := by rw [List.length_reverse]; omega
  have hN1a := hN1.ext2 (G := F2)
  have hE1 : ∀ x, x ∈ F2 → x ∈ Z ++ (F1 ++ F2) := fun x hx => List.mem_append_right _ (List.mem_append_right _ hx)
  refine wl (wl_val hl rfl trivial (r_move hl rfl) ?_)
  clear hl a; intro a hl
  refine wl (wl_val hl rfl trivial (r_extract hl rfl (by simp only [List.getElem?_toArray, List.getElem?_cons_zero, List.getElem?_cons_succ]; rfl)) ?_)
  clear hl a; intro a hl
  refine wl (wl_val hl rfl trivial (r_extract hl rfl (by simp only [List.getElem?_toArray, List.getElem?_cons_zero, List.getElem?_cons_succ]; rfl)) ?_)
  clear hl a; intro a hl
  refine wl (w_alloc hl hh rfl trivial zero37 rfl ?_)
  clear hl hh a w; intro k7 a w hl hh
  refine wl (w_storeA hl hh trivial agg37 rfl rfl (by repeat (first | exact find_head | apply find_tail)) (by first | rfl | (simp; done)) (by first | (simp; done) | (simp; omega)) (by first | rfl | (simp; done)) (by first | (simp only [setL, List.getElem?_cons_zero, List.getElem?_cons_succ, Value.cells, List.take_zero, List.take_succ_cons, List.take_nil, List.drop_zero, List.drop_succ_cons, List.drop_nil, List.length_cons, List.length_nil, List.cons_append, List.nil_append, List.append_nil, Nat.zero_add, Nat.add_zero, Nat.reduceAdd, Nat.reduceBEq, Nat.reduceEqDiff, Nat.ble, BEq.rfl, Bool.and_true, Bool.and_self, cond_true, beq_self_eq_true]; rfl)) ?_)
  clear hh w; intro w hh
  refine wl (wl_val hl rfl trivial (r_assign hl rfl) ?_)
  clear hl a; intro a hl
  refine w_nil ?_
  have hl2 := hl.add (t := 2) (hl.add (t := 3) (hl.add (t := 5) (hl.add (t := 6) (hl.add (t := 7) (hl.add (t := 8) (hl.nil) rfl) rfl) rfl) rfl) rfl) rfl; clear hl; have hl := hl2; clear hl2
  refine then_normal ?_
  refine c_seq ?_
  refine c_seq ?_
  refine c_region ?_
  refine wl (wl_val hl rfl trivial (r_move hl rfl) ?_)
  clear hl a; intro a hl
  first | refine wl (wl_val hl rfl trivial (r_neq_ifcN hl rfl ifc39) ?_) | refine wl (wl_val hl rfl trivial (r_neq_ifcS hl rfl ifc39) ?_)
  clear hl a; intro a hl
  refine wl (wl_val hl rfl trivial (r_move hl rfl) ?_)
  clear hl a; intro a hl
  refine sl_split (t := 26) hl rfl ?_ ?_
  · intro hg1; clear hl; intro hl
    try simp only [decide_eq_true_eq, decide_eq_false_iff_not, Bool.not_eq_true', Bool.not_eq_false', Bool.not_eq_true, Bool.not_eq_false, Bool.and_eq_true, Bool.or_eq_true, Bool.and_eq_false_iff, Bool.or_eq_false_iff, Bool.not_not, ne_eq, Int.not_lt, Int.not_le, Decidable.not_not, beq_iff_eq, bne_iff_ne] at hg1
    exfalso; first | contradiction | omega
  · intro hg1; clear hl; intro hl
    try simp only [decide_eq_true_eq, decide_eq_false_iff_not, Bool.not_eq_true', Bool.not_eq_false', Bool.not_eq_true, Bool.not_eq_false, Bool.and_eq_true, Bool.or_eq_true, Bool.and_eq_false_iff, Bool.or_eq_false_iff, Bool.not_not, ne_eq, Int.not_lt, Int.not_le, Decidable.not_not, beq_iff_eq, bne_iff_ne] at hg1
    refine wl (wl_val hl rfl ⟨_, _, rfl, rfl, rfl⟩ (r_move hl rfl) ?_)
    clear hl a; intro a hl
    first | refine wl (wl_val hl rfl ⟨_, _, rfl, rfl, rfl⟩ (r_neq_ifcN hl rfl ifc39) ?_) | refine wl (wl_val hl rfl ⟨_, _, rfl, rfl, rfl⟩ (r_neq_ifcS hl rfl ifc39) ?_)
    clear hl a; intro a hl
    refine wl (wl_val hl rfl trivial (r_pickF hl rfl rfl) ?_)
    clear hl a; intro a hl
    refine w_nil ?_
    have hl2 := hl.add (t := 2) (hl.add (t := 3) (hl.add (t := 5) (hl.add (t := 6) (hl.add (t := 7) (hl.add (t := 8) (hl.add (t := 29) (hl.nil) rfl) rfl) rfl) rfl) rfl) rfl) rfl; clear hl; have hl := hl2; clear hl2
    refine then_normal ?_
    refine c_cond hl rfl ?_ ?_
    · intro hc0
      try simp only [decide_eq_true_eq, decide_eq_false_iff_not, Bool.not_eq_true', Bool.not_eq_false', Bool.not_eq_true, Bool.not_eq_false, Bool.and_eq_true, Bool.or_eq_true, Bool.and_eq_false_iff, Bool.or_eq_false_iff, Bool.not_not, ne_eq, Int.not_lt, Int.not_le, Decidable.not_not, beq_iff_eq, bne_iff_ne] at hc0
      exfalso; first | contradiction | omega
    · intro hc0
      try simp only [decide_eq_true_eq, decide_eq_false_iff_not, Bool.not_eq_true', Bool.not_eq_false', Bool.not_eq_true, Bool.not_eq_false, Bool.and_eq_true, Bool.or_eq_true, Bool.and_eq_false_iff, Bool.or_eq_false_iff, Bool.not_not, ne_eq, Int.not_lt, Int.not_le, Decidable.not_not, beq_iff_eq, bne_iff_ne] at hc0
      refine wp_skip ?_
      refine then_normal ?_
      refine c_seq ?_
      refine c_region ?_
      refine wl (w_loadA hl hh rfl trivial agg33 rfl (by repeat (first | exact find_head | apply find_tail)) (by first | exact whole _ _ | exact ed_take _ _ _ _) (by rw [arrL_length]) ?_)
      clear hl a; intro a hl
      refine wl (w_loadA hl hh rfl trivial agg37 rfl (by repeat (first | exact find_head | apply find_tail)) (by first | (simp only [List.getElem?_cons_zero, List.getElem?_cons_succ, Value.cells, List.take_zero, List.take_succ_cons, List.take_nil, List.drop_zero, List.drop_succ_cons, List.drop_nil, List.length_cons, List.length_nil, List.cons_append, List.nil_append, List.append_nil, Nat.zero_add, Nat.add_zero, Nat.reduceAdd, Nat.reduceBEq, Nat.reduceEqDiff, Nat.ble, BEq.rfl, Bool.and_true, Bool.and_self, cond_true, beq_self_eq_true]; rfl)) (by first | rfl | (simp; done)) ?_)
      clear hl a; intro a hl
      refine wl (w_call hl hh rfl trivial rfl cal18 rfl (apply_ok0 idv rv1 av1 P' (Z ++ (F1 ++ F2)) hN1a hP1 q1 qc1 us.reverse F2 hrow1 hE1 hur hlr hchk1 hst1) (by repeat (first | exact keeps_nil | apply keeps_cons (by repeat (first | exact find_head | apply find_tail)) (by first  | rfl) | exact keeps_self | exact keeps_left | exact keeps_right | exact keeps_swap | apply keeps_mv)) (mem_ze (Z := Z) (E := F1 ++ F2) hh hpre (fun x hx => List.mem_cons_of_mem _ (List.mem_cons_of_mem _ (List.mem_cons_of_mem _ (List.mem_cons_of_mem _ (hx)))))) ?_)
      clear hl hh a w; intro vc Fc a w hR hl hh
      obtain ⟨rv3, av3, hP3, hN3, rfl⟩ := hR
      try simp only [List.cons_append, List.nil_append] at hh
      generalize Fc = F3 at hh hN3
      replace hh := has_push0 (A := [_, _, _, _]) hh
      simp only [List.cons_append, List.nil_append] at hh
      have hone3 := hN3.one
      rw [List.append_assoc] at hN3
      refine wl (wl_val hl rfl trivial (r_move hl rfl) ?_)
      clear hl a; intro a hl
      refine wl (wl_val hl rfl trivial (r_extract hl rfl (by simp only [List.getElem?_toArray, List.getElem?_cons_zero, List.getElem?_cons_succ]; rfl)) ?_)
      clear hl a; intro a hl
      refine wl (wl_val hl rfl trivial (r_extract hl rfl (by simp only [List.getElem?_toArray, List.getElem?_cons_zero, List.getElem?_cons_succ]; rfl)) ?_)
      clear hl a; intro a hl
      refine wl (w_alloc hl hh rfl trivial zero33 rfl ?_)
      clear hl hh a w; intro k9 a w hl hh
      refine wl (w_storeA hl hh trivial agg33 rfl rfl (by repeat (first | exact find_head | apply find_tail)) (by rw [arrL_length]) (by rw [arrL_length]; omega) (by first | exact nv_one hone5 | exact nv_one hone3 | exact nv_one hone1) (by exact setw _ _ _) ?_)
      clear hh w; intro w hh
      refine wl (wl_val hl rfl trivial (r_assign hl rfl) ?_)
      clear hl a; intro a hl
      refine w_nil ?_
      have hl2 := hl.add (t := 2) (hl.add (t := 3) (hl.add (t := 5) (hl.add (t := 6) (hl.add (t := 7) (hl.add (t := 9) (hl.nil) rfl) rfl) rfl) rfl) rfl) rfl; clear hl; have hl := hl2; clear hl2
      refine then_normal ?_
      refine c_seq ?_
      refine c_seq ?_
      refine c_region ?_
      refine wl (wl_val hl rfl trivial (r_move hl rfl) ?_)
      clear hl a; intro a hl
      first | refine wl (wl_val hl rfl trivial (r_neq_ifcN hl rfl ifc39) ?_) | refine wl (wl_val hl rfl trivial (r_neq_ifcS hl rfl ifc39) ?_)
      clear hl a; intro a hl
      refine wl (wl_val hl rfl trivial (r_move hl rfl) ?_)
      clear hl a; intro a hl
      refine sl_split (t := 44) hl rfl ?_ ?_
      · intro hg2; clear hl; intro hl
        try simp only [decide_eq_true_eq, decide_eq_false_iff_not, Bool.not_eq_true', Bool.not_eq_false', Bool.not_eq_true, Bool.not_eq_false, Bool.and_eq_true, Bool.or_eq_true, Bool.and_eq_false_iff, Bool.or_eq_false_iff, Bool.not_not, ne_eq, Int.not_lt, Int.not_le, Decidable.not_not, beq_iff_eq, bne_iff_ne] at hg2
        exfalso; first | contradiction | omega
      · intro hg2; clear hl; intro hl
        try simp only [decide_eq_true_eq, decide_eq_false_iff_not, Bool.not_eq_true', Bool.not_eq_false', Bool.not_eq_true, Bool.not_eq_false, Bool.and_eq_true, Bool.or_eq_true, Bool.and_eq_false_iff, Bool.or_eq_false_iff, Bool.not_not, ne_eq, Int.not_lt, Int.not_le, Decidable.not_not, beq_iff_eq, bne_iff_ne] at hg2
        refine wl (w_loadA hl hh rfl ⟨_, _, rfl, rfl, rfl⟩ agg37 rfl (by repeat (first | exact find_head | apply find_tail)) (by first | (simp only [List.getElem?_cons_zero, List.getElem?_cons_succ, Value.cells, List.take_zero, List.take_succ_cons, List.take_nil, List.drop_zero, List.drop_succ_cons, List.drop_nil, List.length_cons, List.length_nil, List.cons_append, List.nil_append, List.append_nil, Nat.zero_add, Nat.add_zero, Nat.reduceAdd, Nat.reduceBEq, Nat.reduceEqDiff, Nat.ble, BEq.rfl, Bool.and_true, Bool.and_self, cond_true, beq_self_eq_true]; rfl)) (by first | rfl | (simp; done)) ?_)
        clear hl a; intro a hl
        refine wl (w_call hl hh rfl ⟨_, _, rfl, rfl, rfl⟩ rfl cal11 rfl (check_ok idv q1 qc1 us.reverse F2 hrow1 hur hlr hchk1) (by repeat (first | exact keeps_nil | apply keeps_cons (by repeat (first | exact find_head | apply find_tail)) (by first  | rfl) | exact keeps_self | exact keeps_left | exact keeps_right | exact keeps_swap | apply keeps_mv)) (fun b o m => hh.mem b o (by simp [m])) ?_)
        clear hl hh a w; intro vc Fc a w hR hl hh
        obtain ⟨rfl, rfl⟩ := hR
        try simp only [List.cons_append, List.nil_append] at hh
        first | refine wl (wl_val hl rfl ⟨_, _, rfl, rfl, rfl⟩ (r_neq_ifcN hl rfl ifc39) ?_) | refine wl (wl_val hl rfl ⟨_, _, rfl, rfl, rfl⟩ (r_neq_ifcS hl rfl ifc39) ?_)
        clear hl a; intro a hl
        refine wl (wl_val hl rfl trivial (r_pickF hl rfl rfl) ?_)
        clear hl a; intro a hl
        refine wl (wl_val hl rfl trivial (r_move hl rfl) ?_)
        clear hl a; intro a hl
        refine sl_split (t := 49) hl rfl ?_ ?_
        · intro hg3; clear hl; intro hl
          try simp only [decide_eq_true_eq, decide_eq_false_iff_not, Bool.not_eq_true', Bool.not_eq_false', Bool.not_eq_true, Bool.not_eq_false, Bool.and_eq_true, Bool.or_eq_true, Bool.and_eq_false_iff, Bool.or_eq_false_iff, Bool.not_not, ne_eq, Int.not_lt, Int.not_le, Decidable.not_not, beq_iff_eq, bne_iff_ne] at hg3
          exfalso; first | contradiction | omega
        · intro hg3; clear hl; intro hl
          try simp only [decide_eq_true_eq, decide_eq_false_iff_not, Bool.not_eq_true', Bool.not_eq_false', Bool.not_eq_true, Bool.not_eq_false, Bool.and_eq_true, Bool.or_eq_true, Bool.and_eq_false_iff, Bool.or_eq_false_iff, Bool.not_not, ne_eq, Int.not_lt, Int.not_le, Decidable.not_not, beq_iff_eq, bne_iff_ne] at hg3
          refine wl (wl_val hl rfl ⟨_, _, rfl, rfl, rfl⟩ (r_field hl rfl fld37_0) ?_)
          clear hl a; intro a hl
          refine wl (w_load hl hh rfl ⟨_, _, rfl, rfl, rfl⟩ one34 rfl (by repeat (first | exact find_head | apply find_tail)) (by first | rfl) ?_)
          clear hl a; intro a hl
          refine wl (wl_val hl rfl ⟨_, _, rfl, rfl, rfl⟩ (r_field hl rfl fld37_0) ?_)
          clear hl a; intro a hl
          refine wl (w_load hl hh rfl ⟨_, _, rfl, rfl, rfl⟩ one34 rfl (by repeat (first | exact find_head | apply find_tail)) (by first | rfl) ?_)
          clear hl a; intro a hl
          refine wl (wl_val hl rfl ⟨_, _, rfl, rfl, rfl⟩ (r_neq hl rfl rfl) ?_)
          clear hl a; intro a hl
          refine wl (wl_val hl rfl trivial (r_pickF hl rfl rfl) ?_)
          clear hl a; intro a hl
          refine wl (wl_val hl rfl trivial (r_move hl rfl) ?_)
          clear hl a; intro a hl
          refine sl_split (t := 56) hl rfl ?_ ?_
          · intro hg4; clear hl; intro hl
            try simp only [decide_eq_true_eq, decide_eq_false_iff_not, Bool.not_eq_true', Bool.not_eq_false', Bool.not_eq_true, Bool.not_eq_false, Bool.and_eq_true, Bool.or_eq_true, Bool.and_eq_false_iff, Bool.or_eq_false_iff, Bool.not_not, ne_eq, Int.not_lt, Int.not_le, Decidable.not_not, beq_iff_eq, bne_iff_ne] at hg4
            exfalso; first | contradiction | omega
          · intro hg4; clear hl; intro hl
            try simp only [decide_eq_true_eq, decide_eq_false_iff_not, Bool.not_eq_true', Bool.not_eq_false', Bool.not_eq_true, Bool.not_eq_false, Bool.and_eq_true, Bool.or_eq_true, Bool.and_eq_false_iff, Bool.or_eq_false_iff, Bool.not_not, ne_eq, Int.not_lt, Int.not_le, Decidable.not_not, beq_iff_eq, bne_iff_ne] at hg4
            refine wl (w_loadA hl hh rfl ⟨_, _, rfl, rfl, rfl⟩ agg33 rfl (by repeat (first | exact find_head | apply find_tail)) (by first | exact whole _ _ | exact ed_take _ _ _ _) (by rw [arrL_length]) ?_)
            clear hl a; intro a hl
            refine wl (w_loadA hl hh rfl ⟨_, _, rfl, rfl, rfl⟩ agg33 rfl (by repeat (first | exact find_head | apply find_tail)) (by first | exact whole _ _ | exact ed_take _ _ _ _) (by rw [arrL_length]) ?_)
            clear hl a; intro a hl
            refine wl (w_call hl hh rfl ⟨_, _, rfl, rfl, rfl⟩ rfl cal20 rfl (same_spec rv3 av3 rv av P P (Z ++ ((F1 ++ F2) ++ F3)) hN3 hN.ext hP3 PEq.rfl) (by repeat (first | exact keeps_nil | apply keeps_cons (by repeat (first | exact find_head | apply find_tail)) (by first  | rfl) | exact keeps_self | exact keeps_left | exact keeps_right | exact keeps_swap | apply keeps_mv)) (mem_ze (Z := Z) (E := (F1 ++ F2) ++ F3) hh hpre (fun x hx => List.mem_cons_of_mem _ (List.mem_cons_of_mem _ (List.mem_cons_of_mem _ (List.mem_cons_of_mem _ (List.mem_cons_of_mem _ (hx))))))) ?_)
            clear hl hh a w; intro vc Fc a w hR hl hh
            obtain ⟨rfl, rfl⟩ := hR
            try simp only [List.cons_append, List.nil_append] at hh
            refine wl (wl_val hl rfl ⟨_, _, rfl, rfl, rfl⟩ (r_not hl rfl) ?_)
            clear hl a; intro a hl
            refine wl (wl_val hl rfl trivial (r_pickF hl rfl rfl) ?_)
            clear hl a; intro a hl
            refine w_nil ?_
            have hl2 := hl.add (t := 5) (hl.add (t := 7) (hl.add (t := 9) (hl.add (t := 61) (hl.nil) rfl) rfl) rfl) rfl; clear hl; have hl := hl2; clear hl2
            refine then_normal ?_
            refine c_cond hl rfl ?_ ?_
            · intro hc1
              try simp only [decide_eq_true_eq, decide_eq_false_iff_not, Bool.not_eq_true', Bool.not_eq_false', Bool.not_eq_true, Bool.not_eq_false, Bool.and_eq_true, Bool.or_eq_true, Bool.and_eq_false_iff, Bool.or_eq_false_iff, Bool.not_not, ne_eq, Int.not_lt, Int.not_le, Decidable.not_not, beq_iff_eq, bne_iff_ne] at hc1
              exfalso; first | contradiction | omega
            · intro hc1
              try simp only [decide_eq_true_eq, decide_eq_false_iff_not, Bool.not_eq_true', Bool.not_eq_false', Bool.not_eq_true, Bool.not_eq_false, Bool.and_eq_true, Bool.or_eq_true, Bool.and_eq_false_iff, Bool.or_eq_false_iff, Bool.not_not, ne_eq, Int.not_lt, Int.not_le, Decidable.not_not, beq_iff_eq, bne_iff_ne] at hc1
              refine wp_skip ?_
              refine then_normal ?_
              refine c_seq ?_
              refine c_region ?_
              refine wl (w_loadA hl hh rfl trivial agg33 rfl (by repeat (first | exact find_head | apply find_tail)) (by first | exact whole _ _ | exact ed_take _ _ _ _) (by rw [arrL_length]) ?_)
              clear hl a; intro a hl
              refine wl (w_loadA hl hh rfl trivial agg37 rfl (by repeat (first | exact find_head | apply find_tail)) (by first | (simp only [List.getElem?_cons_zero, List.getElem?_cons_succ, Value.cells, List.take_zero, List.take_succ_cons, List.take_nil, List.drop_zero, List.drop_succ_cons, List.drop_nil, List.length_cons, List.length_nil, List.cons_append, List.nil_append, List.append_nil, Nat.zero_add, Nat.add_zero, Nat.reduceAdd, Nat.reduceBEq, Nat.reduceEqDiff, Nat.ble, BEq.rfl, Bool.and_true, Bool.and_self, cond_true, beq_self_eq_true]; rfl)) (by first | rfl | (simp; done)) ?_)
              clear hl a; intro a hl
              refine wl (w_call hl hh rfl trivial rfl cal19 rfl (inverse_ok idv rv1 av1 P' (Z ++ (F1 ++ F2)) hN1a hP1 q1 qc1 us.reverse F2 hrow1 hE1 hur hlr hchk1 hst1) (by repeat (first | exact keeps_nil | apply keeps_cons (by repeat (first | exact find_head | apply find_tail)) (by first  | rfl) | exact keeps_self | exact keeps_left | exact keeps_right | exact keeps_swap | apply keeps_mv)) (mem_ze (Z := Z) (E := F1 ++ F2) hh hpre (fun x hx => List.mem_cons_of_mem _ (List.mem_cons_of_mem _ (List.mem_cons_of_mem _ (List.mem_cons_of_mem _ (List.mem_cons_of_mem _ (List.mem_append_left _ hx))))))) ?_)
              clear hl hh a w; intro vc Fc a w hR hl hh
              obtain ⟨q4, qc4, hvl, hvok, hrow4, rfl⟩ := hR
              try simp only [List.cons_append, List.nil_append] at hh
              generalize Fc = F4 at hh hrow4
              replace hh := has_push0 (A := [_, _, _, _, _]) hh
              simp only [List.cons_append, List.nil_append] at hh
              obtain ⟨hW4, hchk4, vs4, hst4⟩ := inv_main hP1 hW1 hur hchk1 hst1 hvl
              have hvr : ∀ c, c ∈ vs.reverse → c.ok := fun c hc => hvok c (List.mem_reverse.1 hc)
              have hlv : vs.reverse.length ≤ 1000000 := by rw [List.length_reverse, hvl]; exact hlr
              have hN3a := hN3.ext2 (G := F4)
              have hE4 : ∀ x, x ∈ F4 → x ∈ Z ++ (((F1 ++ F2) ++ F3) ++ F4) := fun x hx => List.mem_append_right _ (List.mem_append_right _ hx)
              refine wl (wl_val hl rfl trivial (r_move hl rfl) ?_)
              clear hl a; intro a hl
              refine wl (wl_val hl rfl trivial (r_extract hl rfl (by simp only [List.getElem?_toArray, List.getElem?_cons_zero, List.getElem?_cons_succ]; rfl)) ?_)
              clear hl a; intro a hl
              refine wl (wl_val hl rfl trivial (r_extract hl rfl (by simp only [List.getElem?_toArray, List.getElem?_cons_zero, List.getElem?_cons_succ]; rfl)) ?_)
              clear hl a; intro a hl
              refine wl (w_alloc hl hh rfl trivial zero37 rfl ?_)
              clear hl hh a w; intro k10 a w hl hh
              refine wl (w_storeA hl hh trivial agg37 rfl rfl (by repeat (first | exact find_head | apply find_tail)) (by first | rfl | (simp; done)) (by first | (simp; done) | (simp; omega)) (by first | rfl | (simp; done)) (by first | (simp only [setL, List.getElem?_cons_zero, List.getElem?_cons_succ, Value.cells, List.take_zero, List.take_succ_cons, List.take_nil, List.drop_zero, List.drop_succ_cons, List.drop_nil, List.length_cons, List.length_nil, List.cons_append, List.nil_append, List.append_nil, Nat.zero_add, Nat.add_zero, Nat.reduceAdd, Nat.reduceBEq, Nat.reduceEqDiff, Nat.ble, BEq.rfl, Bool.and_true, Bool.and_self, cond_true, beq_self_eq_true]; rfl)) ?_)
              clear hh w; intro w hh
              refine wl (wl_val hl rfl trivial (r_assign hl rfl) ?_)
              clear hl a; intro a hl
              refine w_nil ?_
              have hl2 := hl.add (t := 5) (hl.add (t := 6) (hl.add (t := 9) (hl.add (t := 10) (hl.nil) rfl) rfl) rfl) rfl; clear hl; have hl := hl2; clear hl2
              refine then_normal ?_
              refine c_seq ?_
              refine c_seq ?_
              refine c_region ?_
              refine wl (wl_val hl rfl trivial (r_move hl rfl) ?_)
              clear hl a; intro a hl
              first | refine wl (wl_val hl rfl trivial (r_neq_ifcN hl rfl ifc39) ?_) | refine wl (wl_val hl rfl trivial (r_neq_ifcS hl rfl ifc39) ?_)
              clear hl a; intro a hl
              refine w_nil ?_
              have hl2 := hl.add (t := 5) (hl.add (t := 9) (hl.add (t := 10) (hl.add (t := 69) (hl.nil) rfl) rfl) rfl) rfl; clear hl; have hl := hl2; clear hl2
              refine then_normal ?_
              refine c_cond hl rfl ?_ ?_
              · intro hc2
                try simp only [decide_eq_true_eq, decide_eq_false_iff_not, Bool.not_eq_true', Bool.not_eq_false', Bool.not_eq_true, Bool.not_eq_false, Bool.and_eq_true, Bool.or_eq_true, Bool.and_eq_false_iff, Bool.or_eq_false_iff, Bool.not_not, ne_eq, Int.not_lt, Int.not_le, Decidable.not_not, beq_iff_eq, bne_iff_ne] at hc2
                exfalso; first | contradiction | omega
              · intro hc2
                try simp only [decide_eq_true_eq, decide_eq_false_iff_not, Bool.not_eq_true', Bool.not_eq_false', Bool.not_eq_true, Bool.not_eq_false, Bool.and_eq_true, Bool.or_eq_true, Bool.and_eq_false_iff, Bool.or_eq_false_iff, Bool.not_not, ne_eq, Int.not_lt, Int.not_le, Decidable.not_not, beq_iff_eq, bne_iff_ne] at hc2
                refine wp_skip ?_
                refine then_normal ?_
                refine c_seq ?_
                refine c_region ?_
                refine wl (w_loadA hl hh rfl trivial agg33 rfl (by repeat (first | exact find_head | apply find_tail)) (by first | exact whole _ _ | exact ed_take _ _ _ _) (by rw [arrL_length]) ?_)
                clear hl a; intro a hl
                refine wl (w_loadA hl hh rfl trivial agg37 rfl (by repeat (first | exact find_head | apply find_tail)) (by first | (simp only [List.getElem?_cons_zero, List.getElem?_cons_succ, Value.cells, List.take_zero, List.take_succ_cons, List.take_nil, List.drop_zero, List.drop_succ_cons, List.drop_nil, List.length_cons, List.length_nil, List.cons_append, List.nil_append, List.append_nil, Nat.zero_add, Nat.add_zero, Nat.reduceAdd, Nat.reduceBEq, Nat.reduceEqDiff, Nat.ble, BEq.rfl, Bool.and_true, Bool.and_self, cond_true, beq_self_eq_true]; rfl)) (by first | rfl | (simp; done)) ?_)
                clear hl a; intro a hl
                refine wl (w_call hl hh rfl trivial rfl cal18 rfl (apply_ok0 idv rv3 av3 P (Z ++ (((F1 ++ F2) ++ F3) ++ F4)) hN3a hP3 q4 qc4 vs.reverse F4 hrow4 hE4 hvr hlv hchk4 hst4) (by repeat (first | exact keeps_nil | apply keeps_cons (by repeat (first | exact find_head | apply find_tail)) (by first  | rfl) | exact keeps_self | exact keeps_left | exact keeps_right | exact keeps_swap | apply keeps_mv)) (mem_ze (Z := Z) (E := ((F1 ++ F2) ++ F3) ++ F4) hh hpre (fun x hx => List.mem_cons_of_mem _ (List.mem_cons_of_mem _ (List.mem_cons_of_mem _ (List.mem_cons_of_mem _ (List.mem_cons_of_mem _ (List.mem_cons_of_mem _ (hx)))))))) ?_)
                clear hl hh a w; intro vc Fc a w hR hl hh
                obtain ⟨rv5, av5, hP5, hN5, rfl⟩ := hR
                try simp only [List.cons_append, List.nil_append] at hh
                generalize Fc = F5 at hh hN5
                replace hh := has_push0 (A := [_, _, _, _, _, _]) hh
                simp only [List.cons_append, List.nil_append] at hh
                have hone5 := hN5.one
                rw [List.append_assoc] at hN5
                refine wl (wl_val hl rfl trivial (r_move hl rfl) ?_)
                clear hl a; intro a hl
                refine wl (wl_val hl rfl trivial (r_extract hl rfl (by simp only [List.getElem?_toArray, List.getElem?_cons_zero, List.getElem?_cons_succ]; rfl)) ?_)
                clear hl a; intro a hl
                refine wl (wl_val hl rfl trivial (r_extract hl rfl (by simp only [List.getElem?_toArray, List.getElem?_cons_zero, List.getElem?_cons_succ]; rfl)) ?_)
                clear hl a; intro a hl
                refine wl (w_alloc hl hh rfl trivial zero33 rfl ?_)
                clear hl hh a w; intro k11 a w hl hh
                refine wl (w_storeA hl hh trivial agg33 rfl rfl (by repeat (first | exact find_head | apply find_tail)) (by rw [arrL_length]) (by rw [arrL_length]; omega) (by first | exact nv_one hone5 | exact nv_one hone3 | exact nv_one hone1) (by exact setw _ _ _) ?_)
                clear hh w; intro w hh
                refine wl (wl_val hl rfl trivial (r_assign hl rfl) ?_)
                clear hl a; intro a hl
                refine w_nil ?_
                have hl2 := hl.add (t := 5) (hl.add (t := 6) (hl.add (t := 11) (hl.nil) rfl) rfl) rfl; clear hl; have hl := hl2; clear hl2
                refine then_normal ?_
                refine c_seq ?_
                refine c_region ?_
                refine wl (wl_val hl rfl trivial (r_move hl rfl) ?_)
                clear hl a; intro a hl
                first | refine wl (wl_val hl rfl trivial (r_eql_ifcN hl rfl ifc39) ?_) | refine wl (wl_val hl rfl trivial (r_eql_ifcS hl rfl ifc39) ?_)
                clear hl a; intro a hl
                refine wl (wl_val hl rfl trivial (r_move hl rfl) ?_)
                clear hl a; intro a hl
                refine sl_split (t := 78) hl rfl ?_ ?_
                · intro hg5; clear hl; intro hl
                  try simp only [decide_eq_true_eq, decide_eq_false_iff_not, Bool.not_eq_true', Bool.not_eq_false', Bool.not_eq_true, Bool.not_eq_false, Bool.and_eq_true, Bool.or_eq_true, Bool.and_eq_false_iff, Bool.or_eq_false_iff, Bool.not_not, ne_eq, Int.not_lt, Int.not_le, Decidable.not_not, beq_iff_eq, bne_iff_ne] at hg5
                  refine wl (w_loadA hl hh rfl ⟨_, _, rfl, rfl, rfl⟩ agg33 rfl (by repeat (first | exact find_head | apply find_tail)) (by first | exact whole _ _ | exact ed_take _ _ _ _) (by rw [arrL_length]) ?_)
                  clear hl a; intro a hl
                  refine wl (w_loadA hl hh rfl ⟨_, _, rfl, rfl, rfl⟩ agg33 rfl (by repeat (first | exact find_head | apply find_tail)) (by first | exact whole _ _ | exact ed_take _ _ _ _) (by rw [arrL_length]) ?_)
                  clear hl a; intro a hl
                  refine wl (w_call hl hh rfl ⟨_, _, rfl, rfl, rfl⟩ rfl cal20 rfl (same_spec rv5 av5 rv1 av1 P' P' (Z ++ ((((F1 ++ F2) ++ F3) ++ F4) ++ F5)) hN5 (((hN1a.ext2 (G := F3)).ext2 (G := F4)).ext2 (G := F5)) hP5 PEq.rfl) (by repeat (first | exact keeps_nil | apply keeps_cons (by repeat (first | exact find_head | apply find_tail)) (by first  | rfl) | exact keeps_self | exact keeps_left | exact keeps_right | exact keeps_swap | apply keeps_mv)) (mem_ze (Z := Z) (E := (((F1 ++ F2) ++ F3) ++ F4) ++ F5) hh hpre (fun x hx => List.mem_cons_of_mem _ (List.mem_cons_of_mem _ (List.mem_cons_of_mem _ (List.mem_cons_of_mem _ (List.mem_cons_of_mem _ (List.mem_cons_of_mem _ (List.mem_cons_of_mem _ (hx))))))))) ?_)
                  clear hl hh a w; intro vc Fc a w hR hl hh
                  obtain ⟨rfl, rfl⟩ := hR
                  try simp only [List.cons_append, List.nil_append] at hh
                  refine wl (wl_val hl rfl trivial (r_pickT hl rfl rfl) ?_)
                  clear hl a; intro a hl
                  refine wl (wl_val hl rfl trivial (r_assign hl rfl) ?_)
                  clear hl a; intro a hl
                  refine w_nil ?_
                  have hl2 := hl.add (t := 4) (hl.nil) rfl; clear hl; have hl := hl2; clear hl2
                  refine then_normal ?_
                  refine wp_ret ?_
                  refine f_ret1 (F' := []) hl hh rfl rfl (by repeat (first | exact keeps_nil | apply keeps_cons (by repeat (first | exact find_head | apply find_tail)) (by first  | rfl) | exact keeps_self | exact keeps_left | exact keeps_right | exact keeps_swap | apply keeps_mv)) ?_
                  rfl
                · intro hg5; clear hl; intro hl
                  try simp only [decide_eq_true_eq, decide_eq_false_iff_not, Bool.not_eq_true', Bool.not_eq_false', Bool.not_eq_true, Bool.not_eq_false, Bool.and_eq_true, Bool.or_eq_true, Bool.and_eq_false_iff, Bool.or_eq_false_iff, Bool.not_not, ne_eq, Int.not_lt, Int.not_le, Decidable.not_not, beq_iff_eq, bne_iff_ne] at hg5
                  exfalso; first | contradiction | omega

theorem inv_eachH : EachH 17 WF := fun idv rv av P Z hN hP hI p cap cs Ec hR hEc hok hlen => by
  by_cases h : ∃ P' us, chk cs ∧ steps P cs = (P', us, 0)
  · obtain ⟨P', us, h1, h2⟩ := h
    exact inv_each_ok idv rv av P Z hN hP hI p cap cs Ec hR hEc hok hlen P' us h1 h2
  · exact inv_each_no idv rv av P Z hN hP hI p cap cs Ec hR hEc hok hlen (fun P' us h1 h2 => h ⟨P', us, h1, h2⟩)
theorem wf_steps : ∀ P cs P' us, POk P → WF P → chk cs → (∀ c, c ∈ cs → c.ok) → steps P cs = (P', us, 0) → WF P' := fun P cs P' us hP hW hc hok h =>
  (inv_take hP hW hok hc.2 cs.length P' us (by rw [List.take_length]; exact h)).2.1

end Go.Proofs.Qxb6500907a

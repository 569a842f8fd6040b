import Derived.Test.Qxb6500912aDoorA14
namespace Go.Proofs.Qxb6500912aDoor
open Go.Eng
set_option linter.unusedVariables false
set_option linter.unusedSimpArgs false
theorem one52 : oneOk Tryd.prog 52 = true := by kernel_rfl
theorem fnt52 : fnT Tryd.prog 52 = true := by kernel_rfl
theorem one25 : oneOk Tryd.prog 25 = true := by kernel_rfl
set_option maxHeartbeats 1000000 in
theorem askN_spec (ka kb bp : Nat) (Z : List (Nat × Obj)) (t : St) (fresh : Int) : SpK Tryd.prog 25 #[.int .u32 fresh, .agg ⟨grc (nextP t.s t.ns t.bl fresh)⟩, .pointer (some ⟨ka, 0, none⟩), .pointer (some ⟨kb, 0, none⟩)] (Mem ((ka, C [.nilFunc] 52) :: (kb, C [.pointer (some ⟨bp, 0, none⟩)] 25) :: Z)) [] (fun v F' => v = .bool true ∧ F' = []) := by
  refine f_enter (args := [.int .u32 fresh, .agg ⟨grc (nextP t.s t.ns t.bl fresh)⟩, .pointer (some ⟨ka, 0, none⟩), .pointer (some ⟨kb, 0, none⟩)]) Tryd.func25 rfl Tryd.ntmps25 rfl ?_
  intro w0 w a hpre hl hh
  have hma := hpre _ _ (List.mem_cons_self ..); have hmb := hpre _ _ (List.mem_cons_of_mem _ (List.mem_cons_self ..))
  have hmZ : Mem Z w0 := fun b o m => hpre b o (by simp [m])
  simp only [grc] at hl
  simp only [slotsFrom, Nat.reduceAdd] at hl
  refine c_seq ?_
  refine c_region ?_
  refine wl (w_box hl hh rfl trivial rfl rfl ?_)
  clear hl hh a w; intro k5 a w hl hh
  refine wl (wl_val hl rfl trivial (r_assign hl rfl) ?_)
  clear hl a; intro a hl
  refine w_nil ?_
  have hl2 := hl.add (t := 0) (hl.add (t := 2) (hl.add (t := 3) (hl.add (t := 5) (hl.nil) rfl) rfl) rfl) rfl; clear hl; have hl := hl2; clear hl2
  refine then_normal ?_
  refine c_seq ?_
  refine c_region ?_
  first | refine wl (w_load hl hh rfl trivial one52 rfl (by repeat (first | exact find_head | apply find_tail)) (by first | rfl) ?_) | refine wl (w_loadR hl hh rfl trivial one52 rfl hma (by simp) rfl ?_) | refine wl (w_loadR hl hh rfl trivial one52 rfl hmb (by simp) rfl ?_)
  clear hl a; intro a hl
  first | refine wl (wl_val hl rfl trivial (r_eql_fnN hl rfl fnt52) ?_) | refine wl (wl_val hl rfl trivial (r_eql_fnS hl rfl fnt52) ?_)
  clear hl a; intro a hl
  refine wl (wl_val hl rfl trivial (r_move hl rfl) ?_)
  clear hl a; intro a hl
  refine sl_split (t := 9) hl rfl ?_ ?_
  · intro hg1; clear hl; intro hl
    try simp only [decide_eq_true_eq, decide_eq_false_iff_not, Bool.not_eq_true', Bool.not_eq_false', Bool.not_eq_true, Bool.not_eq_false, Bool.and_eq_true, Bool.or_eq_true, Bool.and_eq_false_iff, Bool.or_eq_false_iff, Bool.not_not, ne_eq, Int.not_lt, Int.not_le, Decidable.not_not, beq_iff_eq, bne_iff_ne] at hg1
    refine wl (wl_skip hl rfl ⟨_, _, rfl, rfl, rfl⟩ ?_)
    clear hl a; intro a hl
    refine wl (wl_skip hl rfl ⟨_, _, rfl, rfl, rfl⟩ ?_)
    clear hl a; intro a hl
    refine wl (wl_skip hl rfl ⟨_, _, rfl, rfl, rfl⟩ ?_)
    clear hl a; intro a hl
    refine wl (wl_skip hl rfl ⟨_, _, rfl, rfl, rfl⟩ ?_)
    clear hl a; intro a hl
    refine wl (wl_skip hl rfl ⟨_, _, rfl, rfl, rfl⟩ ?_)
    clear hl a; intro a hl
    refine wl (wl_val hl rfl trivial (r_pickT hl rfl rfl) ?_)
    clear hl a; intro a hl
    refine wl (wl_val hl rfl trivial (r_assign hl rfl) ?_)
    clear hl a; intro a hl
    refine w_nil ?_
    have hl2 := hl.add (t := 6) (hl.nil) rfl; clear hl; have hl := hl2; clear hl2
    refine then_normal ?_
    refine wp_ret ?_
    refine f_ret1 (F' := []) hl hh rfl rfl (by repeat (first | exact keeps_nil | apply keeps_cons (by repeat (first | exact find_head | apply find_tail)) (by first  | rfl) | exact keeps_self | apply keeps_mv)) ?_
    exact ⟨rfl, rfl⟩
  · intro hg1; clear hl; intro hl
    try simp only [decide_eq_true_eq, decide_eq_false_iff_not, Bool.not_eq_true', Bool.not_eq_false', Bool.not_eq_true, Bool.not_eq_false, Bool.and_eq_true, Bool.or_eq_true, Bool.and_eq_false_iff, Bool.or_eq_false_iff, Bool.not_not, ne_eq, Int.not_lt, Int.not_le, Decidable.not_not, beq_iff_eq, bne_iff_ne] at hg1
    exfalso; first | exact Bool.noConfusion (show false = true by assumption) | exact Bool.noConfusion (show true = false by assumption) | contradiction | omega | (simp at *; done)

set_option maxHeartbeats 1000000 in
theorem askF_spec (ka kb bp : Nat) (Z : List (Nat × Obj)) (t : St) (fresh : Int) (fa : FuncId) (hcal : CalOk fa) (hfa : SpK Tryd.prog fa #[.pointer (some ⟨bp, 0, none⟩), .int .u32 fresh, .agg ⟨grc (nextP t.s t.ns t.bl fresh)⟩] (Mem Z) [] (fun v F' => v = .bool true ∧ F' = [])) : SpK Tryd.prog 25 #[.int .u32 fresh, .agg ⟨grc (nextP t.s t.ns t.bl fresh)⟩, .pointer (some ⟨ka, 0, none⟩), .pointer (some ⟨kb, 0, none⟩)] (Mem ((ka, C [.func (.func fa) #[] #[]] 52) :: (kb, C [.pointer (some ⟨bp, 0, none⟩)] 25) :: Z)) [] (fun v F' => v = .bool true ∧ F' = []) := by
  refine f_enter (args := [.int .u32 fresh, .agg ⟨grc (nextP t.s t.ns t.bl fresh)⟩, .pointer (some ⟨ka, 0, none⟩), .pointer (some ⟨kb, 0, none⟩)]) Tryd.func25 rfl Tryd.ntmps25 rfl ?_
  intro w0 w a hpre hl hh
  have hma := hpre _ _ (List.mem_cons_self ..); have hmb := hpre _ _ (List.mem_cons_of_mem _ (List.mem_cons_self ..))
  have hmZ : Mem Z w0 := fun b o m => hpre b o (by simp [m])
  simp only [grc] at hl
  simp only [slotsFrom, Nat.reduceAdd] at hl
  refine c_seq ?_
  refine c_region ?_
  refine wl (w_box hl hh rfl trivial rfl rfl ?_)
  clear hl hh a w; intro k5 a w hl hh
  refine wl (wl_val hl rfl trivial (r_assign hl rfl) ?_)
  clear hl a; intro a hl
  refine w_nil ?_
  have hl2 := hl.add (t := 0) (hl.add (t := 2) (hl.add (t := 3) (hl.add (t := 5) (hl.nil) rfl) rfl) rfl) rfl; clear hl; have hl := hl2; clear hl2
  refine then_normal ?_
  refine c_seq ?_
  refine c_region ?_
  first | refine wl (w_load hl hh rfl trivial one52 rfl (by repeat (first | exact find_head | apply find_tail)) (by first | rfl) ?_) | refine wl (w_loadR hl hh rfl trivial one52 rfl hma (by simp) rfl ?_) | refine wl (w_loadR hl hh rfl trivial one52 rfl hmb (by simp) rfl ?_)
  clear hl a; intro a hl
  first | refine wl (wl_val hl rfl trivial (r_eql_fnN hl rfl fnt52) ?_) | refine wl (wl_val hl rfl trivial (r_eql_fnS hl rfl fnt52) ?_)
  clear hl a; intro a hl
  refine wl (wl_val hl rfl trivial (r_move hl rfl) ?_)
  clear hl a; intro a hl
  refine sl_split (t := 9) hl rfl ?_ ?_
  · intro hg1; clear hl; intro hl
    try simp only [decide_eq_true_eq, decide_eq_false_iff_not, Bool.not_eq_true', Bool.not_eq_false', Bool.not_eq_true, Bool.not_eq_false, Bool.and_eq_true, Bool.or_eq_true, Bool.and_eq_false_iff, Bool.or_eq_false_iff, Bool.not_not, ne_eq, Int.not_lt, Int.not_le, Decidable.not_not, beq_iff_eq, bne_iff_ne] at hg1
    exfalso; first | exact Bool.noConfusion (show false = true by assumption) | exact Bool.noConfusion (show true = false by assumption) | contradiction | omega | (simp at *; done)
  · intro hg1; clear hl; intro hl
    try simp only [decide_eq_true_eq, decide_eq_false_iff_not, Bool.not_eq_true', Bool.not_eq_false', Bool.not_eq_true, Bool.not_eq_false, Bool.and_eq_true, Bool.or_eq_true, Bool.and_eq_false_iff, Bool.or_eq_false_iff, Bool.not_not, ne_eq, Int.not_lt, Int.not_le, Decidable.not_not, beq_iff_eq, bne_iff_ne] at hg1
    first | refine wl (w_load hl hh rfl ⟨_, _, rfl, rfl, rfl⟩ one52 rfl (by repeat (first | exact find_head | apply find_tail)) (by first | rfl) ?_) | refine wl (w_loadR hl hh rfl ⟨_, _, rfl, rfl, rfl⟩ one52 rfl hma (by simp) rfl ?_) | refine wl (w_loadR hl hh rfl ⟨_, _, rfl, rfl, rfl⟩ one52 rfl hmb (by simp) rfl ?_)
    clear hl a; intro a hl
    first | refine wl (w_load hl hh rfl ⟨_, _, rfl, rfl, rfl⟩ one25 rfl (by repeat (first | exact find_head | apply find_tail)) (by first | rfl) ?_) | refine wl (w_loadR hl hh rfl ⟨_, _, rfl, rfl, rfl⟩ one25 rfl hma (by simp) rfl ?_) | refine wl (w_loadR hl hh rfl ⟨_, _, rfl, rfl, rfl⟩ one25 rfl hmb (by simp) rfl ?_)
    clear hl a; intro a hl
    refine wl (wl_val hl rfl ⟨_, _, rfl, rfl, rfl⟩ (r_move hl rfl) ?_)
    clear hl a; intro a hl
    refine wl (w_loadA hl hh rfl ⟨_, _, rfl, rfl, rfl⟩ agg46 rfl (by repeat (first | exact find_head | apply find_tail)) (by first | rfl | (simp only [List.getElem?_cons_zero, List.getElem?_cons_succ, Value.cells, List.take_zero, List.take_succ_cons, List.take_nil, List.drop_zero, List.drop_succ_cons, List.drop_nil, List.length_cons, List.length_nil, List.cons_append, List.nil_append, List.append_nil, Nat.zero_add, Nat.add_zero, Nat.reduceAdd, Nat.reduceBEq, Nat.reduceEqDiff, Nat.ble, BEq.rfl, Bool.and_true, Bool.and_self, cond_true, beq_self_eq_true]; rfl)) (by first | rfl | (simp; done)) ?_)
    clear hl a; intro a hl
    refine wl (w_call hl hh rfl ⟨_, _, rfl, rfl, rfl⟩ rfl hcal.h rfl (hfa) (by repeat (first | exact keeps_nil | apply keeps_cons (by repeat (first | exact find_head | apply find_tail)) (by first  | rfl) | exact keeps_self | apply keeps_mv)) (mem_keep hh hmZ) ?_)
    clear hl hh a w; intro vc Fc a w hR hl hh
    obtain ⟨rfl, rfl⟩ := hR
    try simp only [List.cons_append, List.nil_append] at hh
    refine wl (wl_val hl rfl trivial (r_pickF hl rfl rfl) ?_)
    clear hl a; intro a hl
    refine wl (wl_val hl rfl trivial (r_assign hl rfl) ?_)
    clear hl a; intro a hl
    refine w_nil ?_
    have hl2 := hl.add (t := 6) (hl.nil) rfl; clear hl; have hl := hl2; clear hl2
    refine then_normal ?_
    refine wp_ret ?_
    refine f_ret1 (F' := []) hl hh rfl rfl (by repeat (first | exact keeps_nil | apply keeps_cons (by repeat (first | exact find_head | apply find_tail)) (by first  | rfl) | exact keeps_self | apply keeps_mv)) ?_
    exact ⟨rfl, rfl⟩

theorem mem_ask {x y : Nat × Obj} {R Z : List (Nat × Obj)} {w : World} (h : Mem (x :: y :: R) w) (hz : Mem Z w) : Mem (x :: y :: Z) w := fun b o m => by
  rcases List.mem_cons.1 m with e | m
  · exact h b o (by rw [e]; simp)
  rcases List.mem_cons.1 m with e | m
  · exact h b o (by rw [e]; simp)
  · exact hz b o m
theorem ask_spec {asked : Value} (h : AskOk asked) (ka kb bp : Nat) {Z : List (Nat × Obj)} {t : St} {fresh : Int} (hi : SI t) (hf : U fresh) (hW : WB Z bp t) :
    SpK Tryd.prog 25 #[.int .u32 fresh, .agg ⟨grc (nextP t.s t.ns t.bl fresh)⟩, .pointer (some ⟨ka, 0, none⟩), .pointer (some ⟨kb, 0, none⟩)] (Mem ((ka, C [asked] 52) :: (kb, C [.pointer (some ⟨bp, 0, none⟩)] 25) :: Z)) [] (fun v F' => v = .bool true ∧ F' = []) := by
  rcases h with rfl | ⟨fa, rfl, hcal, h⟩
  · exact askN_spec ka kb bp Z t fresh
  · exact askF_spec ka kb bp Z t fresh fa hcal (h Z bp t fresh hi hf hW)
theorem apart_of {D : List Nat} {w0 w : World} {A B : List (Nat × Obj)} {x y : Nat × Obj} (h : Has D w0 (x :: y :: (A ++ B)) w) : ∀ z, z ∈ B → z.1 ∉ A.map Prod.fst := fun z hz hm => by
  have h1 := h.nodup
  simp only [List.map_cons, List.nodup_cons, List.map_append] at h1
  have h2 := h1.2.2
  rw [List.nodup_append] at h2
  exact h2.2.2 _ hm _ (List.mem_map.2 ⟨z, hz, rfl⟩) rfl
theorem absolute2_spec (o : DO) (h : o.ok) (hN : o.dat.length ≤ 65536) (u : Int) : SpK Tryd.prog 34 #[.slice o.p o.dat.length o.cap, .int .u32 u] (Mem o.Sc) [] (fun v F' => Row v (o.dat.map (absb u)).length (fl pc (o.dat.map (absb u))) 2 51 F') := by
  rw [List.length_map]; exact absolute_spec o h hN u
theorem ackT_cfg {t t' : St} {ack : Int} {dup : Bool} {bks : List (Int × Int)} (h : AckT t ack dup bks t') : t'.cfg = t.cfg := by
  rcases h with ⟨_, rfl⟩ | ⟨_, _, _, _, rfl⟩ <;> rfl

end Go.Proofs.Qxb6500912aDoor

import Derived.Test.Qxb6500914aGreatH10
namespace Go.Proofs.Qxb6500914aGreat
open Go.Eng
set_option linter.unusedVariables false
set_option linter.unusedSimpArgs false
theorem cal16 : callable Tryz.prog 16 = true := by kernel_rfl
attribute [local irreducible] encM encP hist fl

set_option maxHeartbeats 4000000 in
theorem history_false (wb b kb : Nat) (W : WS) (F : List (Nat × Obj)) (hF : Wd b kb W [] F) (hok : LogOk W.log) (hlen : W.log.length ≤ 1000100) : SpK Tryz.prog 9 #[.pointer (some ⟨wb, 0, none⟩)] (Mem ((wb, C [.pointer (some ⟨b, 0, none⟩), .pointer (some ⟨kb, 0, none⟩), .int .u64 ((65536 + hd false : Nat) : Int), .int .u64 ((65536 + nd false 0 : Nat) : Int), .int .u64 ((65536 + nd false 1 : Nat) : Int), .int .u64 ((65536 + nd false 2 : Nat) : Int), .int .u64 ((65536 + nd false 3 : Nat) : Int), .int .u64 ((65536 + nd false 4 : Nat) : Int), .int .u64 ((65536 + nd false 5 : Nat) : Int), .int .u64 ((65536 + nd false 6 : Nat) : Int), .int .i64 (wd false : Int), .int .u64 ((65536 + hd true : Nat) : Int), .int .u64 ((65536 + nd true 0 : Nat) : Int), .int .u64 ((65536 + nd true 1 : Nat) : Int), .int .u64 ((65536 + nd true 2 : Nat) : Int), .int .u64 ((65536 + nd true 3 : Nat) : Int), .int .u64 ((65536 + nd true 4 : Nat) : Int), .int .u64 ((65536 + nd true 5 : Nat) : Int), .int .u64 ((65536 + nd true 6 : Nat) : Int), .int .i64 (wd true : Int)] 74) :: F)) [] (fun v F' => ∃ sv ES, v = .agg ⟨arrL 6 sv⟩ ∧ HR sv (hist false W.log) ES ∧ F' = cat6 ES) := by
  refine f_enter (args := [.pointer (some ⟨wb, 0, none⟩)]) Tryz.func9 rfl Tryz.ntmps9 rfl ?_
  intro w0 w a hpre hl hh
  obtain ⟨q, lv, E, hrow, rfl⟩ := hF
  obtain ⟨p, c, rfl⟩ := row_val hrow
  have hwb := hpre wb _ (List.mem_cons_self ..)
  have hkb := hpre kb _ (List.mem_cons_of_mem _ (List.mem_cons_self ..))
  have hkl := kd_log (KOf b q (.slice p W.log.length c) W)
  have hE : Mem E w0 := fun b9 o9 m9 => hpre b9 o9 (by simp [m9])
  simp only [slotsFrom, Nat.reduceAdd] at hl
  refine c_seq ?_
  refine c_region ?_
  refine wl (w_alloc hl hh rfl trivial zero29 rfl ?_)
  clear hl hh a w; intro k2 a w hl hh
  refine w_nil ?_
  have hl2 := hl.add (t := 0) (hl.add (t := 2) (hl.nil) rfl) rfl; clear hl; have hl := hl2; clear hl2
  refine then_normal ?_
  refine c_seq ?_
  refine c_region ?_
  refine wl (wl_val hl rfl trivial (r_move hl rfl) ?_)
  clear hl a; intro a hl
  refine wl (wl_val hl rfl trivial (r_nilCheck hl rfl) ?_)
  clear hl a; intro a hl
  refine wl (wl_val hl rfl trivial (r_field hl rfl fld74_1) ?_)
  clear hl a; intro a hl
  first | refine wl (w_load hl hh rfl trivial one65 rfl (by repeat (first | exact find_head | apply find_tail)) (by first | rfl) ?_) | refine wl (w_loadR hl hh rfl trivial one65 rfl hwb (by simp) rfl ?_) | refine wl (w_loadR hl hh rfl trivial one65 rfl hkb (by simp) hkl ?_)
  clear hl a; intro a hl
  refine wl (wl_val hl rfl trivial (r_nilCheck hl rfl) ?_)
  clear hl a; intro a hl
  refine wl (wl_val hl rfl trivial (r_field hl rfl fld64_3) ?_)
  clear hl a; intro a hl
  first | refine wl (w_load hl hh rfl trivial one62 rfl (by repeat (first | exact find_head | apply find_tail)) (by first | rfl) ?_) | refine wl (w_loadR hl hh rfl trivial one62 rfl hwb (by simp) rfl ?_) | refine wl (w_loadR hl hh rfl trivial one62 rfl hkb (by simp) hkl ?_)
  clear hl a; intro a hl
  try dsimp only [KOf] at hl
  refine wl (w_call hl hh rfl trivial rfl cal16 rfl (historyOf_spec false W.log hok hlen p c E hrow) (by repeat (first | exact keeps_nil | apply keeps_cons (by repeat (first | exact find_head | apply find_tail)) (by first  | rfl) | exact keeps_self | exact keeps_left | exact keeps_right | exact keeps_swap | apply keeps_mv)) (mem_keep hh hE) ?_)
  clear hl hh a w; intro vc Fc a w hR hl hh
  obtain ⟨sv, ES, rfl, hHR, rfl⟩ := hR
  try simp only [List.cons_append, List.nil_append] at hh
  replace hh := hh.comm
  try simp only [List.cons_append, List.nil_append] at hh
  refine wl (w_storeA hl hh trivial agg29 rfl rfl (by repeat (first | exact find_head | apply find_tail)) (by rw [arrL_length]) (by simp) (by exact arrL_one (fun t ht => (hHR t ht).one)) (by exact set6z _) ?_)
  clear hh w; intro w hh
  refine w_nil ?_
  have hl2 := hl.add (t := 2) (hl.nil) rfl; clear hl; have hl := hl2; clear hl2
  refine then_normal ?_
  refine wp_ret ?_
  refine f_retC (F' := cat6 ES) hl hh rfl rfl agg29 (by repeat (first | exact find_head | apply find_tail)) (by first | rfl | exact arrL_length _ _ | (simp; done)) (by repeat (first | exact keeps_nil | apply keeps_cons (by repeat (first | exact find_head | apply find_tail)) (by first  | rfl) | exact keeps_self | exact keeps_left | exact keeps_right | exact keeps_swap | apply keeps_mv)) ?_
  exact ⟨sv, ES, rfl, hHR, rfl⟩

set_option maxHeartbeats 4000000 in
theorem history_true (wb b kb : Nat) (W : WS) (F : List (Nat × Obj)) (hF : Wd b kb W [] F) (hok : LogOk W.log) (hlen : W.log.length ≤ 1000100) : SpK Tryz.prog 10 #[.pointer (some ⟨wb, 0, none⟩)] (Mem ((wb, C [.pointer (some ⟨b, 0, none⟩), .pointer (some ⟨kb, 0, none⟩), .int .u64 ((65536 + hd false : Nat) : Int), .int .u64 ((65536 + nd false 0 : Nat) : Int), .int .u64 ((65536 + nd false 1 : Nat) : Int), .int .u64 ((65536 + nd false 2 : Nat) : Int), .int .u64 ((65536 + nd false 3 : Nat) : Int), .int .u64 ((65536 + nd false 4 : Nat) : Int), .int .u64 ((65536 + nd false 5 : Nat) : Int), .int .u64 ((65536 + nd false 6 : Nat) : Int), .int .i64 (wd false : Int), .int .u64 ((65536 + hd true : Nat) : Int), .int .u64 ((65536 + nd true 0 : Nat) : Int), .int .u64 ((65536 + nd true 1 : Nat) : Int), .int .u64 ((65536 + nd true 2 : Nat) : Int), .int .u64 ((65536 + nd true 3 : Nat) : Int), .int .u64 ((65536 + nd true 4 : Nat) : Int), .int .u64 ((65536 + nd true 5 : Nat) : Int), .int .u64 ((65536 + nd true 6 : Nat) : Int), .int .i64 (wd true : Int)] 74) :: F)) [] (fun v F' => ∃ sv ES, v = .agg ⟨arrL 6 sv⟩ ∧ HR sv (hist true W.log) ES ∧ F' = cat6 ES) := by
  refine f_enter (args := [.pointer (some ⟨wb, 0, none⟩)]) Tryz.func10 rfl Tryz.ntmps10 rfl ?_
  intro w0 w a hpre hl hh
  obtain ⟨q, lv, E, hrow, rfl⟩ := hF
  obtain ⟨p, c, rfl⟩ := row_val hrow
  have hwb := hpre wb _ (List.mem_cons_self ..)
  have hkb := hpre kb _ (List.mem_cons_of_mem _ (List.mem_cons_self ..))
  have hkl := kd_log (KOf b q (.slice p W.log.length c) W)
  have hE : Mem E w0 := fun b9 o9 m9 => hpre b9 o9 (by simp [m9])
  simp only [slotsFrom, Nat.reduceAdd] at hl
  refine c_seq ?_
  refine c_region ?_
  refine wl (w_alloc hl hh rfl trivial zero29 rfl ?_)
  clear hl hh a w; intro k2 a w hl hh
  refine w_nil ?_
  have hl2 := hl.add (t := 0) (hl.add (t := 2) (hl.nil) rfl) rfl; clear hl; have hl := hl2; clear hl2
  refine then_normal ?_
  refine c_seq ?_
  refine c_region ?_
  refine wl (wl_val hl rfl trivial (r_move hl rfl) ?_)
  clear hl a; intro a hl
  refine wl (wl_val hl rfl trivial (r_nilCheck hl rfl) ?_)
  clear hl a; intro a hl
  refine wl (wl_val hl rfl trivial (r_field hl rfl fld74_1) ?_)
  clear hl a; intro a hl
  first | refine wl (w_load hl hh rfl trivial one65 rfl (by repeat (first | exact find_head | apply find_tail)) (by first | rfl) ?_) | refine wl (w_loadR hl hh rfl trivial one65 rfl hwb (by simp) rfl ?_) | refine wl (w_loadR hl hh rfl trivial one65 rfl hkb (by simp) hkl ?_)
  clear hl a; intro a hl
  refine wl (wl_val hl rfl trivial (r_nilCheck hl rfl) ?_)
  clear hl a; intro a hl
  refine wl (wl_val hl rfl trivial (r_field hl rfl fld64_3) ?_)
  clear hl a; intro a hl
  first | refine wl (w_load hl hh rfl trivial one62 rfl (by repeat (first | exact find_head | apply find_tail)) (by first | rfl) ?_) | refine wl (w_loadR hl hh rfl trivial one62 rfl hwb (by simp) rfl ?_) | refine wl (w_loadR hl hh rfl trivial one62 rfl hkb (by simp) hkl ?_)
  clear hl a; intro a hl
  try dsimp only [KOf] at hl
  refine wl (w_call hl hh rfl trivial rfl cal16 rfl (historyOf_spec true W.log hok hlen p c E hrow) (by repeat (first | exact keeps_nil | apply keeps_cons (by repeat (first | exact find_head | apply find_tail)) (by first  | rfl) | exact keeps_self | exact keeps_left | exact keeps_right | exact keeps_swap | apply keeps_mv)) (mem_keep hh hE) ?_)
  clear hl hh a w; intro vc Fc a w hR hl hh
  obtain ⟨sv, ES, rfl, hHR, rfl⟩ := hR
  try simp only [List.cons_append, List.nil_append] at hh
  replace hh := hh.comm
  try simp only [List.cons_append, List.nil_append] at hh
  refine wl (w_storeA hl hh trivial agg29 rfl rfl (by repeat (first | exact find_head | apply find_tail)) (by rw [arrL_length]) (by simp) (by exact arrL_one (fun t ht => (hHR t ht).one)) (by exact set6z _) ?_)
  clear hh w; intro w hh
  refine w_nil ?_
  have hl2 := hl.add (t := 2) (hl.nil) rfl; clear hl; have hl := hl2; clear hl2
  refine then_normal ?_
  refine wp_ret ?_
  refine f_retC (F' := cat6 ES) hl hh rfl rfl agg29 (by repeat (first | exact find_head | apply find_tail)) (by first | rfl | exact arrL_length _ _ | (simp; done)) (by repeat (first | exact keeps_nil | apply keeps_cons (by repeat (first | exact find_head | apply find_tail)) (by first  | rfl) | exact keeps_self | exact keeps_left | exact keeps_right | exact keeps_swap | apply keeps_mv)) ?_
  exact ⟨sv, ES, rfl, hHR, rfl⟩
end Go.Proofs.Qxb6500914aGreat

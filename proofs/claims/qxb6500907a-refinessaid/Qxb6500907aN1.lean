import Derived.Test.Qxb6500907aN0
namespace Go.Proofs.Qxb6500907a
open Go.Eng
set_option linter.unusedVariables false
set_option linter.unusedSimpArgs false
theorem one27 : oneOk Try.prog 27 = true := by kernel_rfl
theorem fld133_0 : fieldOk Try.prog 133 0 0 = true := by kernel_rfl
theorem fld33_0 : fieldOk Try.prog 33 0 0 = true := by kernel_rfl
theorem arr30 : arrOk Try.prog 30 16 3 = true := by kernel_rfl
theorem fld133_1 : fieldOk Try.prog 133 1 64 = true := by kernel_rfl
theorem arr113 : arrOk Try.prog 113 16 1 = true := by kernel_rfl
theorem fld29_0 : fieldOk Try.prog 29 0 0 = true := by kernel_rfl
theorem one25 : oneOk Try.prog 25 = true := by kernel_rfl
theorem app25 : appOk Try.prog 25 53 3 3 = true := by kernel_rfl
theorem fld29_1 : fieldOk Try.prog 29 1 1 = true := by kernel_rfl
theorem one26 : oneOk Try.prog 26 = true := by kernel_rfl
theorem app26 : appOk Try.prog 26 55 4 4 = true := by kernel_rfl
theorem find_spec (l : List Rt) (p : Option Addr) (cap : Nat) (E : List (Nat × Obj)) (hR : Row (.slice p l.length cap) l.length (fl Rt.vals l) 3 53 E) (qa qn : Int) (hq : 0 ≤ qa ∧ qa ≤ 255 ∧ 0 ≤ qn ∧ qn ≤ 255) (hs : Srt l) (hrr : ∀ r, r ∈ l → 0 ≤ r.a ∧ r.a ≤ 255 ∧ 0 ≤ r.l ∧ r.l ≤ 255) (hlen : l.length ≤ 1000000) :
    SpK Try.prog 70 #[.slice p l.length cap, .agg ⟨[.int .u8 qa, .int .u8 qn]⟩] (Mem E) [] (fun u F' => u = .tuple #[.int .i64 ((fp l qa qn : Nat) : Int), .bool (fnd l qa qn)] ∧ F' = []) := by
  intro w hp h1 h2
  by_cases h0 : 0 < l.length
  · obtain ⟨b, junk, rfl, _, _, rfl⟩ := row_pos hR h0
    exact find_row l b cap junk qa qn hq hs hrr hlen w (hp _ _ (List.mem_singleton.2 rfl)) h1 h2
  · have e : l = [] := List.eq_nil_of_length_eq_zero (by omega)
    have := find_nil l e p cap qa qn hq w trivial h1 h2
    rw [show l.length = 0 by omega]; exact this
theorem spK_frame {P : Program} {f : FuncId} {args : Array Value} {Pre : World → Prop} {A G F : List (Nat × Obj)} {R : Value → List (Nat × Obj) → Prop} (h : SpK P f args Pre A R) (p : F.Perm (A ++ G)) : SpK P f args Pre F (fun v F' => ∃ F2, R v F2 ∧ F' = F2 ++ G) := by
  intro w hp hm hn
  have hh := (Has.start hm hn).perm p
  refine (h w hp hh.left.1 hh.left.2).mono fun e w' he => ?_
  cases e with
  | returned v =>
    obtain ⟨F', hR, hhas⟩ := he
    exact ⟨F' ++ G, ⟨F', hR, rfl⟩, hh.call (fun b hb => hb) hhas⟩
  | panicked c => exact he.elim
  | outgrown => exact he.elim
theorem spK_post {P : Program} {f : FuncId} {args : Array Value} {Pre Pre' : World → Prop} {F : List (Nat × Obj)} {R R' : Value → List (Nat × Obj) → Prop} (h : SpK P f args Pre F R) (hp' : ∀ w, Pre' w → Pre w) (hr : ∀ v F', R v F' → ∃ F2 G, R' v F2 ∧ F'.Perm (F2 ++ G)) : SpK P f args Pre' F R' := by
  intro w hp hm hn
  refine (h w (hp' w hp) hm hn).mono fun e w' he => ?_
  cases e with
  | returned v =>
    obtain ⟨F', hR, hhas⟩ := he
    obtain ⟨F2, G, h2, hpm⟩ := hr v F' hR
    exact ⟨F2, h2, hhas.keep ⟨hpm⟩⟩
  | panicked c => exact he.elim
  | outgrown => exact he.elim
theorem mem_keepD {D : List Nat} {w0 w : World} {F Sc : List (Nat × Obj)} (hh : Has D w0 F w) (h : Mem Sc w0) (hd : ∀ x, x ∈ Sc → x.1 ∉ D) : Mem Sc w := fun b o m =>
  (hh.frm.block b (Array.getElem?_eq_some_iff.1 (h b o m)).1 (hd _ m)).trans (h b o m)
theorem ed_rv {rv av : Nat → Value} {P : Pl} {ow : Nat → Bool} {d : Nat} (h : d < 16) : (arrL 80 (edF rv av P ow))[d * 3 + 0]? = some (rv d) := by
  rw [arrL_get (by omega)]; unfold edF nvF; rw [if_pos (by omega), if_pos (by omega), if_pos (by omega), show (d * 3 + 0) / 3 = d by omega]
theorem ed_av {rv av : Nat → Value} {P : Pl} {ow : Nat → Bool} {d : Nat} (h : d < 16) : (arrL 80 (edF rv av P ow))[d * 3 + 1]? = some (av d) := by
  rw [arrL_get (by omega)]; unfold edF nvF; rw [if_pos (by omega), if_pos (by omega), if_neg (by omega), if_pos (by omega), show (d * 3 + 1) / 3 = d by omega]
theorem ed_ifc {rv av : Nat → Value} {P : Pl} {ow : Nat → Bool} {d : Nat} (h : d < 16) : (arrL 80 (edF rv av P ow))[d * 3 + 2]? = some (.int .u16 (P.ifc d)) := by
  rw [arrL_get (by omega)]; unfold edF nvF; rw [if_pos (by omega), if_pos (by omega), if_neg (by omega), if_neg (by omega), show (d * 3 + 2) / 3 = d by omega]
theorem ed_link {rv av : Nat → Value} {P : Pl} {ow : Nat → Bool} {d : Nat} (h : d < 16) : (arrL 80 (edF rv av P ow))[48 + d]? = some (.int .u16 (P.link d)) := by
  rw [arrL_get (by omega)]; unfold edF nvF; rw [if_pos (by omega), if_neg (by omega), Nat.add_sub_cancel_left]
theorem ed_ow {rv av : Nat → Value} {P : Pl} {ow : Nat → Bool} {d : Nat} (h : d < 16) : (arrL 80 (edF rv av P ow))[64 + d]? = some (.bool (ow d)) := by
  rw [arrL_get (by omega)]; unfold edF; rw [if_neg (by omega), Nat.add_sub_cancel_left]
theorem ed_srv {rv av : Nat → Value} {P : Pl} {ow : Nat → Bool} {d : Nat} {v : Value} (h : d < 16) : setL (arrL 80 (edF rv av P ow)) (d * 3 + 0) [v] = arrL 80 (edF (upd rv d v) av P ow) := by
  rw [arrL_set (by omega)]
  refine arrL_congr fun j hj => ?_
  unfold updV edF nvF upd
  by_cases e : j = d * 3 + 0
  · subst e; rw [if_pos rfl, if_pos (by omega), if_pos (by omega), if_pos (by omega), if_pos (by omega)]
  · rw [if_neg e]
    repeat' split
    all_goals first | rfl | omega
theorem ed_sav {rv av : Nat → Value} {P : Pl} {ow : Nat → Bool} {d : Nat} {v : Value} (h : d < 16) : setL (arrL 80 (edF rv av P ow)) (d * 3 + 1) [v] = arrL 80 (edF rv (upd av d v) P ow) := by
  rw [arrL_set (by omega)]
  refine arrL_congr fun j hj => ?_
  unfold updV edF nvF upd
  by_cases e : j = d * 3 + 1
  · subst e; rw [if_pos rfl, if_pos (by omega), if_pos (by omega), if_neg (by omega), if_pos (by omega), if_pos (by omega)]
  · rw [if_neg e]
    repeat' split
    all_goals first | rfl | omega
theorem ed_sifc {rv av : Nat → Value} {P : Pl} {ow : Nat → Bool} {d : Nat} {m : Int} (h : d < 16) : setL (arrL 80 (edF rv av P ow)) (d * 3 + 2) [.int .u16 m] = arrL 80 (edF rv av { P with ifc := upd P.ifc d m } ow) := by
  rw [arrL_set (by omega)]
  refine arrL_congr fun j hj => ?_
  unfold updV edF nvF upd
  dsimp only
  by_cases e : j = d * 3 + 2
  · subst e; rw [if_pos rfl, if_pos (by omega), if_pos (by omega), if_neg (by omega), if_neg (by omega), if_pos (by omega)]
  · rw [if_neg e]
    repeat' split
    all_goals first | rfl | omega
theorem ed_slink {rv av : Nat → Value} {P : Pl} {ow : Nat → Bool} {d : Nat} {m : Int} (h : d < 16) : setL (arrL 80 (edF rv av P ow)) (48 + d) [.int .u16 m] = arrL 80 (edF rv av { P with link := upd P.link d m } ow) := by
  rw [arrL_set (by omega)]
  refine arrL_congr fun j hj => ?_
  unfold updV edF nvF upd
  dsimp only
  by_cases e : j = 48 + d
  · subst e; rw [if_pos rfl, if_pos (by omega), if_neg (by omega), if_pos (by omega)]
  · rw [if_neg e]
    repeat' split
    all_goals first | rfl | omega
theorem ed_sow {rv av : Nat → Value} {P : Pl} {ow : Nat → Bool} {d : Nat} {m : Bool} (h : d < 16) : setL (arrL 80 (edF rv av P ow)) (64 + d) [.bool m] = arrL 80 (edF rv av P (upd ow d m)) := by
  rw [arrL_set (by omega)]
  refine arrL_congr fun j hj => ?_
  unfold updV edF nvF upd
  by_cases e : j = 64 + d
  · subst e; rw [if_pos rfl, if_neg (by omega), if_pos (by omega)]
  · rw [if_neg e]
    repeat' split
    all_goals first | rfl | omega
theorem ed_sow' {rv av : Nat → Value} {P : Pl} {ow : Nat → Bool} {d : Nat} {m : Bool} (h : d < 16) : setL (arrL 80 (edF rv av P ow)) (0 + 64 + d * 1) [.bool m] = arrL 80 (edF rv av P (upd ow d m)) := by
  rw [show 0 + 64 + d * 1 = 64 + d by omega]; exact ed_sow h
abbrev RowR (v : Value) (l : List Rt) (E : List (Nat × Obj)) : Prop := Row v l.length (fl Rt.vals l) 3 53 E
abbrev RowA (v : Value) (l : List Rl) (E : List (Nat × Obj)) : Prop := Row v l.length (fl Rl.vals l) 4 55 E


set_option maxHeartbeats 1000000 in
theorem setBit_spec (b o : Nat) (l : List Value) (T : TypeId) (m bb : Int) (up : Bool) (hc : l[o]? = some (.int .u16 m)) (hb : 0 ≤ bb) : Sp Try.prog 71 #[.pointer (some ⟨b, o, none⟩), .int .u8 bb, .bool up] [(b, C l T)] (fun u F' => u = .bool (bitF m bb) ∧ F' = [(b, C (setL l o [.int .u16 (setF m bb up)]) T)]) := by
  refine f_enter (args := [.pointer (some ⟨b, o, none⟩), .int .u8 bb, .bool up]) Try.func71 rfl Try.ntmps71 rfl ?_
  intro w0 w a hpre hl hh
  simp only [slotsFrom, Nat.reduceAdd] at hl
  refine c_seq ?_
  refine c_region ?_
  refine wl (wl_val hl rfl trivial (r_assign hl rfl) ?_)
  clear hl a; intro a hl
  refine w_nil ?_
  have hl2 := hl.add (t := 0) (hl.add (t := 1) (hl.add (t := 2) (hl.nil) rfl) rfl) rfl; clear hl; have hl := hl2; clear hl2
  refine then_normal ?_
  refine c_seq ?_
  refine c_region ?_
  refine wl (wl_val hl rfl trivial (r_move hl rfl) ?_)
  clear hl a; intro a hl
  refine wl (wl_val hl rfl trivial (r_nilCheck hl rfl) ?_)
  clear hl a; intro a hl
  refine wl (w_load hl hh rfl trivial one27 rfl (by repeat (first | exact find_head | apply find_tail)) (by first | exact hc | rfl) ?_)
  clear hl a; intro a hl
  refine wl (wl_val hl rfl trivial (r_move hl rfl) ?_)
  clear hl a; intro a hl
  refine wl (wl_val hl rfl trivial (r_shr hl rfl rfl (by omega)) ?_)
  clear hl a; intro a hl
  refine wl (wl_val hl rfl trivial (r_and hl rfl rfl) ?_)
  clear hl a; intro a hl
  refine wl (wl_val hl rfl trivial (r_neq hl rfl rfl) ?_)
  clear hl a; intro a hl
  refine wl (wl_val hl rfl trivial (r_assign hl rfl) ?_)
  clear hl a; intro a hl
  refine w_nil ?_
  have hl2 := hl.add (t := 0) (hl.add (t := 1) (hl.add (t := 2) (hl.add (t := 6) (hl.nil) rfl) rfl) rfl) rfl; clear hl; have hl := hl2; clear hl2
  refine then_normal ?_
  refine c_seq ?_
  refine c_seq ?_
  refine c_region ?_
  refine wl (wl_val hl rfl trivial (r_move hl rfl) ?_)
  clear hl a; intro a hl
  refine w_nil ?_
  have hl2 := hl.add (t := 0) (hl.add (t := 1) (hl.add (t := 6) (hl.add (t := 14) (hl.nil) rfl) rfl) rfl) rfl; clear hl; have hl := hl2; clear hl2
  refine then_normal ?_
  refine c_cond hl rfl ?_ ?_
  · intro hc0
    try simp only [decide_eq_true_eq, decide_eq_false_iff_not, Bool.not_eq_true', Bool.not_eq_false', Bool.not_eq_true, Bool.not_eq_false, Bool.and_eq_true, Bool.or_eq_true, Bool.and_eq_false_iff, Bool.or_eq_false_iff, Bool.not_not, ne_eq, Int.not_lt, Int.not_le, Decidable.not_not, beq_iff_eq, bne_iff_ne] at hc0
    refine c_region ?_
    refine wl (wl_val hl rfl trivial (r_move hl rfl) ?_)
    clear hl a; intro a hl
    refine wl (wl_val hl rfl trivial (r_nilCheck hl rfl) ?_)
    clear hl a; intro a hl
    refine wl (w_load hl hh rfl trivial one27 rfl (by repeat (first | exact find_head | apply find_tail)) (by first | exact hc | rfl) ?_)
    clear hl a; intro a hl
    refine wl (wl_val hl rfl trivial (r_move hl rfl) ?_)
    clear hl a; intro a hl
    refine wl (wl_val hl rfl trivial (r_shl hl rfl rfl (by omega)) ?_)
    clear hl a; intro a hl
    refine wl (wl_val hl rfl trivial (r_or hl rfl rfl) ?_)
    clear hl a; intro a hl
    refine wl (wl_val hl rfl trivial (r_nilCheck hl rfl) ?_)
    clear hl a; intro a hl
    refine wl (w_store hl hh trivial one27 rfl rfl (by repeat (first | exact find_head | apply find_tail)) (by first | (simp; done) | (simp; omega) | (have := (List.getElem?_eq_some_iff.1 hc).1; omega)) (by first | rfl | assumption | (apply Row.one; assumption)) (by first | rfl | (simp only [setL, List.getElem?_cons_zero, List.getElem?_cons_succ, Value.cells, List.take_zero, List.take_succ_cons, List.take_nil, List.drop_zero, List.drop_succ_cons, List.drop_nil, List.length_cons, List.length_nil, List.cons_append, List.nil_append, List.append_nil, Nat.zero_add, Nat.add_zero, Nat.reduceAdd, Nat.reduceBEq, Nat.reduceEqDiff, Nat.ble, BEq.rfl, Bool.and_true, Bool.and_self, cond_true, beq_self_eq_true]; rfl)) ?_)
    clear hh w; intro w hh
    refine w_nil ?_
    have hl2 := hl.add (t := 6) (hl.nil) rfl; clear hl; have hl := hl2; clear hl2
    refine then_normal ?_
    refine c_seq ?_
    refine c_region ?_
    refine wl (wl_val hl rfl trivial (r_move hl rfl) ?_)
    clear hl a; intro a hl
    refine wl (wl_val hl rfl trivial (r_assign hl rfl) ?_)
    clear hl a; intro a hl
    refine w_nil ?_
    have hl2 := hl.add (t := 6) (hl.nil) rfl; clear hl; have hl := hl2; clear hl2
    refine then_normal ?_
    refine wp_ret ?_
    refine f_ret1 (F' := [(b, C (setL l o [.int .u16 (setF m bb up)]) T)]) hl hh rfl rfl (by repeat (first | exact keeps_nil | apply keeps_cons (by repeat (first | exact find_head | apply find_tail)) (by first  | (unfold setF shlB; rw [hc0]; rfl) | rfl) | exact keeps_self | apply keeps_mv)) ?_
    exact ⟨rfl, rfl⟩
  · intro hc0
    try simp only [decide_eq_true_eq, decide_eq_false_iff_not, Bool.not_eq_true', Bool.not_eq_false', Bool.not_eq_true, Bool.not_eq_false, Bool.and_eq_true, Bool.or_eq_true, Bool.and_eq_false_iff, Bool.or_eq_false_iff, Bool.not_not, ne_eq, Int.not_lt, Int.not_le, Decidable.not_not, beq_iff_eq, bne_iff_ne] at hc0
    refine c_region ?_
    refine wl (wl_val hl rfl trivial (r_move hl rfl) ?_)
    clear hl a; intro a hl
    refine wl (wl_val hl rfl trivial (r_nilCheck hl rfl) ?_)
    clear hl a; intro a hl
    refine wl (w_load hl hh rfl trivial one27 rfl (by repeat (first | exact find_head | apply find_tail)) (by first | exact hc | rfl) ?_)
    clear hl a; intro a hl
    refine wl (wl_val hl rfl trivial (r_move hl rfl) ?_)
    clear hl a; intro a hl
    refine wl (wl_val hl rfl trivial (r_shl hl rfl rfl (by omega)) ?_)
    clear hl a; intro a hl
    refine wl (wl_val hl rfl trivial (r_andNot hl rfl rfl) ?_)
    clear hl a; intro a hl
    refine wl (wl_val hl rfl trivial (r_nilCheck hl rfl) ?_)
    clear hl a; intro a hl
    refine wl (w_store hl hh trivial one27 rfl rfl (by repeat (first | exact find_head | apply find_tail)) (by first | (simp; done) | (simp; omega) | (have := (List.getElem?_eq_some_iff.1 hc).1; omega)) (by first | rfl | assumption | (apply Row.one; assumption)) (by first | rfl | (simp only [setL, List.getElem?_cons_zero, List.getElem?_cons_succ, Value.cells, List.take_zero, List.take_succ_cons, List.take_nil, List.drop_zero, List.drop_succ_cons, List.drop_nil, List.length_cons, List.length_nil, List.cons_append, List.nil_append, List.append_nil, Nat.zero_add, Nat.add_zero, Nat.reduceAdd, Nat.reduceBEq, Nat.reduceEqDiff, Nat.ble, BEq.rfl, Bool.and_true, Bool.and_self, cond_true, beq_self_eq_true]; rfl)) ?_)
    clear hh w; intro w hh
    refine w_nil ?_
    have hl2 := hl.add (t := 6) (hl.nil) rfl; clear hl; have hl := hl2; clear hl2
    refine then_normal ?_
    refine c_seq ?_
    refine c_region ?_
    refine wl (wl_val hl rfl trivial (r_move hl rfl) ?_)
    clear hl a; intro a hl
    refine wl (wl_val hl rfl trivial (r_assign hl rfl) ?_)
    clear hl a; intro a hl
    refine w_nil ?_
    have hl2 := hl.add (t := 6) (hl.nil) rfl; clear hl; have hl := hl2; clear hl2
    refine then_normal ?_
    refine wp_ret ?_
    refine f_ret1 (F' := [(b, C (setL l o [.int .u16 (setF m bb up)]) T)]) hl hh rfl rfl (by repeat (first | exact keeps_nil | apply keeps_cons (by repeat (first | exact find_head | apply find_tail)) (by first  | (unfold setF shlB; rw [hc0]; rfl) | rfl) | exact keeps_self | apply keeps_mv)) ?_
    exact ⟨rfl, rfl⟩

set_option maxHeartbeats 1000000 in
theorem dev_own (eb d : Nat) (rv av : Nat → Value) (P : Pl) (ow : Nat → Bool) (hd : d < 16) (ho : ow d = true) : Sp Try.prog 69 #[.pointer (some ⟨eb, 0, none⟩), .int .u8 (d : Int)] [(eb, C (arrL 80 (edF rv av P ow)) 133)] (fun u F' => u = .pointer (some ⟨eb, d * 3, none⟩) ∧ F' = [(eb, C (arrL 80 (edF rv av P ow)) 133)]) := by
  refine f_enter (args := [.pointer (some ⟨eb, 0, none⟩), .int .u8 (d : Int)]) Try.func69 rfl Try.ntmps69 rfl ?_
  intro w0 w a hpre hl hh
  simp only [slotsFrom, Nat.reduceAdd] at hl
  refine c_seq ?_
  refine c_region ?_
  refine wl (wl_val hl rfl trivial (r_assign hl rfl) ?_)
  clear hl a; intro a hl
  refine w_nil ?_
  have hl2 := hl.add (t := 0) (hl.add (t := 1) (hl.nil) rfl) rfl; clear hl; have hl := hl2; clear hl2
  refine then_normal ?_
  refine c_seq ?_
  refine c_region ?_
  refine wl (wl_val hl rfl trivial (r_move hl rfl) ?_)
  clear hl a; intro a hl
  refine wl (wl_val hl rfl trivial (r_move hl rfl) ?_)
  clear hl a; intro a hl
  refine wl (wl_val hl rfl trivial (r_nilCheck hl rfl) ?_)
  clear hl a; intro a hl
  refine wl (wl_val hl rfl trivial (r_field hl rfl fld133_0) ?_)
  clear hl a; intro a hl
  refine wl (wl_val hl rfl trivial (r_field hl rfl fld33_0) ?_)
  clear hl a; intro a hl
  refine wl (wl_val hl rfl trivial (r_indexA hl rfl rfl arr30 (by omega) (by omega) (by first | (simp only [Int.reduceToNat]; rfl) | exact toNat_add1 _ | exact toNat_add2 _ _ | exact toNat_emod _ _ | exact Int.toNat_natCast _ | rfl)) ?_)
  clear hl a; intro a hl
  rw [show 0 + 0 + 0 + d * 3 = d * 3 by omega] at hl
  refine wl (wl_val hl rfl trivial (r_assign hl rfl) ?_)
  clear hl a; intro a hl
  refine w_nil ?_
  have hl2 := hl.add (t := 0) (hl.add (t := 1) (hl.add (t := 5) (hl.nil) rfl) rfl) rfl; clear hl; have hl := hl2; clear hl2
  refine then_normal ?_
  refine c_seq ?_
  refine c_seq ?_
  refine c_region ?_
  refine wl (wl_val hl rfl trivial (r_move hl rfl) ?_)
  clear hl a; intro a hl
  refine wl (wl_val hl rfl trivial (r_move hl rfl) ?_)
  clear hl a; intro a hl
  refine wl (wl_val hl rfl trivial (r_nilCheck hl rfl) ?_)
  clear hl a; intro a hl
  refine wl (wl_val hl rfl trivial (r_field hl rfl fld133_1) ?_)
  clear hl a; intro a hl
  refine wl (wl_val hl rfl trivial (r_indexA hl rfl rfl arr113 (by omega) (by omega) (by first | (simp only [Int.reduceToNat]; rfl) | exact toNat_add1 _ | exact toNat_add2 _ _ | exact toNat_emod _ _ | exact Int.toNat_natCast _ | rfl)) ?_)
  clear hl a; intro a hl
  refine wl (w_load hl hh rfl trivial one4 rfl (by repeat (first | exact find_head | apply find_tail)) (by rw [show 0 + 64 + d * 1 = 64 + d by omega]; exact ed_ow hd) ?_)
  clear hl a; intro a hl
  rw [ho] at hl
  refine wl (wl_val hl rfl trivial (r_not hl rfl) ?_)
  clear hl a; intro a hl
  refine w_nil ?_
  have hl2 := hl.add (t := 0) (hl.add (t := 1) (hl.add (t := 5) (hl.add (t := 18) (hl.nil) rfl) rfl) rfl) rfl; clear hl; have hl := hl2; clear hl2
  refine then_normal ?_
  refine c_cond hl rfl ?_ ?_
  · intro hc0
    try simp only [decide_eq_true_eq, decide_eq_false_iff_not, Bool.not_eq_true', Bool.not_eq_false', Bool.not_eq_true, Bool.not_eq_false, Bool.and_eq_true, Bool.or_eq_true, Bool.and_eq_false_iff, Bool.or_eq_false_iff, Bool.not_not, ne_eq, Int.not_lt, Int.not_le, Decidable.not_not, beq_iff_eq, bne_iff_ne] at hc0
    exfalso; first | contradiction | (simp at hc0; done)
  · intro hc0
    try simp only [decide_eq_true_eq, decide_eq_false_iff_not, Bool.not_eq_true', Bool.not_eq_false', Bool.not_eq_true, Bool.not_eq_false, Bool.and_eq_true, Bool.or_eq_true, Bool.and_eq_false_iff, Bool.or_eq_false_iff, Bool.not_not, ne_eq, Int.not_lt, Int.not_le, Decidable.not_not, beq_iff_eq, bne_iff_ne] at hc0
    refine wp_skip ?_
    refine then_normal ?_
    refine c_seq ?_
    refine c_region ?_
    refine wl (wl_val hl rfl trivial (r_move hl rfl) ?_)
    clear hl a; intro a hl
    refine wl (wl_val hl rfl trivial (r_assign hl rfl) ?_)
    clear hl a; intro a hl
    refine w_nil ?_
    have hl2 := hl.add (t := 4) (hl.nil) rfl; clear hl; have hl := hl2; clear hl2
    refine then_normal ?_
    refine wp_ret ?_
    refine f_ret1 (F' := [(eb, C (arrL 80 (edF rv av P ow)) 133)]) hl hh rfl rfl (by repeat (first | exact keeps_nil | apply keeps_cons (by repeat (first | exact find_head | apply find_tail)) (by first  | rfl) | exact keeps_self | apply keeps_mv)) ?_
    exact ⟨rfl, rfl⟩

set_option maxHeartbeats 1000000 in
theorem dev_new (eb d : Nat) (rv av : Nat → Value) (P : Pl) (ow : Nat → Bool) (hd : d < 16) (ho : ow d = false) (Er Ea : List (Nat × Obj)) (hr : RowR (rv d) (P.rs d) Er) (ha : RowA (av d) (P.al d) Ea) (hl1 : (P.rs d).length ≤ 1000000) (hl2 : (P.al d).length ≤ 1000000) (hne : ∀ x, x ∈ Er ++ Ea → x.1 ≠ eb) : SpK Try.prog 69 #[.pointer (some ⟨eb, 0, none⟩), .int .u8 (d : Int)] (Mem (Er ++ Ea)) [(eb, C (arrL 80 (edF rv av P ow)) 133)] (fun u F' => ∃ rv' av' Er' Ea', RowR rv' (P.rs d) Er' ∧ RowA av' (P.al d) Ea' ∧ u = .pointer (some ⟨eb, d * 3, none⟩) ∧ F' = (eb, C (arrL 80 (edF (upd rv d rv') (upd av d av') P (upd ow d true))) 133) :: (Er' ++ Ea')) := by
  refine f_enter (args := [.pointer (some ⟨eb, 0, none⟩), .int .u8 (d : Int)]) Try.func69 rfl Try.ntmps69 rfl ?_
  intro w0 w a hpre hl hh
  have hneD : ∀ x, x ∈ Er ++ Ea → x.1 ∉ [(eb, C (arrL 80 (edF rv av P ow)) 133)].map Prod.fst := fun x hx => by simpa using hne x hx
  have hone1 := hr.one; have hone2 := ha.one
  simp only [slotsFrom, Nat.reduceAdd] at hl
  refine c_seq ?_
  refine c_region ?_
  refine wl (wl_val hl rfl trivial (r_assign hl rfl) ?_)
  clear hl a; intro a hl
  refine w_nil ?_
  have hl2 := hl.add (t := 0) (hl.add (t := 1) (hl.nil) rfl) rfl; clear hl; have hl := hl2; clear hl2
  refine then_normal ?_
  refine c_seq ?_
  refine c_region ?_
  refine wl (wl_val hl rfl trivial (r_move hl rfl) ?_)
  clear hl a; intro a hl
  refine wl (wl_val hl rfl trivial (r_move hl rfl) ?_)
  clear hl a; intro a hl
  refine wl (wl_val hl rfl trivial (r_nilCheck hl rfl) ?_)
  clear hl a; intro a hl
  refine wl (wl_val hl rfl trivial (r_field hl rfl fld133_0) ?_)
  clear hl a; intro a hl
  refine wl (wl_val hl rfl trivial (r_field hl rfl fld33_0) ?_)
  clear hl a; intro a hl
  refine wl (wl_val hl rfl trivial (r_indexA hl rfl rfl arr30 (by omega) (by omega) (by first | (simp only [Int.reduceToNat]; rfl) | exact toNat_add1 _ | exact toNat_add2 _ _ | exact toNat_emod _ _ | exact Int.toNat_natCast _ | rfl)) ?_)
  clear hl a; intro a hl
  rw [show 0 + 0 + 0 + d * 3 = d * 3 by omega] at hl
  refine wl (wl_val hl rfl trivial (r_assign hl rfl) ?_)
  clear hl a; intro a hl
  refine w_nil ?_
  have hl2 := hl.add (t := 0) (hl.add (t := 1) (hl.add (t := 5) (hl.nil) rfl) rfl) rfl; clear hl; have hl := hl2; clear hl2
  refine then_normal ?_
  refine c_seq ?_
  refine c_seq ?_
  refine c_region ?_
  refine wl (wl_val hl rfl trivial (r_move hl rfl) ?_)
  clear hl a; intro a hl
  refine wl (wl_val hl rfl trivial (r_move hl rfl) ?_)
  clear hl a; intro a hl
  refine wl (wl_val hl rfl trivial (r_nilCheck hl rfl) ?_)
  clear hl a; intro a hl
  refine wl (wl_val hl rfl trivial (r_field hl rfl fld133_1) ?_)
  clear hl a; intro a hl
  refine wl (wl_val hl rfl trivial (r_indexA hl rfl rfl arr113 (by omega) (by omega) (by first | (simp only [Int.reduceToNat]; rfl) | exact toNat_add1 _ | exact toNat_add2 _ _ | exact toNat_emod _ _ | exact Int.toNat_natCast _ | rfl)) ?_)
  clear hl a; intro a hl
  refine wl (w_load hl hh rfl trivial one4 rfl (by repeat (first | exact find_head | apply find_tail)) (by rw [show 0 + 64 + d * 1 = 64 + d by omega]; exact ed_ow hd) ?_)
  clear hl a; intro a hl
  rw [ho] at hl
  refine wl (wl_val hl rfl trivial (r_not hl rfl) ?_)
  clear hl a; intro a hl
  refine w_nil ?_
  have hl2 := hl.add (t := 0) (hl.add (t := 1) (hl.add (t := 5) (hl.add (t := 18) (hl.nil) rfl) rfl) rfl) rfl; clear hl; have hl := hl2; clear hl2
  refine then_normal ?_
  refine c_cond hl rfl ?_ ?_
  · intro hc0
    try simp only [decide_eq_true_eq, decide_eq_false_iff_not, Bool.not_eq_true', Bool.not_eq_false', Bool.not_eq_true, Bool.not_eq_false, Bool.and_eq_true, Bool.or_eq_true, Bool.and_eq_false_iff, Bool.or_eq_false_iff, Bool.not_not, ne_eq, Int.not_lt, Int.not_le, Decidable.not_not, beq_iff_eq, bne_iff_ne] at hc0
    refine c_seq ?_
    refine c_region ?_
    refine wl (wl_val hl rfl trivial (r_move hl rfl) ?_)
    clear hl a; intro a hl
    refine wl (wl_val hl rfl trivial (r_move hl rfl) ?_)
    clear hl a; intro a hl
    refine wl (wl_val hl rfl trivial (r_nilCheck hl rfl) ?_)
    clear hl a; intro a hl
    refine wl (wl_val hl rfl trivial (r_field hl rfl fld29_0) ?_)
    clear hl a; intro a hl
    refine wl (w_load hl hh rfl trivial one25 rfl (by repeat (first | exact find_head | apply find_tail)) (by first | exact ed_rv hd | (rw [show 0 + 0 + 0 + d * 3 = d * 3 by omega]; exact ed_rv hd)) ?_)
    clear hl a; intro a hl
    refine wl (w_appendCopy hl hh rfl trivial app25 rfl rfl rfl hr (fun b o m => mem_keepD hh hpre hneD b o (List.mem_append_left _ m)) (fl_all rt_one _) (by omega) (by omega) (by decide) ?_)
    clear hl hh a w; intro rv3 E3 a w hR3 hl hh
    have hh3 := hh.comm; clear hh; have hh := hh3; clear hh3
    simp only [List.cons_append, List.nil_append] at hh
    refine wl (wl_val hl rfl trivial (r_nilCheck hl rfl) ?_)
    clear hl a; intro a hl
    refine wl (wl_val hl rfl trivial (r_field hl rfl fld29_0) ?_)
    clear hl a; intro a hl
    refine wl (w_store hl hh trivial one25 rfl rfl (by repeat (first | exact find_head | apply find_tail)) (by rw [arrL_length]; omega) (by first | rfl | assumption | (apply Row.one; assumption)) (by first | exact ed_srv hd | (rw [show 0 + 0 + 0 + d * 3 = d * 3 by omega]; exact ed_srv hd)) ?_)
    clear hh w; intro w hh
    refine w_nil ?_
    have hl2 := hl.add (t := 0) (hl.add (t := 1) (hl.add (t := 5) (hl.nil) rfl) rfl) rfl; clear hl; have hl := hl2; clear hl2
    refine then_normal ?_
    refine c_seq ?_
    refine c_region ?_
    refine wl (wl_val hl rfl trivial (r_move hl rfl) ?_)
    clear hl a; intro a hl
    refine wl (wl_val hl rfl trivial (r_move hl rfl) ?_)
    clear hl a; intro a hl
    refine wl (wl_val hl rfl trivial (r_nilCheck hl rfl) ?_)
    clear hl a; intro a hl
    refine wl (wl_val hl rfl trivial (r_field hl rfl fld29_1) ?_)
    clear hl a; intro a hl
    refine wl (w_load hl hh rfl trivial one26 rfl (by repeat (first | exact find_head | apply find_tail)) (by first | exact ed_av hd | (rw [show 0 + 0 + 0 + d * 3 = d * 3 by omega]; exact ed_av hd)) ?_)
    clear hl a; intro a hl
    refine wl (w_appendCopy hl hh rfl trivial app26 rfl rfl rfl ha (fun b o m => mem_keepD hh hpre hneD b o (List.mem_append_right _ m)) (fl_all rl_one _) (by omega) (by omega) (by decide) ?_)
    clear hl hh a w; intro rv4 E4 a w hR4 hl hh
    have hh3 := hh.comm; clear hh; have hh := hh3; clear hh3
    simp only [List.cons_append, List.nil_append] at hh
    refine wl (wl_val hl rfl trivial (r_nilCheck hl rfl) ?_)
    clear hl a; intro a hl
    refine wl (wl_val hl rfl trivial (r_field hl rfl fld29_1) ?_)
    clear hl a; intro a hl
    refine wl (w_store hl hh trivial one26 rfl rfl (by repeat (first | exact find_head | apply find_tail)) (by rw [arrL_length]; omega) (by first | rfl | assumption | (apply Row.one; assumption)) (by first | exact ed_sav hd | (rw [show 0 + 0 + 0 + d * 3 = d * 3 by omega]; exact ed_sav hd)) ?_)
    clear hh w; intro w hh
    refine w_nil ?_
    have hl2 := hl.add (t := 0) (hl.add (t := 1) (hl.add (t := 5) (hl.nil) rfl) rfl) rfl; clear hl; have hl := hl2; clear hl2
    refine then_normal ?_
    refine c_region ?_
    refine wl (wl_val hl rfl trivial (r_move hl rfl) ?_)
    clear hl a; intro a hl
    refine wl (wl_val hl rfl trivial (r_move hl rfl) ?_)
    clear hl a; intro a hl
    refine wl (wl_val hl rfl trivial (r_nilCheck hl rfl) ?_)
    clear hl a; intro a hl
    refine wl (wl_val hl rfl trivial (r_field hl rfl fld133_1) ?_)
    clear hl a; intro a hl
    refine wl (wl_val hl rfl trivial (r_indexA hl rfl rfl arr113 (by omega) (by omega) (by first | (simp only [Int.reduceToNat]; rfl) | exact toNat_add1 _ | exact toNat_add2 _ _ | exact toNat_emod _ _ | exact Int.toNat_natCast _ | rfl)) ?_)
    clear hl a; intro a hl
    refine wl (w_store hl hh trivial one4 rfl rfl (by repeat (first | exact find_head | apply find_tail)) (by rw [arrL_length]; omega) (by first | rfl | assumption | (apply Row.one; assumption)) (by exact ed_sow' hd) ?_)
    clear hh w; intro w hh
    refine w_nil ?_
    have hl2 := hl.add (t := 5) (hl.nil) rfl; clear hl; have hl := hl2; clear hl2
    refine then_normal ?_
    refine c_seq ?_
    refine c_region ?_
    refine wl (wl_val hl rfl trivial (r_move hl rfl) ?_)
    clear hl a; intro a hl
    refine wl (wl_val hl rfl trivial (r_assign hl rfl) ?_)
    clear hl a; intro a hl
    refine w_nil ?_
    have hl2 := hl.add (t := 4) (hl.nil) rfl; clear hl; have hl := hl2; clear hl2
    refine then_normal ?_
    refine wp_ret ?_
    refine f_ret1 (F' := (eb, C (arrL 80 (edF (upd rv d rv3) (upd av d rv4) P (upd ow d true))) 133) :: (E3 ++ E4)) hl hh rfl rfl (by repeat (first | exact keeps_nil | apply keeps_cons (by repeat (first | exact find_head | apply find_tail)) (by first  | rfl) | exact keeps_self | exact keeps_left | exact keeps_right | exact keeps_swap | apply keeps_mv)) ?_
    exact ⟨rv3, rv4, E3, E4, hR3, hR4, rfl, rfl⟩
  · intro hc0
    try simp only [decide_eq_true_eq, decide_eq_false_iff_not, Bool.not_eq_true', Bool.not_eq_false', Bool.not_eq_true, Bool.not_eq_false, Bool.and_eq_true, Bool.or_eq_true, Bool.and_eq_false_iff, Bool.or_eq_false_iff, Bool.not_not, ne_eq, Int.not_lt, Int.not_le, Decidable.not_not, beq_iff_eq, bne_iff_ne] at hc0
    exfalso; first | contradiction | (simp at hc0; done)
end Go.Proofs.Qxb6500907a

import Derived.Test.Qxb6500907aN6
namespace Go.Proofs.Qxb6500907a
open Go.Eng
set_option linter.unusedVariables false
set_option linter.unusedSimpArgs false

theorem nv_rv {rv av : Nat → Value} {P : Pl} {d : Nat} (h : d < 16) : (arrL 64 (nvF rv av P))[0 + 0 + d * 3 + 0]? = some (rv d) := by
  rw [arrL_get (by omega)]; unfold nvF; rw [if_pos (by omega), if_pos (by omega), show (0 + 0 + d * 3 + 0) / 3 = d by omega]
theorem nv_av {rv av : Nat → Value} {P : Pl} {d : Nat} (h : d < 16) : (arrL 64 (nvF rv av P))[0 + 0 + d * 3 + 1]? = some (av d) := by
  rw [arrL_get (by omega)]; unfold nvF; rw [if_pos (by omega), if_neg (by omega), if_pos (by omega), show (0 + 0 + d * 3 + 1) / 3 = d by omega]
theorem nv_srv {rv av : Nat → Value} {P : Pl} {d : Nat} {v : Value} (h : d < 16) : setL (arrL 64 (nvF rv av P)) (0 + 0 + d * 3 + 0) [v] = arrL 64 (nvF (upd rv d v) av P) := by
  rw [arrL_set (by omega)]
  refine arrL_congr fun j hj => ?_
  unfold updV nvF upd
  by_cases e : j = 0 + 0 + d * 3 + 0
  · subst e; rw [if_pos rfl, if_pos (by omega), if_pos (by omega), if_pos (by omega)]
  · rw [if_neg e]
    repeat' split
    all_goals first | rfl | omega
theorem nv_sav {rv av : Nat → Value} {P : Pl} {d : Nat} {v : Value} (h : d < 16) : setL (arrL 64 (nvF rv av P)) (0 + 0 + d * 3 + 1) [v] = arrL 64 (nvF rv (upd av d v) P) := by
  rw [arrL_set (by omega)]
  refine arrL_congr fun j hj => ?_
  unfold updV nvF upd
  by_cases e : j = 0 + 0 + d * 3 + 1
  · subst e; rw [if_pos rfl, if_pos (by omega), if_neg (by omega), if_pos (by omega), if_pos (by omega)]
  · rw [if_neg e]
    repeat' split
    all_goals first | rfl | omega
theorem nv_dev {rv av : Nat → Value} {P : Pl} {d : Nat} (h : d < 16) : ((arrL 64 (nvF rv av P)).drop (0 + 0 + d * 3)).take 3 = [rv d, av d, .int .u16 (P.ifc d)] := by
  apply List.ext_getElem?
  intro j
  rw [List.getElem?_take]
  by_cases hj : j < 3
  · rw [if_pos hj, List.getElem?_drop]
    have : j = 0 ∨ j = 1 ∨ j = 2 := by omega
    rcases this with rfl | rfl | rfl
    · exact nv_rv h
    · exact nv_av h
    · rw [arrL_get (by omega)]; unfold nvF; rw [if_pos (by omega), if_neg (by omega), if_neg (by omega), show (0 + 0 + d * 3 + 2) / 3 = d by omega]; rfl
  · rw [if_neg hj, List.getElem?_eq_none (by simp; omega)]
theorem nv_links (rv av : Nat → Value) (P : Pl) : ((arrL 64 (nvF rv av P)).drop (0 + 48)).take 16 = arrL 16 (fun j => .int .u16 (P.link j)) := by
  apply List.ext_getElem?
  intro j
  rw [List.getElem?_take]
  by_cases hj : j < 16
  · rw [if_pos hj, List.getElem?_drop, arrL_get (by omega), arrL_get hj]; unfold nvF; rw [if_neg (by omega), show 0 + 48 + j - 48 = j by omega]
  · rw [if_neg hj, List.getElem?_eq_none (by rw [arrL_length]; omega)]
structure SS where
  d : Nat
  rv : Nat → Value
  av : Nat → Value
  E : List (Nat × Obj)
/-- the lists copied so far -/
theorem NetR.upR {rv av : Nat → Value} {P : Pl} {Z E : List (Nat × Obj)} (h : NetR rv av P Z) {d : Nat} (hd : d < 16) {v : Value} (hr : RowR v (P.rs d) E) : NetR (upd rv d v) av P (Z ++ E) := fun j hj => by
  obtain ⟨Er, Ea, h1, h2, h3⟩ := h j hj
  by_cases e : j = d
  · subst e
    exact ⟨E, Ea, by rw [upd_same]; exact hr, h2, fun x hx => by rcases List.mem_append.1 hx with hx | hx; exact List.mem_append_right _ hx; exact List.mem_append_left _ (h3 x (List.mem_append_right _ hx))⟩
  · exact ⟨Er, Ea, by rw [upd_other _ _ e]; exact h1, h2, fun x hx => List.mem_append_left _ (h3 x hx)⟩
theorem NetR.upA {rv av : Nat → Value} {P : Pl} {Z E : List (Nat × Obj)} (h : NetR rv av P Z) {d : Nat} (hd : d < 16) {v : Value} (hr : RowA v (P.al d) E) : NetR rv (upd av d v) P (Z ++ E) := fun j hj => by
  obtain ⟨Er, Ea, h1, h2, h3⟩ := h j hj
  by_cases e : j = d
  · subst e
    exact ⟨Er, E, h1, by rw [upd_same]; exact hr, fun x hx => by rcases List.mem_append.1 hx with hx | hx; exact List.mem_append_left _ (h3 x (List.mem_append_left _ hx)); exact List.mem_append_right _ hx⟩
  · exact ⟨Er, Ea, h1, by rw [upd_other _ _ e]; exact h2, fun x hx => List.mem_append_left _ (h3 x hx)⟩
theorem mem_ze {w0 w : World} {F Z E : List (Nat × Obj)} (hh : Has [] w0 F w) (hp : Mem Z w0) (hE : ∀ x, x ∈ E → x ∈ F) : Mem (Z ++ E) w := fun b o m => by
  rcases List.mem_append.1 m with m | m
  · exact mem_keep hh hp b o m
  · exact hh.mem b o (hE _ m)


set_option maxHeartbeats 1000000 in
theorem place_nil : Sp Try.prog 16 #[.nilIface] [] (fun v F' => v = .tuple #[.int .u8 0, .int .i64 (-1)] ∧ F' = []) := by
  refine f_enter (args := [.nilIface]) Try.func16 rfl Try.ntmps16 rfl ?_
  intro w0 w a hpre hl hh
  simp only [slotsFrom, Nat.reduceAdd] at hl
  refine c_seq ?_
  refine c_region ?_
  refine wl (wl_val hl rfl trivial (r_assign hl rfl) ?_)
  clear hl a; intro a hl
  refine wl (wl_val hl rfl trivial (r_assign hl rfl) ?_)
  clear hl a; intro a hl
  refine w_nil ?_
  have hl2 := hl.add (t := 0) (hl.nil) rfl; clear hl; have hl := hl2; clear hl2
  refine then_normal ?_
  refine c_seq ?_
  refine c_seq ?_
  refine c_region ?_
  refine wl (wl_val hl rfl trivial (r_move hl rfl) ?_)
  clear hl a; intro a hl
  first | refine wl (wl_val hl rfl trivial (r_eql_ifcN hl rfl ifc39) ?_) | refine wl (wl_val hl rfl trivial (r_eql_ifcS hl rfl ifc39) ?_)
  clear hl a; intro a hl
  refine w_nil ?_
  have hl2 := hl.add (t := 0) (hl.add (t := 6) (hl.nil) rfl) rfl; clear hl; have hl := hl2; clear hl2
  refine then_normal ?_
  refine c_cond hl rfl ?_ ?_
  · intro hc0
    try simp only [decide_eq_true_eq, decide_eq_false_iff_not, Bool.not_eq_true', Bool.not_eq_false', Bool.not_eq_true, Bool.not_eq_false, Bool.and_eq_true, Bool.or_eq_true, Bool.and_eq_false_iff, Bool.or_eq_false_iff, Bool.not_not, ne_eq, Int.not_lt, Int.not_le, Decidable.not_not, beq_iff_eq, bne_iff_ne] at hc0
    refine c_seq ?_
    refine c_region ?_
    refine wl (wl_val hl rfl trivial (r_assign hl rfl) ?_)
    clear hl a; intro a hl
    refine wl (wl_val hl rfl trivial (r_assign hl rfl) ?_)
    clear hl a; intro a hl
    refine w_nil ?_
    have hl2 := hl.add (t := 2) (hl.add (t := 3) (hl.nil) rfl) rfl; clear hl; have hl := hl2; clear hl2
    refine then_normal ?_
    refine wp_ret ?_
    refine then_ret ?_
    refine f_ret2 (F' := []) hl hh rfl rfl rfl (by repeat (first | exact keeps_nil | apply keeps_cons (by repeat (first | exact find_head | apply find_tail)) (by first  | rfl) | exact keeps_self | apply keeps_mv)) ?_
    exact ⟨rfl, rfl⟩
  · intro hc0
    try simp only [decide_eq_true_eq, decide_eq_false_iff_not, Bool.not_eq_true', Bool.not_eq_false', Bool.not_eq_true, Bool.not_eq_false, Bool.and_eq_true, Bool.or_eq_true, Bool.and_eq_false_iff, Bool.or_eq_false_iff, Bool.not_not, ne_eq, Int.not_lt, Int.not_le, Decidable.not_not, beq_iff_eq, bne_iff_ne] at hc0
    cases hc0

set_option maxHeartbeats 1000000 in
theorem rules_spec (p1 p2 : Option Addr) (n1 n2 c1 c2 : Nat) (fi : Int) (h1 : n1 ≤ 1000000) (h2 : n2 ≤ 1000000) : Sp Try.prog 23 #[.agg ⟨[.slice p1 n1 c1, .slice p2 n2 c2, .int .u16 fi]⟩] [] (fun v F' => v = .int .i64 ((n1 + n2 : Nat) : Int) ∧ F' = []) := by
  refine f_enter (args := [.agg ⟨[.slice p1 n1 c1, .slice p2 n2 c2, .int .u16 fi]⟩]) Try.func23 rfl Try.ntmps23 rfl ?_
  intro w0 w a hpre hl hh
  simp only [slotsFrom, Nat.reduceAdd] at hl
  refine c_seq ?_
  refine c_region ?_
  refine wl (w_box hl hh rfl trivial rfl rfl ?_)
  clear hl hh a w; intro k1 a w hl hh
  refine wl (wl_val hl rfl trivial (r_assign hl rfl) ?_)
  clear hl a; intro a hl
  refine w_nil ?_
  have hl2 := hl.add (t := 1) (hl.nil) rfl; clear hl; have hl := hl2; clear hl2
  refine then_normal ?_
  refine c_seq ?_
  refine c_region ?_
  refine wl (wl_val hl rfl trivial (r_field hl rfl fld29_0) ?_)
  clear hl a; intro a hl
  refine wl (w_load hl hh rfl trivial one25 rfl (by repeat (first | exact find_head | apply find_tail)) (by first | rfl) ?_)
  clear hl a; intro a hl
  refine wl (wl_val hl rfl trivial (r_lenS hl rfl slc25) ?_)
  clear hl a; intro a hl
  refine wl (wl_val hl rfl trivial (r_field hl rfl fld29_1) ?_)
  clear hl a; intro a hl
  refine wl (w_load hl hh rfl trivial one26 rfl (by repeat (first | exact find_head | apply find_tail)) (by first | rfl) ?_)
  clear hl a; intro a hl
  refine wl (wl_val hl rfl trivial (r_lenS hl rfl slc26) ?_)
  clear hl a; intro a hl
  first | refine wl (wl_val hl rfl trivial (r_add hl rfl rfl (by simp only [Fits]; omega)) ?_) | refine wl (wl_val hl rfl trivial (r_addW hl rfl rfl) ?_)
  clear hl a; intro a hl
  refine wl (wl_val hl rfl trivial (r_assign hl rfl) ?_)
  clear hl a; intro a hl
  refine w_nil ?_
  have hl2 := hl.add (t := 2) (hl.nil) rfl; clear hl; have hl := hl2; clear hl2
  refine then_normal ?_
  refine wp_ret ?_
  refine f_ret1 (F' := []) hl hh rfl rfl (by repeat (first | exact keeps_nil | apply keeps_cons (by repeat (first | exact find_head | apply find_tail)) (by first  | rfl) | exact keeps_self | apply keeps_mv)) ?_
  exact ⟨rfl, rfl⟩

set_option maxHeartbeats 4000000 in
theorem snap_spec (rv av : Nat → Value) (P : Pl) (Z : List (Nat × Obj)) (hN : NetR rv av P Z) (hP : POk P) : SpK Try.prog 22 #[.agg ⟨arrL 64 (nvF rv av P)⟩] (Mem Z) [] (fun u F' => ∃ rv' av', NetR rv' av' P (Z ++ F') ∧ u = .agg ⟨arrL 64 (nvF rv' av' P)⟩) := by
  refine f_enter (args := [.agg ⟨arrL 64 (nvF rv av P)⟩]) Try.func22 rfl Try.ntmps22 rfl ?_
  intro w0 w a hpre hl hh
  simp only [slotsFrom, Nat.reduceAdd] at hl
  refine c_seq ?_
  refine c_region ?_
  refine wl (w_box hl hh rfl trivial rfl rfl ?_)
  clear hl hh a w; intro k1 a w hl hh
  refine wl (w_alloc hl hh rfl trivial zero33 rfl ?_)
  clear hl hh a w; intro k2 a w hl hh
  refine w_nil ?_
  have hl2 := hl.add (t := 1) (hl.add (t := 2) (hl.nil) rfl) rfl; clear hl; have hl := hl2; clear hl2
  refine then_normal ?_
  refine c_seq ?_
  refine c_seq ?_
  refine c_region ?_
  refine wl (wl_val hl rfl trivial (r_move hl rfl) ?_)
  clear hl a; intro a hl
  refine w_nil ?_
  have hl2 := hl.add (t := 1) (hl.add (t := 2) (hl.add (t := 4) (hl.nil) rfl) rfl) rfl; clear hl; have hl := hl2; clear hl2
  refine then_normal ?_
  refine wp_block ?_
  obtain ⟨KS0, hKS0, hk⟩ := (hl.add (t := 1) (hl.add (t := 2) (hl.nil) rfl) rfl).name
  obtain ⟨HS0, hHS0, hh2⟩ := hh.nameT (A := [(k1, C (arrL 64 (nvF rv av P)) 33), (k2, C (arrL 64 (nvF nilV nilV pz)) 33)]) (U := []) (keeps_cons (b := k1) (o' := C (arrL 64 (nvF rv av P)) 33) (by repeat (first | exact find_head | apply find_tail)) (by first | rfl) (keeps_cons (b := k2) (by repeat (first | exact find_head | apply find_tail)) (by first | rfl) ((by repeat (first | exact keeps_nil | exact keeps_self | exact keeps_swap | apply keeps_mv)))))
  refine c_loop (α := SS) (fun s => 16 - s.d) (fun s a w => (s.d ≤ 16 ∧ NetR s.rv s.av P (Z ++ s.E)) ∧ Sl 29 ([(4, .int .i64 (s.d : Int))] ++ KS0) a ∧ Has _ w0 ([(k1, C (arrL 64 (nvF s.rv s.av P)) 33), (k2, C (arrL 64 (nvF nilV nilV pz)) 33)] ++ (HS0 ++ s.E)) w) ⟨0, rv, av, []⟩ ⟨⟨by simp, by simpa using hN⟩, hl.addE (t := 4) (hk) rfl (by first | rfl), (by first | exact hh2 | (simp only [List.append_nil]; simp only [List.append_nil] at hh2; exact hh2) | (simp only [List.append_nil]; exact hh2))⟩ ?_
  clear hk hh2 hl hh a w
  intro s a w hI
  obtain ⟨⟨hd, hI⟩, hl, hh⟩ := hI
  subst hKS0; subst hHS0
  simp only [List.cons_append, List.nil_append, List.append_nil] at hl hh
  obtain ⟨d, sr, sa, E⟩ := s
  simp only at hd hI hl hh
  refine c_seq ?_
  refine c_region ?_
  refine wl (wl_val hl rfl trivial (r_lss hl rfl rfl) ?_)
  clear hl a; intro a hl
  refine w_nil ?_
  have hl2 := hl.add (t := 1) (hl.add (t := 2) (hl.add (t := 4) (hl.add (t := 5) (hl.nil) rfl) rfl) rfl) rfl; clear hl; have hl := hl2; clear hl2
  refine then_normal ?_
  refine c_seq ?_
  refine c_cond hl rfl ?_ ?_
  · intro hc0
    try simp only [decide_eq_true_eq, decide_eq_false_iff_not, Bool.not_eq_true', Bool.not_eq_false', Bool.not_eq_true, Bool.not_eq_false, Bool.and_eq_true, Bool.or_eq_true, Bool.and_eq_false_iff, Bool.or_eq_false_iff, Bool.not_not, ne_eq, Int.not_lt, Int.not_le, Decidable.not_not, beq_iff_eq, bne_iff_ne] at hc0
    obtain ⟨Er, Ea, hr, ha, hz⟩ := hI d (by omega)
    have hl64 := hP.len d (by omega)
    have hone1 := hr.one; have hone2 := ha.one
    refine wp_skip ?_
    refine then_normal ?_
    refine c_seq ?_
    refine wp_block ?_
    refine c_seq ?_
    refine c_region ?_
    refine wl (wl_val hl rfl trivial (r_move hl rfl) ?_)
    clear hl a; intro a hl
    refine wl (wl_val hl rfl trivial (r_assign hl rfl) ?_)
    clear hl a; intro a hl
    refine w_nil ?_
    have hl2 := hl.add (t := 1) (hl.add (t := 2) (hl.add (t := 3) (hl.add (t := 4) (hl.nil) rfl) rfl) rfl) rfl; clear hl; have hl := hl2; clear hl2
    refine then_normal ?_
    refine c_seq ?_
    refine c_region ?_
    refine wl (wl_val hl rfl trivial (r_move hl rfl) ?_)
    clear hl a; intro a hl
    refine wl (wl_val hl rfl trivial (r_move hl rfl) ?_)
    clear hl a; intro a hl
    refine wl (wl_val hl rfl trivial (r_field hl rfl fld33_0) ?_)
    clear hl a; intro a hl
    refine wl (wl_val hl rfl trivial (r_indexA hl rfl rfl arr30 (by omega) (by omega) (by first | (simp only [Int.reduceToNat]; rfl) | exact toNat_add1 _ | exact toNat_add2 _ _ | exact toNat_emod _ _ | exact Int.toNat_natCast _ | rfl)) ?_)
    clear hl a; intro a hl
    refine wl (wl_val hl rfl trivial (r_field hl rfl fld29_0) ?_)
    clear hl a; intro a hl
    refine wl (w_load hl hh rfl trivial one25 rfl (by repeat (first | exact find_head | apply find_tail)) (by exact nv_rv (by omega)) ?_)
    clear hl a; intro a hl
    refine wl (w_appendCopy hl hh rfl trivial app25 rfl rfl rfl hr (fun b o m => mem_ze (Z := Z) (E := E) hh hpre (fun x hx => by simp [hx]) _ _ (hz _ (List.mem_append_left _ m))) (fl_all rt_one _) (by omega) (by omega) (by decide) ?_)
    clear hl hh a w; intro rv3 E3 a w hR3 hl hh
    have hh3 := hh.comm; clear hh; have hh := hh3; clear hh3
    simp only [List.cons_append, List.nil_append] at hh
    refine wl (wl_val hl rfl trivial (r_field hl rfl fld33_0) ?_)
    clear hl a; intro a hl
    refine wl (wl_val hl rfl trivial (r_indexA hl rfl rfl arr30 (by omega) (by omega) (by first | (simp only [Int.reduceToNat]; rfl) | exact toNat_add1 _ | exact toNat_add2 _ _ | exact toNat_emod _ _ | exact Int.toNat_natCast _ | rfl)) ?_)
    clear hl a; intro a hl
    refine wl (wl_val hl rfl trivial (r_field hl rfl fld29_0) ?_)
    clear hl a; intro a hl
    refine wl (w_store hl hh trivial one25 rfl rfl (by repeat (first | exact find_head | apply find_tail)) (by rw [arrL_length]; omega) (by first | rfl | assumption | (apply Row.one; assumption)) (by exact nv_srv (by omega)) ?_)
    clear hh w; intro w hh
    refine w_nil ?_
    have hl2 := hl.add (t := 1) (hl.add (t := 2) (hl.add (t := 3) (hl.add (t := 4) (hl.nil) rfl) rfl) rfl) rfl; clear hl; have hl := hl2; clear hl2
    refine then_normal ?_
    refine c_region ?_
    refine wl (wl_val hl rfl trivial (r_move hl rfl) ?_)
    clear hl a; intro a hl
    refine wl (wl_val hl rfl trivial (r_move hl rfl) ?_)
    clear hl a; intro a hl
    refine wl (wl_val hl rfl trivial (r_field hl rfl fld33_0) ?_)
    clear hl a; intro a hl
    refine wl (wl_val hl rfl trivial (r_indexA hl rfl rfl arr30 (by omega) (by omega) (by first | (simp only [Int.reduceToNat]; rfl) | exact toNat_add1 _ | exact toNat_add2 _ _ | exact toNat_emod _ _ | exact Int.toNat_natCast _ | rfl)) ?_)
    clear hl a; intro a hl
    refine wl (wl_val hl rfl trivial (r_field hl rfl fld29_1) ?_)
    clear hl a; intro a hl
    refine wl (w_load hl hh rfl trivial one26 rfl (by repeat (first | exact find_head | apply find_tail)) (by exact nv_av (by omega)) ?_)
    clear hl a; intro a hl
    refine wl (w_appendCopy hl hh rfl trivial app26 rfl rfl rfl ha (fun b o m => mem_ze (Z := Z) (E := E) hh hpre (fun x hx => by simp [hx]) _ _ (hz _ (List.mem_append_right _ m))) (fl_all rl_one _) (by omega) (by omega) (by decide) ?_)
    clear hl hh a w; intro rv4 E4 a w hR4 hl hh
    have hh3 := hh.comm; clear hh; have hh := hh3; clear hh3
    simp only [List.cons_append, List.nil_append] at hh
    refine wl (wl_val hl rfl trivial (r_field hl rfl fld33_0) ?_)
    clear hl a; intro a hl
    refine wl (wl_val hl rfl trivial (r_indexA hl rfl rfl arr30 (by omega) (by omega) (by first | (simp only [Int.reduceToNat]; rfl) | exact toNat_add1 _ | exact toNat_add2 _ _ | exact toNat_emod _ _ | exact Int.toNat_natCast _ | rfl)) ?_)
    clear hl a; intro a hl
    refine wl (wl_val hl rfl trivial (r_field hl rfl fld29_1) ?_)
    clear hl a; intro a hl
    refine wl (w_store hl hh trivial one26 rfl rfl (by repeat (first | exact find_head | apply find_tail)) (by rw [arrL_length]; omega) (by first | rfl | assumption | (apply Row.one; assumption)) (by exact nv_sav (by omega)) ?_)
    clear hh w; intro w hh
    refine w_nil ?_
    have hl2 := hl.add (t := 1) (hl.add (t := 2) (hl.add (t := 4) (hl.nil) rfl) rfl) rfl; clear hl; have hl := hl2; clear hl2
    refine blk_normal ?_
    refine then_normal ?_
    refine c_region ?_
    first | refine wl (wl_val hl rfl trivial (r_add hl rfl rfl (by simp only [Fits]; omega)) ?_) | refine wl (wl_val hl rfl trivial (r_addW hl rfl rfl) ?_)
    clear hl a; intro a hl
    refine wl (wl_val hl rfl trivial (r_move hl rfl) ?_)
    clear hl a; intro a hl
    refine w_nil ?_
    have hl2 := hl.add (t := 1) (hl.add (t := 2) (hl.add (t := 4) (hl.nil) rfl) rfl) rfl; clear hl; have hl := hl2; clear hl2
    refine then_normal ?_
    refine ⟨⟨d + 1, upd sr d rv3, upd sa d rv4, E ++ E3 ++ E4⟩, (by simp only; omega), ⟨by simp only; omega, by have h1 := hI.upR (d := d) (by omega) hR3; have h2 := h1.upA (d := d) (by omega) hR4; simp only [List.append_assoc] at h2 ⊢; exact h2⟩, hl.addE (t := 4) (hl.addE (t := 1) (hl.addE (t := 2) (hl.nil) rfl (by first | rfl | rfl)) rfl (by first | rfl | rfl)) rfl (by first | rfl | rfl), hh.keep (by repeat (first | exact keeps_nil | apply keeps_cons (by repeat (first | exact find_head | apply find_tail)) (by first  | rfl) | exact keeps_self | exact keeps_left | exact keeps_right | exact keeps_swap | apply keeps_mv))⟩
  · intro hc0
    try simp only [decide_eq_true_eq, decide_eq_false_iff_not, Bool.not_eq_true', Bool.not_eq_false', Bool.not_eq_true, Bool.not_eq_false, Bool.and_eq_true, Bool.or_eq_true, Bool.and_eq_false_iff, Bool.or_eq_false_iff, Bool.not_not, ne_eq, Int.not_lt, Int.not_le, Decidable.not_not, beq_iff_eq, bne_iff_ne] at hc0
    refine wp_exit ?_
    refine then_exit ?_
    refine then_exit ?_
    refine blk_exit ?_
    refine then_normal ?_
    refine c_seq ?_
    refine c_region ?_
    refine wl (w_loadA hl hh rfl trivial agg33 rfl (by repeat (first | exact find_head | apply find_tail)) (by first | exact whole _ _ | exact ed_take _ _ _ _) (by rw [arrL_length]) ?_)
    clear hl a; intro a hl
    refine wl (w_storeA hl hh trivial agg33 rfl rfl (by repeat (first | exact find_head | apply find_tail)) (by rw [arrL_length]) (by rw [arrL_length]; omega) (by exact nv_one hI.one) (by exact setw _ _ _) ?_)
    clear hh w; intro w hh
    refine w_nil ?_
    have hl2 := hl.add (t := 2) (hl.nil) rfl; clear hl; have hl := hl2; clear hl2
    refine then_normal ?_
    refine wp_ret ?_
    refine f_retC (F' := E) hl hh rfl rfl agg33 (by repeat (first | exact find_head | apply find_tail)) (by first | rfl | exact arrL_length _ _ | (simp; done)) (by repeat (first | exact keeps_nil | apply keeps_cons (by repeat (first | exact find_head | apply find_tail)) (by first  | rfl) | exact keeps_self | exact keeps_left | exact keeps_right | exact keeps_swap | apply keeps_mv)) ?_
    exact ⟨sr, sa, hI, rfl⟩
end Go.Proofs.Qxb6500907a

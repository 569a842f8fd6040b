import Derived.Test.Qxb6500908aGreatX4
namespace Go.Proofs.Qxb6500908aGreat
open Go.Eng
set_option linter.unusedVariables false
set_option linter.unusedSimpArgs false
theorem cal20 : callable Tryz.prog 20 = true := by kernel_rfl
theorem ptr50 : ptrT Tryz.prog 50 = true := by kernel_rfl
theorem zero113 : zeroOk Tryz.prog 113 (.agg #[(.int .u8 0), (.int .u32 0), (.int .u32 0), (.slice none 0 0), (.int .u8 0), (.int .u8 0), (.int .u8 0), (.int .u8 0), (.int .u8 0), (.int .u8 0), (.int .u8 0), (.int .u8 0), (.int .u32 0), (.int .u32 0), (.bool false), (.int .u32 0), (.int .u32 0), (.string ⟨#[]⟩)]) := by unfold zeroOk; kernel_rfl
theorem bld113 : buildOk Tryz.prog 113 [(0, 1), (1, 1), (2, 1), (3, 1), (4, 6), (10, 8)] = true := by kernel_rfl
theorem cal19 : callable Tryz.prog 19 = true := by kernel_rfl
attribute [local irreducible] NtV.k StV.c LdV.c StV.E GtV.c GtV.t orB sh1 WoV.c wst postP

set_option maxHeartbeats 16000000 in
theorem pump_spec {lb wb : Nat} (L : LawM lb wb) (Q : LawJ L) (Z : List (Nat × Obj)) (W : WoV) (hW : W.ok Z) (n : Nat) (hn9 : n + 200 < 1000000000) (x : L.X) (Fx : List (Nat × Obj)) (hMx : L.M Z x Fx) (hK : Q.K (W.pl [] []) x) (hn : WI n (W.pl [] [])) : Sp Tryz.prog 23 #[.pointer (some ⟨wb, 0, none⟩), Lw L.T lb] (Fx ++ WoV.F wb W Z) (fun v F' => v = .bool true ∧ ∃ (W' : WoV) (G F2 : List (Nat × Obj)) (x' : L.X), W'.ok (Z ++ G) ∧ Q.K (W'.pl [] []) x' ∧ WI (n + 160) (W'.pl [] []) ∧ L.M (Z ++ G) x' F2 ∧ F' = F2 ++ WoV.F wb W' (Z ++ G)) := by
  refine f_enter (args := [.pointer (some ⟨wb, 0, none⟩), .iface L.T (.pointer (some ⟨lb, 0, none⟩))]) Tryz.func23 rfl Tryz.ntmps23 rfl ?_
  intro w0 w a hpre hl hh
  generalize hDD : List.map Prod.fst (Fx ++ WoV.F wb W Z) = D at hh ⊢
  simp only [WoV.F] at hh
  have hct := wc_td W hW.dl
  have hwl := wc_len W hW.dl
  have htl := hW.tl
  simp only [slotsFrom, Nat.reduceAdd] at hl
  refine c_seq ?_
  refine c_region ?_
  refine wl (wl_val hl rfl trivial (r_assign hl rfl) ?_)
  clear hl a; intro a hl
  refine w_nil ?_
  have hl2 := hl.add (t := 0) (hl.add (t := 1) (hl.nil) rfl) rfl; clear hl; have hl := hl2; clear hl2
  refine then_normal ?_
  refine c_seq ?_
  refine c_region ?_
  refine wl (wl_val hl rfl trivial (r_move hl rfl) ?_)
  clear hl a; intro a hl
  refine wl (wl_val hl rfl trivial (r_nilCheck hl rfl) ?_)
  clear hl a; intro a hl
  refine wl (wl_val hl rfl trivial (r_field hl rfl fld55_3) ?_)
  clear hl a; intro a hl
  refine wl (w_load hl hh rfl trivial one53 rfl (by repeat (first | exact find_head | apply find_tail | apply find_skip)) (by first | exact hct | exact (show (WoV.c (s.w W))[0 + 19]? = some (.slice s.gp s.tg.length s.gc) from wc_tg _ hs.ok.dl) | exact hcg | rfl) ?_)
  clear hl a; intro a hl
  refine wl (wl_val hl rfl trivial (r_assign hl rfl) ?_)
  clear hl a; intro a hl
  refine w_nil ?_
  have hl2 := hl.add (t := 0) (hl.add (t := 1) (hl.add (t := 5) (hl.nil) rfl) rfl) rfl; clear hl; have hl := hl2; clear hl2
  refine then_normal ?_
  refine c_seq ?_
  refine c_region ?_
  refine wl (wl_val hl rfl trivial (r_move hl rfl) ?_)
  clear hl a; intro a hl
  refine wl (wl_val hl rfl trivial (r_nilCheck hl rfl) ?_)
  clear hl a; intro a hl
  refine wl (wl_val hl rfl trivial (r_field hl rfl fld55_3) ?_)
  clear hl a; intro a hl
  refine wl (w_store hl hh trivial one53 rfl rfl (by repeat (first | exact find_head | apply find_tail | apply find_skip)) (by first | (simp; done) | (simp; omega) | (rw [hwl]; omega) | (rw [hwl]; simp; done) | (rw [wc_len _ hs.ok.dl]; omega) | (rw [wc_len _ hs.ok.dl]; simp; done)) (by first | rfl | assumption | (apply Row.one; assumption)) (by first | exact wc_std' W hW.dl none [] 0 [] | exact (show setL (WoV.c (s.w W)) (0 + 19) [.slice none 0 0] = WoV.c (s.w2 W) from wc_stg' (s.w W) hs.ok.dl none [] 0 []) | (simp only [setL, List.getElem?_cons_zero, List.getElem?_cons_succ, Value.cells, List.take_zero, List.take_succ_cons, List.take_nil, List.drop_zero, List.drop_succ_cons, List.drop_nil, List.length_cons, List.length_nil, List.cons_append, List.nil_append, List.append_nil, Nat.zero_add, Nat.add_zero, Nat.reduceAdd, Nat.reduceBEq, Nat.reduceEqDiff, Nat.ble, BEq.rfl, Bool.and_true, Bool.and_self, cond_true, beq_self_eq_true]; rfl)) ?_)
  clear hh w; intro w hh
  refine w_nil ?_
  have hl2 := hl.add (t := 0) (hl.add (t := 1) (hl.add (t := 5) (hl.nil) rfl) rfl) rfl; clear hl; have hl := hl2; clear hl2
  refine then_normal ?_
  refine c_seq ?_
  refine c_seq ?_
  refine c_region ?_
  refine wl (wl_val hl rfl trivial (r_move hl rfl) ?_)
  clear hl a; intro a hl
  refine wl (wl_val hl rfl trivial (r_lenS hl rfl slc53) ?_)
  clear hl a; intro a hl
  refine wl (wl_val hl rfl trivial (r_move hl rfl) ?_)
  clear hl a; intro a hl
  refine w_nil ?_
  have hl2 := hl.add (t := 0) (hl.add (t := 1) (hl.add (t := 18) (hl.add (t := 19) (hl.add (t := 20) (hl.nil) rfl) rfl) rfl) rfl) rfl; clear hl; have hl := hl2; clear hl2
  refine then_normal ?_
  refine wp_block ?_
  obtain ⟨KS0, hKS0, hk⟩ := (hl.add (t := 0) (hl.add (t := 1) (hl.add (t := 18) (hl.add (t := 19) (hl.nil) rfl) rfl) rfl) rfl).name
  obtain ⟨HS0, hHS0, hh2⟩ := hh.nameT (A := [(wb, C (WoV.c { W with td := [], tp := none, tc := 0, tE := [] }) 55)]) (U := (W.gE ++ DsF W.ds)) (keeps_cons (b := wb) (o' := C (WoV.c { W with td := [], tp := none, tc := 0, tE := [] }) 55) (by repeat (first | exact find_head | apply find_tail | apply find_skip)) (by first | rfl) ((by repeat (first | exact keeps_nil | exact keeps_self | exact keeps_left | apply keeps_app | apply keeps_mv | apply keeps_skip))))
  refine c_loop (α := P1) (fun s => W.td.length - s.j) (fun s a w => (P1I Q Z W n x s) ∧ Sl 55 ([(20, .int .i64 (s.j : Int))] ++ KS0) a ∧ Has _ w0 ([(wb, C (WoV.c (s.w W)) 55)] ++ (HS0 ++ (s.gE ++ DsF s.ds))) w) ⟨0, W.ds, W.tg, W.gp, W.gc, W.gE⟩ ⟨P1I.start hW hK hn, hl.addE (t := 20) (hk) rfl (by first | rfl), hh2⟩ ?_
  clear hk hh2 hl hh a w
  intro s a w hI
  obtain ⟨hs, hl, hh⟩ := hI
  subst hKS0; subst hHS0
  simp only [List.cons_append, List.nil_append, List.append_nil, List.append_assoc] at hl hh
  have hsj := hs.j
  refine c_seq ?_
  refine c_region ?_
  refine wl (wl_val hl rfl trivial (r_lss hl rfl rfl) ?_)
  clear hl a; intro a hl
  refine w_nil ?_
  have hl2 := hl.add (t := 0) (hl.add (t := 1) (hl.add (t := 18) (hl.add (t := 19) (hl.add (t := 20) (hl.add (t := 21) (hl.nil) rfl) rfl) rfl) rfl) rfl) rfl; clear hl; have hl := hl2; clear hl2
  refine then_normal ?_
  refine c_seq ?_
  refine c_cond hl rfl ?_ ?_
  · intro hc0
    try simp only [decide_eq_true_eq, decide_eq_false_iff_not, Bool.not_eq_true', Bool.not_eq_false', Bool.not_eq_true, Bool.not_eq_false, Bool.and_eq_true, Bool.or_eq_true, Bool.and_eq_false_iff, Bool.or_eq_false_iff, Bool.not_not, ne_eq, Int.not_lt, Int.not_le, Decidable.not_not, beq_iff_eq, bne_iff_ne] at hc0
    obtain ⟨m, hm9⟩ : ∃ m, W.td[s.j]? = some m := ⟨_, List.getElem?_eq_getElem (by omega)⟩
    have hmo := hW.to m (List.mem_of_getElem? hm9)
    obtain ⟨b1, j1, hq1, hjl1, hjc1, hE1⟩ := row_pos hW.t (by omega)
    have hmem1 : (b1, C (fl msc W.td ++ j1) 38) ∈ W.tE := (by rw [hE1]; exact List.mem_singleton.2 rfl)
    have hd1 : ((fl msc W.td ++ j1).drop (0 + s.j * 8)).take 8 = [.int .u8 m.k, .int .u8 m.d, .int .u32 m.e, .int .u32 m.b, .bool m.y, .int .u32 m.r, .int .u32 m.s, .string m.t] := fl_at msc_len hm9 j1
    rw [hq1] at hl
    refine wp_skip ?_
    refine then_normal ?_
    refine c_seq ?_
    refine wp_block ?_
    refine c_seq ?_
    refine c_region ?_
    refine wl (wl_val hl rfl trivial (r_indexS hl rfl rfl slc53 (by omega) (by omega) (by first | (simp only [Int.reduceToNat]; rfl) | exact toNat_add1 _ | exact toNat_add2 _ _ | exact toNat_emod _ _ | exact Int.toNat_natCast _ | rfl)) ?_)
    clear hl a; intro a hl
    first | refine wl (w_loadA hl hh rfl trivial agg38 rfl (by repeat (first | exact find_head | apply find_tail | apply find_skip)) (by first | rfl) (by rfl) ?_) | refine wl (wl_val hl rfl trivial (r_loadA hl rfl agg38 (hh.mem _ _ (by repeat (first | exact hmem1 | exact List.mem_append_left _ hmem1 | apply List.mem_cons_of_mem | apply List.mem_append_right))) hd1 rfl) ?_)
    clear hl a; intro a hl
    refine wl (w_alloc hl hh rfl trivial zero38 rfl ?_)
    clear hl hh a w; intro k7 a w hl hh
    refine wl (w_storeA hl hh trivial agg38 rfl rfl (by repeat (first | exact find_head | apply find_tail | apply find_skip)) (by rfl) (by exact Nat.le_refl 8) (by rfl) (by exact setL_all rfl) ?_)
    clear hh w; intro w hh
    refine w_nil ?_
    have hl2 := hl.add (t := 0) (hl.add (t := 1) (hl.add (t := 7) (hl.add (t := 18) (hl.add (t := 19) (hl.add (t := 20) (hl.nil) rfl) rfl) rfl) rfl) rfl) rfl; clear hl; have hl := hl2; clear hl2
    refine then_normal ?_
    refine c_region ?_
    refine wl (wl_val hl rfl trivial (r_move hl rfl) ?_)
    clear hl a; intro a hl
    first | refine wl (w_loadA hl hh rfl trivial agg38 rfl (by repeat (first | exact find_head | apply find_tail | apply find_skip)) (by first | rfl) (by rfl) ?_) | refine wl (wl_val hl rfl trivial (r_loadA hl rfl agg38 (hh.mem _ _ (by repeat (first | exact hmem1 | exact List.mem_append_left _ hmem1 | apply List.mem_cons_of_mem | apply List.mem_append_right))) hd1 rfl) ?_)
    clear hl a; intro a hl
    refine wl (w_call hl hh rfl trivial rfl cal20 rfl (hando_spec wb (s.w W) hs.ok.dl hs.ok.ds hs.ok.r hs.ok.rl m hmo.1 hmo.2) (by repeat (first | exact keeps_nil | apply keeps_cons (by repeat (first | exact find_head | apply find_tail | apply find_skip)) (by first  | rfl) | exact keeps_self | exact keeps_left | apply keeps_app | apply keeps_mv | apply keeps_skip)) trivial ?_)
    clear hl hh a w; intro vc Fc a w hR hl hh
    obtain ⟨rfl, db, d, d', p6, c6, E6, hx9, hdo', hpl', hro', hR6, rfl⟩ := hR
    try simp only [List.cons_append, List.nil_append, List.append_assoc, List.append_nil] at hh
    try simp only [List.append_assoc, List.cons_append, List.nil_append] at hh
    refine w_nil ?_
    have hl2 := hl.add (t := 0) (hl.add (t := 1) (hl.add (t := 18) (hl.add (t := 19) (hl.add (t := 20) (hl.nil) rfl) rfl) rfl) rfl) rfl; clear hl; have hl := hl2; clear hl2
    refine blk_normal ?_
    refine then_normal ?_
    refine c_region ?_
    first | refine wl (wl_val hl rfl trivial (r_add hl rfl rfl (by simp only [Fits]; omega)) ?_) | refine wl (wl_val hl rfl trivial (r_addW hl rfl rfl) ?_)
    clear hl a; intro a hl
    refine wl (wl_val hl rfl trivial (r_move hl rfl) ?_)
    clear hl a; intro a hl
    refine w_nil ?_
    have hl2 := hl.add (t := 0) (hl.add (t := 1) (hl.add (t := 18) (hl.add (t := 19) (hl.add (t := 20) (hl.nil) rfl) rfl) rfl) rfl) rfl; clear hl; have hl := hl2; clear hl2
    refine then_normal ?_
    refine ⟨⟨s.j + 1, s.ds.set m.d.toNat (db, d'), postO s.tg (handP d.pl m).2, p6, c6, E6⟩, (by simp only; omega), hs.next hm9 hx9 hdo' hpl' hro' hR6, hl.addE (t := 20) (hl.addE (t := 0) (hl.addE (t := 1) (hl.addE (t := 18) (hl.addE (t := 19) (hl.nil) rfl (by first | rfl | exact congrArg (Value.int .i64) (show (s.j : Int) + 1 = ((s.j + 1 : Nat) : Int) by omega) | (rw [hq1]; done) | (rw [← hq1]; done))) rfl (by first | rfl | exact congrArg (Value.int .i64) (show (s.j : Int) + 1 = ((s.j + 1 : Nat) : Int) by omega) | (rw [hq1]; done) | (rw [← hq1]; done))) rfl (by first | rfl | exact congrArg (Value.int .i64) (show (s.j : Int) + 1 = ((s.j + 1 : Nat) : Int) by omega) | (rw [hq1]; done) | (rw [← hq1]; done))) rfl (by first | rfl | exact congrArg (Value.int .i64) (show (s.j : Int) + 1 = ((s.j + 1 : Nat) : Int) by omega) | (rw [hq1]; done) | (rw [← hq1]; done))) rfl (by first | rfl | exact congrArg (Value.int .i64) (show (s.j : Int) + 1 = ((s.j + 1 : Nat) : Int) by omega) | (rw [hq1]; done) | (rw [← hq1]; done)), hh.keep (by repeat (first | exact keeps_nil | apply keeps_cons (by repeat (first | exact find_head | apply find_tail | apply find_skip)) (by first  | rfl) | exact keeps_self | exact keeps_left | apply keeps_app | apply keeps_mv | apply keeps_skip))⟩
  · intro hc0
    try simp only [decide_eq_true_eq, decide_eq_false_iff_not, Bool.not_eq_true', Bool.not_eq_false', Bool.not_eq_true, Bool.not_eq_false, Bool.and_eq_true, Bool.or_eq_true, Bool.and_eq_false_iff, Bool.or_eq_false_iff, Bool.not_not, ne_eq, Int.not_lt, Int.not_le, Decidable.not_not, beq_iff_eq, bne_iff_ne] at hc0
    have hje : s.j = W.td.length := by omega
    refine wp_exit ?_
    refine then_exit ?_
    refine then_exit ?_
    refine blk_exit ?_
    refine then_normal ?_
    refine c_seq ?_
    refine c_region ?_
    refine wl (wl_val hl rfl trivial (r_move hl rfl) ?_)
    clear hl a; intro a hl
    refine wl (wl_val hl rfl trivial (r_nilCheck hl rfl) ?_)
    clear hl a; intro a hl
    refine wl (wl_val hl rfl trivial (r_field hl rfl fld55_4) ?_)
    clear hl a; intro a hl
    refine wl (w_load hl hh rfl trivial one53 rfl (by repeat (first | exact find_head | apply find_tail | apply find_skip)) (by first | exact hct | exact (show (WoV.c (s.w W))[0 + 19]? = some (.slice s.gp s.tg.length s.gc) from wc_tg _ hs.ok.dl) | exact hcg | rfl) ?_)
    clear hl a; intro a hl
    refine wl (wl_val hl rfl trivial (r_assign hl rfl) ?_)
    clear hl a; intro a hl
    refine w_nil ?_
    have hl2 := hl.add (t := 0) (hl.add (t := 1) (hl.add (t := 8) (hl.nil) rfl) rfl) rfl; clear hl; have hl := hl2; clear hl2
    refine then_normal ?_
    refine c_seq ?_
    refine c_region ?_
    refine wl (wl_val hl rfl trivial (r_move hl rfl) ?_)
    clear hl a; intro a hl
    refine wl (wl_val hl rfl trivial (r_nilCheck hl rfl) ?_)
    clear hl a; intro a hl
    refine wl (wl_val hl rfl trivial (r_field hl rfl fld55_4) ?_)
    clear hl a; intro a hl
    refine wl (w_store hl hh trivial one53 rfl rfl (by repeat (first | exact find_head | apply find_tail | apply find_skip)) (by first | (simp; done) | (simp; omega) | (rw [hwl]; omega) | (rw [hwl]; simp; done) | (rw [wc_len _ hs.ok.dl]; omega) | (rw [wc_len _ hs.ok.dl]; simp; done)) (by first | rfl | assumption | (apply Row.one; assumption)) (by first | exact wc_std' W hW.dl none [] 0 [] | exact (show setL (WoV.c (s.w W)) (0 + 19) [.slice none 0 0] = WoV.c (s.w2 W) from wc_stg' (s.w W) hs.ok.dl none [] 0 []) | (simp only [setL, List.getElem?_cons_zero, List.getElem?_cons_succ, Value.cells, List.take_zero, List.take_succ_cons, List.take_nil, List.drop_zero, List.drop_succ_cons, List.drop_nil, List.length_cons, List.length_nil, List.cons_append, List.nil_append, List.append_nil, Nat.zero_add, Nat.add_zero, Nat.reduceAdd, Nat.reduceBEq, Nat.reduceEqDiff, Nat.ble, BEq.rfl, Bool.and_true, Bool.and_self, cond_true, beq_self_eq_true]; rfl)) ?_)
    clear hh w; intro w hh
    refine w_nil ?_
    have hl2 := hl.add (t := 0) (hl.add (t := 1) (hl.add (t := 8) (hl.nil) rfl) rfl) rfl; clear hl; have hl := hl2; clear hl2
    refine then_normal ?_
    refine c_seq ?_
    refine c_seq ?_
    refine c_region ?_
    refine wl (wl_val hl rfl trivial (r_move hl rfl) ?_)
    clear hl a; intro a hl
    refine wl (wl_val hl rfl trivial (r_lenS hl rfl slc53) ?_)
    clear hl a; intro a hl
    refine wl (wl_val hl rfl trivial (r_move hl rfl) ?_)
    clear hl a; intro a hl
    refine w_nil ?_
    have hl2 := hl.add (t := 0) (hl.add (t := 1) (hl.add (t := 35) (hl.add (t := 36) (hl.add (t := 37) (hl.nil) rfl) rfl) rfl) rfl) rfl; clear hl; have hl := hl2; clear hl2
    refine then_normal ?_
    refine wp_block ?_
    obtain ⟨KS1, hKS1, hk⟩ := (hl.add (t := 0) (hl.add (t := 1) (hl.add (t := 35) (hl.add (t := 36) (hl.nil) rfl) rfl) rfl) rfl).name
    obtain ⟨HS1, hHS1, hh2⟩ := hh.nameT (A := []) (U := (Fx ++ ((wb, C (WoV.c (s.w2 W)) 55) :: (DsF s.ds ++ WoV.GF W Z)))) ((by repeat (first | exact keeps_nil | apply keeps_cons (by repeat (first | exact find_head | apply find_tail | apply find_skip)) (by first  | rfl) | exact keeps_self | exact keeps_left | apply keeps_app | apply keeps_mv | apply keeps_skip)))
    refine c_loop (α := P2 L) (fun y => s.tg.length - y.j) (fun y a w => (P2I Q Z s.tg n y) ∧ Sl 55 ([(37, .int .i64 (y.j : Int))] ++ KS1) a ∧ Has _ w0 ([] ++ (HS1 ++ (y.F ++ ((wb, C (WoV.c y.W) 55) :: (y.W.tE ++ (y.W.gE ++ (DsF y.W.ds ++ WoV.GF y.W y.Zp))))))) w) ⟨0, (s.w2 W), Z, Fx, x⟩ ⟨P2I.start hs hje hMx, hl.addE (t := 37) (hk) rfl (by first | rfl), hh2⟩ ?_
    clear hk hh2 hl hh a w
    intro y a w hI
    obtain ⟨hy, hl, hh⟩ := hI
    subst hKS1; subst hHS1
    simp only [List.cons_append, List.nil_append, List.append_nil, List.append_assoc] at hl hh
    have hyj := hy.j
    have hrl : s.tg.length ≤ 160 := hs.ok.rl
    refine c_seq ?_
    refine c_region ?_
    refine wl (wl_val hl rfl trivial (r_lss hl rfl rfl) ?_)
    clear hl a; intro a hl
    refine w_nil ?_
    have hl2 := hl.add (t := 0) (hl.add (t := 1) (hl.add (t := 35) (hl.add (t := 36) (hl.add (t := 37) (hl.add (t := 38) (hl.nil) rfl) rfl) rfl) rfl) rfl) rfl; clear hl; have hl := hl2; clear hl2
    refine then_normal ?_
    refine c_seq ?_
    refine c_cond hl rfl ?_ ?_
    · intro hc1
      try simp only [decide_eq_true_eq, decide_eq_false_iff_not, Bool.not_eq_true', Bool.not_eq_false', Bool.not_eq_true, Bool.not_eq_false, Bool.and_eq_true, Bool.or_eq_true, Bool.and_eq_false_iff, Bool.or_eq_false_iff, Bool.not_not, ne_eq, Int.not_lt, Int.not_le, Decidable.not_not, beq_iff_eq, bne_iff_ne] at hc1
      obtain ⟨m, hm9⟩ : ∃ m, s.tg[y.j]? = some m := ⟨_, List.getElem?_eq_getElem (by omega)⟩
      have hmo := hs.ok.ro m (List.mem_of_getElem? hm9)
      obtain ⟨b1, j1, hq1, hjl1, hjc1, hE1⟩ := row_pos hs.ok.r (show 0 < s.tg.length by omega)
      have hmem1 : (b1, C (fl msc s.tg ++ j1) 38) ∈ s.gE := (by rw [show s.gE = _ from hE1]; exact List.mem_singleton.2 rfl)
      have hd1 : ((fl msc s.tg ++ j1).drop (0 + y.j * 8)).take 8 = [.int .u8 m.k, .int .u8 m.d, .int .u32 m.e, .int .u32 m.b, .bool m.y, .int .u32 m.r, .int .u32 m.s, .string m.t] := fl_at msc_len hm9 j1
      rw [show s.gp = _ from hq1] at hl
      refine wp_skip ?_
      refine then_normal ?_
      refine c_seq ?_
      refine wp_block ?_
      refine c_seq ?_
      refine c_region ?_
      refine wl (wl_val hl rfl trivial (r_indexS hl rfl rfl slc53 (by omega) (by omega) (by first | (simp only [Int.reduceToNat]; rfl) | exact toNat_add1 _ | exact toNat_add2 _ _ | exact toNat_emod _ _ | exact Int.toNat_natCast _ | rfl)) ?_)
      clear hl a; intro a hl
      first | refine wl (w_loadA hl hh rfl trivial agg38 rfl (by repeat (first | exact find_head | apply find_tail | apply find_skip)) (by first | rfl) (by rfl) ?_) | refine wl (wl_val hl rfl trivial (r_loadA hl rfl agg38 (hh.mem _ _ (by repeat (first | exact hmem1 | exact List.mem_append_left _ hmem1 | apply List.mem_cons_of_mem | apply List.mem_append_right))) hd1 rfl) ?_)
      clear hl a; intro a hl
      refine wl (w_alloc hl hh rfl trivial zero38 rfl ?_)
      clear hl hh a w; intro k10 a w hl hh
      refine wl (w_storeA hl hh trivial agg38 rfl rfl (by repeat (first | exact find_head | apply find_tail | apply find_skip)) (by rfl) (by exact Nat.le_refl 8) (by rfl) (by exact setL_all rfl) ?_)
      clear hh w; intro w hh
      refine w_nil ?_
      have hl2 := hl.add (t := 0) (hl.add (t := 1) (hl.add (t := 10) (hl.add (t := 35) (hl.add (t := 36) (hl.add (t := 37) (hl.nil) rfl) rfl) rfl) rfl) rfl) rfl; clear hl; have hl := hl2; clear hl2
      refine then_normal ?_
      refine c_seq ?_
      rcases gcase y.W with hgn | ⟨gb, g, hgs⟩
      ·
        have hcg : (WoV.c y.W)[0 + 1]? = some (.pointer none) := by rw [wc_g, hgn]; rfl
        refine c_region ?_
        refine wl (wl_val hl rfl trivial (r_move hl rfl) ?_)
        clear hl a; intro a hl
        refine wl (wl_val hl rfl trivial (r_nilCheck hl rfl) ?_)
        clear hl a; intro a hl
        refine wl (wl_val hl rfl trivial (r_field hl rfl fld55_1) ?_)
        clear hl a; intro a hl
        refine wl (w_load hl hh rfl trivial one50 rfl (by repeat (first | exact find_head | apply find_tail | apply find_skip)) (by first | exact hct | exact (show (WoV.c (s.w W))[0 + 19]? = some (.slice s.gp s.tg.length s.gc) from wc_tg _ hs.ok.dl) | exact hcg | rfl) ?_)
        clear hl a; intro a hl
        refine wl (wl_val hl rfl trivial (r_neq_pointer hl rfl rfl ptr50) ?_)
        clear hl a; intro a hl
        refine wl (wl_val hl rfl trivial (r_move hl rfl) ?_)
        clear hl a; intro a hl
        refine wl (wl_skip hl rfl ⟨_, _, rfl, rfl, rfl⟩ ?_)
        clear hl a; intro a hl
        refine wl (wl_skip hl rfl ⟨_, _, rfl, rfl, rfl⟩ ?_)
        clear hl a; intro a hl
        refine wl (wl_skip hl rfl ⟨_, _, rfl, rfl, rfl⟩ ?_)
        clear hl a; intro a hl
        refine wl (wl_skip hl rfl ⟨_, _, rfl, rfl, rfl⟩ ?_)
        clear hl a; intro a hl
        refine wl (wl_skip hl rfl ⟨_, _, rfl, rfl, rfl⟩ ?_)
        clear hl a; intro a hl
        refine wl (wl_skip hl rfl ⟨_, _, rfl, rfl, rfl⟩ ?_)
        clear hl a; intro a hl
        refine wl (wl_val hl rfl trivial (r_pickF hl rfl rfl) ?_)
        clear hl a; intro a hl
        refine w_nil ?_
        have hl2 := hl.add (t := 0) (hl.add (t := 1) (hl.add (t := 35) (hl.add (t := 36) (hl.add (t := 37) (hl.add (t := 53) (hl.nil) rfl) rfl) rfl) rfl) rfl) rfl; clear hl; have hl := hl2; clear hl2
        refine then_normal ?_
        refine c_condF hl rfl ?_
        refine wp_skip ?_
        refine blk_normal ?_
        refine then_normal ?_
        refine c_region ?_
        first | refine wl (wl_val hl rfl trivial (r_add hl rfl rfl (by simp only [Fits]; omega)) ?_) | refine wl (wl_val hl rfl trivial (r_addW hl rfl rfl) ?_)
        clear hl a; intro a hl
        refine wl (wl_val hl rfl trivial (r_move hl rfl) ?_)
        clear hl a; intro a hl
        refine w_nil ?_
        have hl2 := hl.add (t := 0) (hl.add (t := 1) (hl.add (t := 35) (hl.add (t := 36) (hl.add (t := 37) (hl.nil) rfl) rfl) rfl) rfl) rfl; clear hl; have hl := hl2; clear hl2
        refine then_normal ?_
        refine ⟨⟨y.j + 1, y.W, y.Zp, y.F, y.x⟩, (by simp only; omega), hy.skip (by omega), hl.addE (t := 37) (hl.addE (t := 0) (hl.addE (t := 1) (hl.addE (t := 35) (hl.addE (t := 36) (hl.nil) rfl (by first | rfl | exact congrArg (Value.int .i64) (show (y.j : Int) + 1 = ((y.j + 1 : Nat) : Int) by omega) | (rw [show s.gp = _ from hq1]; done) | (rw [← show s.gp = _ from hq1]; done))) rfl (by first | rfl | exact congrArg (Value.int .i64) (show (y.j : Int) + 1 = ((y.j + 1 : Nat) : Int) by omega) | (rw [show s.gp = _ from hq1]; done) | (rw [← show s.gp = _ from hq1]; done))) rfl (by first | rfl | exact congrArg (Value.int .i64) (show (y.j : Int) + 1 = ((y.j + 1 : Nat) : Int) by omega) | (rw [show s.gp = _ from hq1]; done) | (rw [← show s.gp = _ from hq1]; done))) rfl (by first | rfl | exact congrArg (Value.int .i64) (show (y.j : Int) + 1 = ((y.j + 1 : Nat) : Int) by omega) | (rw [show s.gp = _ from hq1]; done) | (rw [← show s.gp = _ from hq1]; done))) rfl (by first | rfl | exact congrArg (Value.int .i64) (show (y.j : Int) + 1 = ((y.j + 1 : Nat) : Int) by omega) | (rw [show s.gp = _ from hq1]; done) | (rw [← show s.gp = _ from hq1]; done)), hh.keep (by repeat (first | exact keeps_nil | apply keeps_cons (by repeat (first | exact find_head | apply find_tail | apply find_skip)) (by first  | rfl) | exact keeps_self | exact keeps_left | apply keeps_app | apply keeps_mv | apply keeps_skip))⟩
      ·
        obtain ⟨x', hsr, hnx⟩ := hy.fed hm9 hgs
        obtain ⟨hg1, hg2, hg3, hg4⟩ := WI.up hy.w hgs
        have hcg : (WoV.c y.W)[0 + 1]? = some (.pointer (some ⟨gb, 0, none⟩)) := by rw [wc_g, hgs]; rfl
        have hfd := feed_spec (wb := wb) L y.Zp y.W hy.ok gb g hgs hg1 hg2 hg3 (by omega) (msgI m) none 0 (msgI_ok hmo) y.x x' y.F hy.m hsr
        simp only [WoV.F] at hfd
        refine c_region ?_
        refine wl (wl_val hl rfl trivial (r_move hl rfl) ?_)
        clear hl a; intro a hl
        refine wl (wl_val hl rfl trivial (r_nilCheck hl rfl) ?_)
        clear hl a; intro a hl
        refine wl (wl_val hl rfl trivial (r_field hl rfl fld55_1) ?_)
        clear hl a; intro a hl
        refine wl (w_load hl hh rfl trivial one50 rfl (by repeat (first | exact find_head | apply find_tail | apply find_skip)) (by first | exact hct | exact (show (WoV.c (s.w W))[0 + 19]? = some (.slice s.gp s.tg.length s.gc) from wc_tg _ hs.ok.dl) | exact hcg | rfl) ?_)
        clear hl a; intro a hl
        refine wl (wl_val hl rfl trivial (r_neq_pointer hl rfl rfl ptr50) ?_)
        clear hl a; intro a hl
        refine wl (wl_val hl rfl trivial (r_move hl rfl) ?_)
        clear hl a; intro a hl
        refine wl (wl_val hl rfl ⟨_, _, rfl, rfl, rfl⟩ (r_move hl rfl) ?_)
        clear hl a; intro a hl
        first | refine wl (w_loadA hl hh rfl ⟨_, _, rfl, rfl, rfl⟩ agg38 rfl (by repeat (first | exact find_head | apply find_tail | apply find_skip)) (by first | rfl) (by rfl) ?_) | refine wl (wl_val hl rfl ⟨_, _, rfl, rfl, rfl⟩ (r_loadA hl rfl agg38 (hh.mem _ _ (by repeat (first | exact hmem1 | exact List.mem_append_left _ hmem1 | apply List.mem_cons_of_mem | apply List.mem_append_right))) hd1 rfl) ?_)
        clear hl a; intro a hl
        refine wl (wl_val hl rfl ⟨_, _, rfl, rfl, rfl⟩ (r_build hl rfl zero113 bld113 (by simp only [fillL, setL, List.getElem?_cons_zero, List.getElem?_cons_succ, Value.cells, List.take_zero, List.take_succ_cons, List.take_nil, List.drop_zero, List.drop_succ_cons, List.drop_nil, List.length_cons, List.length_nil, List.cons_append, List.nil_append, List.append_nil, Nat.zero_add, Nat.add_zero, Nat.reduceAdd, Nat.reduceBEq, Nat.reduceEqDiff, Nat.ble, BEq.rfl, Bool.and_true, Bool.and_self, cond_true, beq_self_eq_true]; rfl)) ?_)
        clear hl a; intro a hl
        refine wl (wl_val hl rfl ⟨_, _, rfl, rfl, rfl⟩ (r_move hl rfl) ?_)
        clear hl a; intro a hl
        refine wl (w_call hl hh rfl ⟨_, _, rfl, rfl, rfl⟩ rfl cal19 rfl (hfd) (by repeat (first | exact keeps_nil | apply keeps_cons (by repeat (first | exact find_head | apply find_tail | apply find_skip)) (by first  | rfl) | exact keeps_self | exact keeps_left | apply keeps_app | apply keeps_mv | apply keeps_skip)) trivial ?_)
        clear hl hh a w; intro vc Fc a w hR hl hh
        rcases hR with ⟨rfl, W', G9, F2, hok2, hpl2, hM2, rfl⟩
        ·
          try simp only [List.cons_append, List.nil_append, List.append_nil] at hh
          try simp only [List.append_assoc, List.cons_append, List.nil_append] at hh
          refine wl (wl_val hl rfl ⟨_, _, rfl, rfl, rfl⟩ (r_not hl rfl) ?_)
          clear hl a; intro a hl
          refine wl (wl_val hl rfl trivial (r_pickT hl rfl rfl) ?_)
          clear hl a; intro a hl
          refine w_nil ?_
          have hl2 := hl.add (t := 0) (hl.add (t := 1) (hl.add (t := 35) (hl.add (t := 36) (hl.add (t := 37) (hl.add (t := 53) (hl.nil) rfl) rfl) rfl) rfl) rfl) rfl; clear hl; have hl := hl2; clear hl2
          refine then_normal ?_
          refine c_condF hl rfl ?_
          refine wp_skip ?_
          refine blk_normal ?_
          refine then_normal ?_
          refine c_region ?_
          first | refine wl (wl_val hl rfl trivial (r_add hl rfl rfl (by simp only [Fits]; omega)) ?_) | refine wl (wl_val hl rfl trivial (r_addW hl rfl rfl) ?_)
          clear hl a; intro a hl
          refine wl (wl_val hl rfl trivial (r_move hl rfl) ?_)
          clear hl a; intro a hl
          refine w_nil ?_
          have hl2 := hl.add (t := 0) (hl.add (t := 1) (hl.add (t := 35) (hl.add (t := 36) (hl.add (t := 37) (hl.nil) rfl) rfl) rfl) rfl) rfl; clear hl; have hl := hl2; clear hl2
          refine then_normal ?_
          refine ⟨⟨y.j + 1, W', y.Zp ++ G9, F2, if (ginP g.pl y.W.l.pl (msgI m)).1.1.off then L.fellF x' else x'⟩, (by simp only; omega), hnx hok2 hpl2 hM2, hl.addE (t := 37) (hl.addE (t := 0) (hl.addE (t := 1) (hl.addE (t := 35) (hl.addE (t := 36) (hl.nil) rfl (by first | rfl | exact congrArg (Value.int .i64) (show (y.j : Int) + 1 = ((y.j + 1 : Nat) : Int) by omega) | (rw [show s.gp = _ from hq1]; done) | (rw [← show s.gp = _ from hq1]; done))) rfl (by first | rfl | exact congrArg (Value.int .i64) (show (y.j : Int) + 1 = ((y.j + 1 : Nat) : Int) by omega) | (rw [show s.gp = _ from hq1]; done) | (rw [← show s.gp = _ from hq1]; done))) rfl (by first | rfl | exact congrArg (Value.int .i64) (show (y.j : Int) + 1 = ((y.j + 1 : Nat) : Int) by omega) | (rw [show s.gp = _ from hq1]; done) | (rw [← show s.gp = _ from hq1]; done))) rfl (by first | rfl | exact congrArg (Value.int .i64) (show (y.j : Int) + 1 = ((y.j + 1 : Nat) : Int) by omega) | (rw [show s.gp = _ from hq1]; done) | (rw [← show s.gp = _ from hq1]; done))) rfl (by first | rfl | exact congrArg (Value.int .i64) (show (y.j : Int) + 1 = ((y.j + 1 : Nat) : Int) by omega) | (rw [show s.gp = _ from hq1]; done) | (rw [← show s.gp = _ from hq1]; done)), hh.keep (by repeat (first | exact keeps_nil | apply keeps_cons (by repeat (first | exact find_head | apply find_tail | apply find_skip)) (by first  | rfl) | exact keeps_self | exact keeps_left | apply keeps_app | apply keeps_mv | apply keeps_skip))⟩
    · intro hc1
      try simp only [decide_eq_true_eq, decide_eq_false_iff_not, Bool.not_eq_true', Bool.not_eq_false', Bool.not_eq_true, Bool.not_eq_false, Bool.and_eq_true, Bool.or_eq_true, Bool.and_eq_false_iff, Bool.or_eq_false_iff, Bool.not_not, ne_eq, Int.not_lt, Int.not_le, Decidable.not_not, beq_iff_eq, bne_iff_ne] at hc1
      have hye : y.j = s.tg.length := by omega
      refine wp_exit ?_
      refine then_exit ?_
      refine then_exit ?_
      refine blk_exit ?_
      refine then_normal ?_
      refine c_seq ?_
      refine c_region ?_
      refine wl (wl_val hl rfl trivial (r_assign hl rfl) ?_)
      clear hl a; intro a hl
      refine w_nil ?_
      have hl2 := hl.add (t := 4) (hl.nil) rfl; clear hl; have hl := hl2; clear hl2
      refine then_normal ?_
      refine wp_ret ?_
      refine f_ret1 (F' := y.F ++ ((wb, C (WoV.c y.W) 55) :: (y.W.tE ++ (y.W.gE ++ (DsF y.W.ds ++ WoV.GF y.W y.Zp))))) hl hh rfl rfl (by repeat (first | exact keeps_nil | apply keeps_cons (by repeat (first | exact find_head | apply find_tail | apply find_skip)) (by first  | rfl) | exact keeps_self | exact keeps_left | apply keeps_app | apply keeps_mv | apply keeps_skip)) ?_
      obtain ⟨G0, hz0⟩ := hy.z
      have hk9 := hy.k
      rw [hye, List.drop_length] at hk9
      exact ⟨rfl, y.W, G0, y.F, y.x, hz0 ▸ hy.ok, hk9, (WI.of hy.w [] []).mono (by omega), hz0 ▸ hy.m, by rw [← hz0]; rfl⟩
end Go.Proofs.Qxb6500908aGreat

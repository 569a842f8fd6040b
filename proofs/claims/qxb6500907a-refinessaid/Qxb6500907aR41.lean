import Derived.Test.Qxb6500907aR40
namespace Go.Proofs.Qxb6500907a
open Go.Eng
set_option linter.unusedVariables false
set_option linter.unusedSimpArgs false
theorem fld59_0 : fieldOk Try.prog 59 0 0 = true := by kernel_rfl
theorem one48 : oneOk Try.prog 48 = true := by kernel_rfl
theorem fld59_2 : fieldOk Try.prog 59 2 2 = true := by kernel_rfl
theorem fld59_1 : fieldOk Try.prog 59 1 1 = true := by kernel_rfl
theorem cal26 : callable Try.prog 26 = true := by kernel_rfl
set_option maxHeartbeats 16000000 in
theorem play26 (sb : Nat) (c : List Value) (T : TypeId) (fr : Nat × Nat) (p : Option Addr) (n cap : Nat) (ops : List DO) (hn : n = ops.length) (hlen : n ≤ 9223372036854775807) (h : DOps sb c p cap ops) (hn6 : n ≤ 65536) (mc km0 lim : Nat) (N0 : Nw) (Zm : List (Nat × Obj)) (hM0 : NetM km0 N0 pz Zm) (hD : ∀ b, b < lim → b ∉ List.map Prod.fst ((mc, C [.pointer (some ⟨km0, 0, none⟩)] 71) :: Zm)) (hin1 : 0 < n → sb < lim) (hin2 : ∀ d, d ∈ ops → ∀ x, x ∈ d.Sc → x.1 < lim) : SpK Try.prog 9 #[.slice p n cap, .func (.func 26) #[] #[.pointer (some ⟨mc, 0, none⟩)]] (DIn sb c T fr ops) ((mc, C [.pointer (some ⟨km0, 0, none⟩)] 71) :: Zm) (fun v F' => v = .bool true ∧ F' = []) := by
  refine f_enter (args := [.slice p n cap, .func (.func 26) #[] #[.pointer (some ⟨mc, 0, none⟩)]]) Try.func9 rfl Try.ntmps9 rfl ?_
  intro w0 w a hpre hl hh
  simp only [slotsFrom, Nat.reduceAdd] at hl
  refine c_seq ?_
  refine c_region ?_
  refine wl (wl_val hl rfl trivial (r_assign hl rfl) ?_)
  clear hl a; intro a hl
  refine w_nil ?_
  have hl2 := hl.add (t := 0) (hl.add (t := 1) (hl.nil) rfl) rfl; clear hl; have hl := hl2; clear hl2
  refine then_normal ?_
  refine c_seq ?_
  refine c_region ?_
  refine wl (w_alloc hl hh rfl trivial zero33 rfl ?_)
  clear hl hh a w; intro k5 a w hl hh
  refine w_nil ?_
  have hl2 := hl.add (t := 0) (hl.add (t := 1) (hl.add (t := 5) (hl.nil) rfl) rfl) rfl; clear hl; have hl := hl2; clear hl2
  refine then_normal ?_
  refine c_seq ?_
  refine c_region ?_
  refine wl (wl_val hl rfl trivial (r_assign hl rfl) ?_)
  clear hl a; intro a hl
  refine w_nil ?_
  have hl2 := hl.add (t := 0) (hl.add (t := 1) (hl.add (t := 5) (hl.add (t := 6) (hl.nil) rfl) rfl) rfl) rfl; clear hl; have hl := hl2; clear hl2
  refine then_normal ?_
  refine c_seq ?_
  refine c_region ?_
  refine wl (w_alloc hl hh rfl trivial zero37 rfl ?_)
  clear hl hh a w; intro k7 a w hl hh
  refine w_nil ?_
  have hl2 := hl.add (t := 0) (hl.add (t := 1) (hl.add (t := 5) (hl.add (t := 6) (hl.add (t := 7) (hl.nil) rfl) rfl) rfl) rfl) rfl; clear hl; have hl := hl2; clear hl2
  refine then_normal ?_
  refine c_seq ?_
  refine c_region ?_
  refine wl (wl_val hl rfl trivial (r_assign hl rfl) ?_)
  clear hl a; intro a hl
  refine w_nil ?_
  have hl2 := hl.add (t := 0) (hl.add (t := 1) (hl.add (t := 5) (hl.add (t := 6) (hl.add (t := 7) (hl.add (t := 8) (hl.nil) rfl) rfl) rfl) rfl) rfl) rfl; clear hl; have hl := hl2; clear hl2
  refine then_normal ?_
  refine c_seq ?_
  refine c_seq ?_
  refine c_region ?_
  refine wl (wl_val hl rfl trivial (r_move hl rfl) ?_)
  clear hl a; intro a hl
  refine wl (wl_val hl rfl trivial (r_lenS hl rfl slc22) ?_)
  clear hl a; intro a hl
  refine wl (wl_val hl rfl trivial (r_move hl rfl) ?_)
  clear hl a; intro a hl
  refine w_nil ?_
  have hl2 := hl.add (t := 1) (hl.add (t := 5) (hl.add (t := 6) (hl.add (t := 7) (hl.add (t := 8) (hl.add (t := 15) (hl.add (t := 16) (hl.add (t := 17) (hl.nil) rfl) rfl) rfl) rfl) rfl) rfl) rfl) rfl; clear hl; have hl := hl2; clear hl2
  refine then_normal ?_
  refine wp_block ?_
  obtain ⟨KS0, hKS0, hk⟩ := (hl.add (t := 1) (hl.add (t := 5) (hl.add (t := 7) (hl.add (t := 15) (hl.add (t := 16) (hl.nil) rfl) rfl) rfl) rfl) rfl).name
  obtain ⟨HS0, hHS0, hh2⟩ := hh.nameT (A := [(k5, C (arrL 64 (nvF nilV nilV pz)) 33), (k7, C [.int .u32 0, .slice none 0 0] 37), (mc, C [.pointer (some ⟨km0, 0, none⟩)] 71)]) (U := Zm) (keeps_cons (b := k5) (o' := C (arrL 64 (nvF nilV nilV pz)) 33) (by repeat (first | exact find_head | apply find_tail)) (by first | rfl) (keeps_cons (b := k7) (o' := C [.int .u32 0, .slice none 0 0] 37) (by repeat (first | exact find_head | apply find_tail)) (by first | rfl) (keeps_cons (b := mc) (o' := C [.pointer (some ⟨km0, 0, none⟩)] 71) (by repeat (first | exact find_head | apply find_tail)) (by first | rfl) ((by repeat (first | exact keeps_nil | exact keeps_self | exact keeps_swap | apply keeps_mv))))))
  refine c_loop (α := YM) (fun s => n - s.i) (fun s a w => (YI (fun _ => True) n s.toYS ∧ NetM s.km s.N s.P s.Z) ∧ Sl 72 ([(17, .int .i64 (s.i : Int)), (6, s.mv), (8, .bool s.ap)] ++ KS0) a ∧ Has _ w0 ([(k5, C (arrL 64 (nvF s.rv s.av s.P)) 33), (k7, C [.int .u32 s.iid, s.iv] 37), (mc, C [.pointer (some ⟨s.km, 0, none⟩)] 71)] ++ (HS0 ++ s.toYS.tail)) w) ⟨⟨0, nilV, nilV, pz, .slice none 0 0, [], [], 0, .slice none 0 0, [], false, Zm⟩, km0, N0⟩ ⟨⟨YI.startZ n Zm, hM0⟩, hl.addE (t := 17) (hl.addE (t := 6) (hl.addE (t := 8) (hk) rfl (by first | rfl)) rfl (by first | rfl)) rfl (by first | rfl), (by simp only [YS.tail, List.append_nil, List.nil_append]; first | exact hh2 | (simp only [List.append_nil] at hh2; exact hh2))⟩ ?_
  clear hk hh2 hl hh a w
  intro s a w hI
  obtain ⟨⟨hI, hMs⟩, hl, hh⟩ := hI
  subst hKS0; subst hHS0
  simp only [List.cons_append, List.nil_append, List.append_nil] at hl hh
  obtain ⟨⟨i, rvs, avs, P, mk, ms, Em, iid, iv, is, ap, Z⟩, km, NN⟩ := s
  obtain ⟨hi, hnet, hPok, hinv, hrow, hmok, hmlen, hirow, hiok, hilen⟩ := hI
  unfold YS.tail at hh
  simp only at hl hh hi hnet hPok hinv hrow hmok hmlen hirow hiok hilen hMs
  have hone1 : mk.oneCell' = true := hrow.one
  have hone2 : iv.oneCell' = true := (by obtain ⟨Ei, h1, _⟩ := hirow; exact h1.one)
  have honeP := hnet.one
  refine c_seq ?_
  refine c_region ?_
  refine wl (wl_val hl rfl trivial (r_lss hl rfl rfl) ?_)
  clear hl a; intro a hl
  refine w_nil ?_
  have hl2 := hl.add (t := 1) (hl.add (t := 5) (hl.add (t := 6) (hl.add (t := 7) (hl.add (t := 8) (hl.add (t := 15) (hl.add (t := 16) (hl.add (t := 17) (hl.add (t := 18) (hl.nil) rfl) rfl) rfl) rfl) rfl) rfl) rfl) rfl) rfl; clear hl; have hl := hl2; clear hl2
  refine then_normal ?_
  refine c_seq ?_
  refine c_cond hl rfl ?_ ?_
  · intro hc0
    try simp only [decide_eq_true_eq, decide_eq_false_iff_not, Bool.not_eq_true', Bool.not_eq_false', Bool.not_eq_true, Bool.not_eq_false, Bool.and_eq_true, Bool.or_eq_true, Bool.and_eq_false_iff, Bool.or_eq_false_iff, Bool.not_not, ne_eq, Int.not_lt, Int.not_le, Decidable.not_not, beq_iff_eq, bne_iff_ne] at hc0
    obtain ⟨so, rfl, hat⟩ := h.at_ (by omega)
    obtain ⟨d, hd⟩ : ∃ d, ops[i]? = some d := ⟨_, List.getElem?_eq_getElem (by omega)⟩
    have hqv := hat i d hd
    have hdm := List.mem_of_getElem? hd
    have hdok := h.ok d hdm
    have hm := hpre.1 (by omega)
    have hms := hpre.2 d hdm
    have hsbD := hD sb (hin1 (by omega))
    have hmsD : ∀ x, x ∈ d.Sc → x.1 ∉ List.map Prod.fst ((mc, C [.pointer (some ⟨km0, 0, none⟩)] 71) :: Zm) := fun x hx => hD _ (hin2 d hdm x hx)
    obtain ⟨dkd, did, ⟨ckd, cdv, cpr, cix, cup, cra, crl, cvia, cpm, cda, cdl, ccl⟩, dp, dN, dcap, dSc⟩ := d
    simp only [DO.vals] at hqv
    have hsrc := hdok.src
    simp only at hsrc hms hmsD
    refine wp_skip ?_
    refine then_normal ?_
    refine c_seq ?_
    refine wp_block ?_
    refine c_seq ?_
    refine c_region ?_
    refine wl (wl_val hl rfl trivial (r_indexS hl rfl rfl slc22 (by omega) (by omega) (by first | (simp only [Int.reduceToNat]; rfl) | exact toNat_add1 _ | exact toNat_add2 _ _ | exact toNat_emod _ _ | exact Int.toNat_natCast _ | rfl)) ?_)
    clear hl a; intro a hl
    first | refine wl (w_loadA hl hh rfl trivial agg59 rfl (by repeat (first | exact find_head | apply find_tail)) (by first | (simp only [List.getElem?_cons_zero, List.getElem?_cons_succ, Value.cells, List.take_zero, List.take_succ_cons, List.take_nil, List.drop_zero, List.drop_succ_cons, List.drop_nil, List.length_cons, List.length_nil, List.cons_append, List.nil_append, List.append_nil, Nat.zero_add, Nat.add_zero, Nat.reduceAdd, Nat.reduceBEq, Nat.reduceEqDiff, Nat.ble, BEq.rfl, Bool.and_true, Bool.and_self, cond_true, beq_self_eq_true]; rfl)) (by first | rfl | (simp; done)) ?_) | refine wl (w_loadRA hl hh rfl trivial agg59 rfl hm hsbD hqv rfl ?_)
    clear hl a; intro a hl
    refine wl (w_alloc hl hh rfl trivial zero59 rfl ?_)
    clear hl hh a w; intro k10 a w hl hh
    refine wl (w_storeA hl hh trivial agg59 rfl rfl (by repeat (first | exact find_head | apply find_tail)) (by first | rfl | (simp; done)) (by first | (simp; done) | (simp; omega)) (by first | rfl | (simp; done) | (simp [hone1, hone2]; done)) (by first | (simp only [setL, List.getElem?_cons_zero, List.getElem?_cons_succ, Value.cells, List.take_zero, List.take_succ_cons, List.take_nil, List.drop_zero, List.drop_succ_cons, List.drop_nil, List.length_cons, List.length_nil, List.cons_append, List.nil_append, List.append_nil, Nat.zero_add, Nat.add_zero, Nat.reduceAdd, Nat.reduceBEq, Nat.reduceEqDiff, Nat.ble, BEq.rfl, Bool.and_true, Bool.and_self, cond_true, beq_self_eq_true]; rfl)) ?_)
    clear hh w; intro w hh
    refine w_nil ?_
    have hl2 := hl.add (t := 1) (hl.add (t := 5) (hl.add (t := 6) (hl.add (t := 7) (hl.add (t := 8) (hl.add (t := 10) (hl.add (t := 15) (hl.add (t := 16) (hl.add (t := 17) (hl.nil) rfl) rfl) rfl) rfl) rfl) rfl) rfl) rfl) rfl; clear hl; have hl := hl2; clear hl2
    refine then_normal ?_
    refine c_seq ?_
    refine c_region ?_
    refine wl (w_alloc hl hh rfl trivial zero37 rfl ?_)
    clear hl hh a w; intro k11 a w hl hh
    refine w_nil ?_
    have hl2 := hl.add (t := 1) (hl.add (t := 5) (hl.add (t := 6) (hl.add (t := 7) (hl.add (t := 8) (hl.add (t := 10) (hl.add (t := 11) (hl.add (t := 15) (hl.add (t := 16) (hl.add (t := 17) (hl.nil) rfl) rfl) rfl) rfl) rfl) rfl) rfl) rfl) rfl) rfl; clear hl; have hl := hl2; clear hl2
    refine then_normal ?_
    refine c_seq ?_
    refine c_seq ?_
    refine c_region ?_
    refine wl (wl_val hl rfl trivial (r_field hl rfl fld59_0) ?_)
    clear hl a; intro a hl
    refine wl (w_load hl hh rfl trivial one48 rfl (by repeat (first | exact find_head | apply find_tail)) (by first | rfl) ?_)
    clear hl a; intro a hl
    refine w_nil ?_
    have hl2 := hl.add (t := 1) (hl.add (t := 5) (hl.add (t := 6) (hl.add (t := 7) (hl.add (t := 8) (hl.add (t := 10) (hl.add (t := 11) (hl.add (t := 15) (hl.add (t := 16) (hl.add (t := 17) (hl.add (t := 22) (hl.nil) rfl) rfl) rfl) rfl) rfl) rfl) rfl) rfl) rfl) rfl) rfl; clear hl; have hl := hl2; clear hl2
    refine then_normal ?_
    refine wp_block ?_
    refine c_seq ?_
    refine c_region ?_
    refine wl (wl_val hl rfl trivial (r_eql hl rfl rfl) ?_)
    clear hl a; intro a hl
    refine wl (wl_val hl rfl trivial (r_assign hl rfl) ?_)
    clear hl a; intro a hl
    refine w_nil ?_
    have hl2 := hl.add (t := 1) (hl.add (t := 5) (hl.add (t := 6) (hl.add (t := 7) (hl.add (t := 8) (hl.add (t := 10) (hl.add (t := 11) (hl.add (t := 15) (hl.add (t := 16) (hl.add (t := 17) (hl.add (t := 22) (hl.add (t := 23) (hl.nil) rfl) rfl) rfl) rfl) rfl) rfl) rfl) rfl) rfl) rfl) rfl) rfl; clear hl; have hl := hl2; clear hl2
    refine then_normal ?_
    refine c_cond hl rfl ?_ ?_
    · intro hc1
      try simp only [decide_eq_true_eq, decide_eq_false_iff_not, Bool.not_eq_true', Bool.not_eq_false', Bool.not_eq_true, Bool.not_eq_false, Bool.and_eq_true, Bool.or_eq_true, Bool.and_eq_false_iff, Bool.or_eq_false_iff, Bool.not_not, ne_eq, Int.not_lt, Int.not_le, Decidable.not_not, beq_iff_eq, bne_iff_ne] at hc1
      refine c_seq ?_
      refine c_region ?_
      refine wl (wl_val hl rfl trivial (r_assign hl rfl) ?_)
      clear hl a; intro a hl
      refine w_nil ?_
      have hl2 := hl.add (t := 1) (hl.add (t := 5) (hl.add (t := 6) (hl.add (t := 7) (hl.add (t := 8) (hl.add (t := 10) (hl.add (t := 11) (hl.add (t := 15) (hl.add (t := 16) (hl.add (t := 17) (hl.nil) rfl) rfl) rfl) rfl) rfl) rfl) rfl) rfl) rfl) rfl; clear hl; have hl := hl2; clear hl2
      refine then_normal ?_
      refine c_seq ?_
      refine c_region ?_
      refine wl (wl_val hl rfl trivial (r_field hl rfl fld59_3) ?_)
      clear hl a; intro a hl
      refine wl (w_load hl hh rfl trivial one41 rfl (by repeat (first | exact find_head | apply find_tail)) (by first | rfl) ?_)
      clear hl a; intro a hl
      refine wl (w_call hl hh rfl trivial rfl cal13 rfl (parse_ro dp dN dcap dSc hsrc) (by repeat (first | exact keeps_nil | apply keeps_cons (by repeat (first | exact find_head | apply find_tail)) (by first  | rfl) | exact keeps_self | exact keeps_left | exact keeps_right | exact keeps_swap | apply keeps_mv)) ⟨mem_keepD hh hms hmsD, hsrc.nodup⟩ ?_)
      clear hl hh a w; intro vc Fc a w hR hl hh
      rcases hR with ⟨bid, bs, rvp, Eb, rfl, hRb, hclp, hallp, hid1, hid2, hFe⟩ | ⟨k, code, ep, rfl, rfl, h1, h2, h3, h4, h5⟩
      ·
        try simp only [List.cons_append, List.nil_append, List.append_nil] at hh
        rw [hFe] at hh
        first | replace hh := has_push (A := [_, _, _, _, _]) hh | replace hh := has_push0 (A := [_, _, _, _, _]) hh
        simp only [List.cons_append, List.nil_append] at hh
        obtain ⟨bp, bcap, hbv⟩ := row_val hRb; subst hbv
        obtain ⟨Zb, hZb⟩ : ∃ q, q = Z ++ Eb := ⟨_, rfl⟩
        rw [← hZb] at hh
        have hbok := fun c hc => (hallp c hc).1
        have hblen : bs.length ≤ 1000000 := by omega
        have hEbz : ∀ x, x ∈ Eb → x ∈ Zb := fun x hx => by rw [hZb]; exact List.mem_append_right _ hx
        have hZs : ∀ x, x ∈ Z → x ∈ Zb := fun x hx => by rw [hZb]; exact List.mem_append_left _ hx
        have hNb := hnet.mono hZs
        refine wl (wl_val hl rfl trivial (r_move hl rfl) ?_)
        clear hl a; intro a hl
        refine wl (wl_val hl rfl trivial (r_extract hl rfl (by simp only [List.getElem?_toArray, List.getElem?_cons_zero, List.getElem?_cons_succ]; rfl)) ?_)
        clear hl a; intro a hl
        refine wl (wl_val hl rfl trivial (r_extract hl rfl (by simp only [List.getElem?_toArray, List.getElem?_cons_zero, List.getElem?_cons_succ]; rfl)) ?_)
        clear hl a; intro a hl
        refine wl (w_storeA hl hh trivial agg37 rfl rfl (by repeat (first | exact find_head | apply find_tail)) (by first | rfl | (simp; done)) (by first | (simp; done) | (simp; omega)) (by first | rfl | (simp; done) | (simp [hone1, hone2]; done)) (by first | (simp only [setL, List.getElem?_cons_zero, List.getElem?_cons_succ, Value.cells, List.take_zero, List.take_succ_cons, List.take_nil, List.drop_zero, List.drop_succ_cons, List.drop_nil, List.length_cons, List.length_nil, List.cons_append, List.nil_append, List.append_nil, Nat.zero_add, Nat.add_zero, Nat.reduceAdd, Nat.reduceBEq, Nat.reduceEqDiff, Nat.ble, BEq.rfl, Bool.and_true, Bool.and_self, cond_true, beq_self_eq_true]; rfl)) ?_)
        clear hh w; intro w hh
        refine wl (wl_val hl rfl trivial (r_assign hl rfl) ?_)
        clear hl a; intro a hl
        refine w_nil ?_
        have hl2 := hl.add (t := 1) (hl.add (t := 5) (hl.add (t := 6) (hl.add (t := 7) (hl.add (t := 8) (hl.add (t := 11) (hl.add (t := 12) (hl.add (t := 15) (hl.add (t := 16) (hl.add (t := 17) (hl.nil) rfl) rfl) rfl) rfl) rfl) rfl) rfl) rfl) rfl) rfl; clear hl; have hl := hl2; clear hl2
        refine then_normal ?_
        refine c_seq ?_
        refine c_region ?_
        refine wl (wl_val hl rfl trivial (r_move hl rfl) ?_)
        clear hl a; intro a hl
        first | refine wl (wl_val hl rfl trivial (r_neq_ifcN hl rfl ifc39) ?_) | refine wl (wl_val hl rfl trivial (r_neq_ifcS hl rfl ifc39) ?_)
        clear hl a; intro a hl
        refine w_nil ?_
        have hl2 := hl.add (t := 1) (hl.add (t := 5) (hl.add (t := 6) (hl.add (t := 7) (hl.add (t := 8) (hl.add (t := 11) (hl.add (t := 15) (hl.add (t := 16) (hl.add (t := 17) (hl.add (t := 32) (hl.nil) rfl) rfl) rfl) rfl) rfl) rfl) rfl) rfl) rfl) rfl; clear hl; have hl := hl2; clear hl2
        refine then_normal ?_
        refine c_condF hl rfl ?_
        refine wp_skip ?_
        refine blk_normal ?_
        refine then_normal ?_
        refine c_seq ?_
        refine c_seq ?_
        refine c_region ?_
        refine wl (wl_val hl rfl trivial (r_move hl rfl) ?_)
        clear hl a; intro a hl
        first | refine wl (w_loadA hl hh rfl trivial agg33 rfl (by repeat (first | exact find_head | apply find_tail)) (by first | exact whole _ _ | exact ed_take _ _ _ _) (by rw [arrL_length]) ?_) | refine wl (w_loadRA hl hh rfl trivial agg33 rfl hm hsbD hqv rfl ?_)
        clear hl a; intro a hl
        first | refine wl (w_loadA hl hh rfl trivial agg37 rfl (by repeat (first | exact find_head | apply find_tail)) (by first | (simp only [List.getElem?_cons_zero, List.getElem?_cons_succ, Value.cells, List.take_zero, List.take_succ_cons, List.take_nil, List.drop_zero, List.drop_succ_cons, List.drop_nil, List.length_cons, List.length_nil, List.cons_append, List.nil_append, List.append_nil, Nat.zero_add, Nat.add_zero, Nat.reduceAdd, Nat.reduceBEq, Nat.reduceEqDiff, Nat.ble, BEq.rfl, Bool.and_true, Bool.and_self, cond_true, beq_self_eq_true]; rfl)) (by first | rfl | (simp; done)) ?_) | refine wl (w_loadRA hl hh rfl trivial agg37 rfl hm hsbD hqv rfl ?_)
        clear hl a; intro a hl
        refine wl (w_call hl hh rfl trivial rfl cal26 rfl (each_all _ _ _ _ _ hNb hPok _ _ _ _ hRb hEbz hbok hblen km NN (hMs.mono hZs) mc (nd_one (E := Zb) hh (keeps_cons (b := mc) (by repeat (first | exact find_head | apply find_tail)) rfl (by repeat (first | exact keeps_right | exact keeps_left | exact keeps_self | apply keeps_mv))))) (by repeat (first | exact keeps_nil | apply keeps_cons (by repeat (first | exact find_head | apply find_tail)) (by first  | rfl) | exact keeps_self | exact keeps_left | exact keeps_right | exact keeps_swap | apply keeps_mv)) (fun b o m => hh.mem b o (by simp [m])) ?_)
        clear hl hh a w; intro vc Fc a w hR hl hh
        obtain ⟨rfl, km9, N9, P9, Fz9, rfl, hM9, hcase9⟩ := hR
        try simp only [List.cons_append, List.nil_append] at hh
        change CaseE _ _ _ at hcase9
        first | replace hh := has_ea (A := [_, _, _, _]) hh | replace hh := has_ea0 (A := [_, _, _, _]) hh
        simp only [List.cons_append, List.nil_append] at hh
        obtain ⟨Zc, hZc⟩ : ∃ q, q = Zb ++ Fz9 := ⟨_, rfl⟩
        rw [← hZc] at hh hM9
        have hsb : ∀ x, x ∈ Zb → x ∈ Zc := fun x hx => by rw [hZc]; exact List.mem_append_left _ hx
        replace hNb := hNb.mono hsb
        replace hEbz := fun x hx => hsb x (hEbz x hx)
        replace hZs := fun x hx => hsb x (hZs x hx)
        refine wl (wl_val hl rfl trivial (r_not hl rfl) ?_)
        clear hl a; intro a hl
        refine w_nil ?_
        have hl2 := hl.add (t := 1) (hl.add (t := 5) (hl.add (t := 6) (hl.add (t := 7) (hl.add (t := 8) (hl.add (t := 11) (hl.add (t := 15) (hl.add (t := 16) (hl.add (t := 17) (hl.add (t := 55) (hl.nil) rfl) rfl) rfl) rfl) rfl) rfl) rfl) rfl) rfl) rfl; clear hl; have hl := hl2; clear hl2
        refine then_normal ?_
        refine c_cond hl rfl ?_ ?_
        · intro hc7
          try simp only [decide_eq_true_eq, decide_eq_false_iff_not, Bool.not_eq_true', Bool.not_eq_false', Bool.not_eq_true, Bool.not_eq_false, Bool.and_eq_true, Bool.or_eq_true, Bool.and_eq_false_iff, Bool.or_eq_false_iff, Bool.not_not, ne_eq, Int.not_lt, Int.not_le, Decidable.not_not, beq_iff_eq, bne_iff_ne] at hc7
          exfalso; first | contradiction | omega
        · intro hc7
          try simp only [decide_eq_true_eq, decide_eq_false_iff_not, Bool.not_eq_true', Bool.not_eq_false', Bool.not_eq_true, Bool.not_eq_false, Bool.and_eq_true, Bool.or_eq_true, Bool.and_eq_false_iff, Bool.or_eq_false_iff, Bool.not_not, ne_eq, Int.not_lt, Int.not_le, Decidable.not_not, beq_iff_eq, bne_iff_ne] at hc7
          refine wp_skip ?_
          refine then_normal ?_
          refine c_seq ?_
          refine c_region ?_
          first | refine wl (w_loadA hl hh rfl trivial agg33 rfl (by repeat (first | exact find_head | apply find_tail)) (by first | exact whole _ _ | exact ed_take _ _ _ _) (by rw [arrL_length]) ?_) | refine wl (w_loadRA hl hh rfl trivial agg33 rfl hm hsbD hqv rfl ?_)
          clear hl a; intro a hl
          first | refine wl (w_loadA hl hh rfl trivial agg37 rfl (by repeat (first | exact find_head | apply find_tail)) (by first | (simp only [List.getElem?_cons_zero, List.getElem?_cons_succ, Value.cells, List.take_zero, List.take_succ_cons, List.take_nil, List.drop_zero, List.drop_succ_cons, List.drop_nil, List.length_cons, List.length_nil, List.cons_append, List.nil_append, List.append_nil, Nat.zero_add, Nat.add_zero, Nat.reduceAdd, Nat.reduceBEq, Nat.reduceEqDiff, Nat.ble, BEq.rfl, Bool.and_true, Bool.and_self, cond_true, beq_self_eq_true]; rfl)) (by first | rfl | (simp; done)) ?_) | refine wl (w_loadRA hl hh rfl trivial agg37 rfl hm hsbD hqv rfl ?_)
          clear hl a; intro a hl
          refine wl (w_call hl hh rfl trivial rfl cal19 rfl (inverse_spec _ _ _ _ _ hNb hPok _ _ _ _ hRb hEbz hbok hblen) (by repeat (first | exact keeps_nil | apply keeps_cons (by repeat (first | exact find_head | apply find_tail)) (by first  | rfl) | exact keeps_self | exact keeps_left | exact keeps_right | exact keeps_swap | apply keeps_mv)) (fun b o m => hh.mem b o (by simp [m])) ?_)
          clear hl hh a w; intro vc Fc a w hR hl hh
          rcases hR with ⟨P', us, uv, hchk, hst, hul, huok, hrowu, rfl⟩ | ⟨k, code, pos, hbad, rfl, rfl⟩
          ·
            try simp only [List.cons_append, List.nil_append, List.append_nil] at hh
            generalize Fc = Fu at hh hrowu
            first | replace hh := has_push (A := [_, _, _, _, _]) hh | replace hh := has_push0 (A := [_, _, _, _, _]) hh
            simp only [List.cons_append, List.nil_append] at hh
            obtain ⟨up2, uc2, huv⟩ := row_val hrowu
            subst huv
            refine wl (wl_val hl rfl trivial (r_move hl rfl) ?_)
            clear hl a; intro a hl
            refine wl (wl_val hl rfl trivial (r_extract hl rfl (by simp only [List.getElem?_toArray, List.getElem?_cons_zero, List.getElem?_cons_succ]; rfl)) ?_)
            clear hl a; intro a hl
            refine wl (wl_val hl rfl trivial (r_extract hl rfl (by simp only [List.getElem?_toArray, List.getElem?_cons_zero, List.getElem?_cons_succ]; rfl)) ?_)
            clear hl a; intro a hl
            refine wl (w_alloc hl hh rfl trivial zero37 rfl ?_)
            clear hl hh a w; intro k13 a w hl hh
            refine wl (w_storeA hl hh trivial agg37 rfl rfl (by repeat (first | exact find_head | apply find_tail)) (by first | rfl | (simp; done)) (by first | (simp; done) | (simp; omega)) (by first | rfl | (simp; done) | (simp [hone1, hone2]; done)) (by first | (simp only [setL, List.getElem?_cons_zero, List.getElem?_cons_succ, Value.cells, List.take_zero, List.take_succ_cons, List.take_nil, List.drop_zero, List.drop_succ_cons, List.drop_nil, List.length_cons, List.length_nil, List.cons_append, List.nil_append, List.append_nil, Nat.zero_add, Nat.add_zero, Nat.reduceAdd, Nat.reduceBEq, Nat.reduceEqDiff, Nat.ble, BEq.rfl, Bool.and_true, Bool.and_self, cond_true, beq_self_eq_true]; rfl)) ?_)
            clear hh w; intro w hh
            refine wl (wl_val hl rfl trivial (r_assign hl rfl) ?_)
            clear hl a; intro a hl
            refine w_nil ?_
            have hl2 := hl.add (t := 1) (hl.add (t := 5) (hl.add (t := 6) (hl.add (t := 7) (hl.add (t := 8) (hl.add (t := 11) (hl.add (t := 13) (hl.add (t := 14) (hl.add (t := 15) (hl.add (t := 16) (hl.add (t := 17) (hl.nil) rfl) rfl) rfl) rfl) rfl) rfl) rfl) rfl) rfl) rfl) rfl; clear hl; have hl := hl2; clear hl2
            refine then_normal ?_
            refine c_seq ?_
            refine c_region ?_
            refine wl (wl_val hl rfl trivial (r_move hl rfl) ?_)
            clear hl a; intro a hl
            first | refine wl (wl_val hl rfl trivial (r_eql_ifcN hl rfl ifc39) ?_) | refine wl (wl_val hl rfl trivial (r_eql_ifcS hl rfl ifc39) ?_)
            clear hl a; intro a hl
            refine w_nil ?_
            have hl2 := hl.add (t := 1) (hl.add (t := 5) (hl.add (t := 6) (hl.add (t := 7) (hl.add (t := 8) (hl.add (t := 11) (hl.add (t := 13) (hl.add (t := 15) (hl.add (t := 16) (hl.add (t := 17) (hl.add (t := 63) (hl.nil) rfl) rfl) rfl) rfl) rfl) rfl) rfl) rfl) rfl) rfl) rfl; clear hl; have hl := hl2; clear hl2
            refine then_normal ?_
            refine c_condT hl rfl ?_
            refine c_seq ?_
            refine c_region ?_
            first | refine wl (w_loadA hl hh rfl trivial agg33 rfl (by repeat (first | exact find_head | apply find_tail)) (by first | exact whole _ _ | exact ed_take _ _ _ _) (by rw [arrL_length]) ?_) | refine wl (w_loadRA hl hh rfl trivial agg33 rfl hm hsbD hqv rfl ?_)
            clear hl a; intro a hl
            first | refine wl (w_loadA hl hh rfl trivial agg37 rfl (by repeat (first | exact find_head | apply find_tail)) (by first | (simp only [List.getElem?_cons_zero, List.getElem?_cons_succ, Value.cells, List.take_zero, List.take_succ_cons, List.take_nil, List.drop_zero, List.drop_succ_cons, List.drop_nil, List.length_cons, List.length_nil, List.cons_append, List.nil_append, List.append_nil, Nat.zero_add, Nat.add_zero, Nat.reduceAdd, Nat.reduceBEq, Nat.reduceEqDiff, Nat.ble, BEq.rfl, Bool.and_true, Bool.and_self, cond_true, beq_self_eq_true]; rfl)) (by first | rfl | (simp; done)) ?_) | refine wl (w_loadRA hl hh rfl trivial agg37 rfl hm hsbD hqv rfl ?_)
            clear hl a; intro a hl
            refine wl (w_call hl hh rfl trivial rfl cal18 rfl (apply_spec _ _ _ _ _ hNb hPok _ _ _ _ hRb hEbz hbok hblen) (by repeat (first | exact keeps_nil | apply keeps_cons (by repeat (first | exact find_head | apply find_tail)) (by first  | rfl) | exact keeps_self | exact keeps_left | exact keeps_right | exact keeps_swap | apply keeps_mv)) (fun b o m => hh.mem b o (by simp [m])) ?_)
            clear hl hh a w; intro vc Fc a w hR hl hh
            rcases hR with ⟨P2, us2, rv', av', _, hst2, hP3, hN3, rfl⟩ | ⟨k, code, pos, hbad, rfl, rfl⟩
            ·
              try simp only [List.cons_append, List.nil_append, List.append_nil] at hh
              have hPe := steps_fun hst2 hst
              subst hPe
              generalize Fc = Fx at hh hN3
              first | replace hh := has_push (A := [_, _, _, _, _, _]) hh | replace hh := has_push0 (A := [_, _, _, _, _, _]) hh
              simp only [List.cons_append, List.nil_append] at hh
              have honeN := hN3.one
              replace hN3 : NetR rv' av' P2 ((Zc ++ Fu) ++ Fx) := hN3.mono (fun x hx => by simp only [List.mem_append] at hx ⊢; rcases hx with h | h; exact .inl (.inl h); exact .inr h)
              have hInv3 : True := trivial
              refine wl (wl_val hl rfl trivial (r_move hl rfl) ?_)
              clear hl a; intro a hl
              refine wl (wl_val hl rfl trivial (r_extract hl rfl (by simp only [List.getElem?_toArray, List.getElem?_cons_zero, List.getElem?_cons_succ]; rfl)) ?_)
              clear hl a; intro a hl
              refine wl (wl_val hl rfl trivial (r_extract hl rfl (by simp only [List.getElem?_toArray, List.getElem?_cons_zero, List.getElem?_cons_succ]; rfl)) ?_)
              clear hl a; intro a hl
              refine wl (w_storeA hl hh trivial agg33 rfl rfl (by repeat (first | exact find_head | apply find_tail)) (by rw [arrL_length]) (by rw [arrL_length]; omega) (by exact nv_one honeN) (by exact setw _ _ _) ?_)
              clear hh w; intro w hh
              refine w_nil ?_
              have hl2 := hl.add (t := 1) (hl.add (t := 5) (hl.add (t := 6) (hl.add (t := 7) (hl.add (t := 13) (hl.add (t := 15) (hl.add (t := 16) (hl.add (t := 17) (hl.nil) rfl) rfl) rfl) rfl) rfl) rfl) rfl) rfl; clear hl; have hl := hl2; clear hl2
              refine then_normal ?_
              refine c_region ?_
              first | refine wl (w_loadA hl hh rfl trivial agg37 rfl (by repeat (first | exact find_head | apply find_tail)) (by first | (simp only [List.getElem?_cons_zero, List.getElem?_cons_succ, Value.cells, List.take_zero, List.take_succ_cons, List.take_nil, List.drop_zero, List.drop_succ_cons, List.drop_nil, List.length_cons, List.length_nil, List.cons_append, List.nil_append, List.append_nil, Nat.zero_add, Nat.add_zero, Nat.reduceAdd, Nat.reduceBEq, Nat.reduceEqDiff, Nat.ble, BEq.rfl, Bool.and_true, Bool.and_self, cond_true, beq_self_eq_true]; rfl)) (by first | rfl | (simp; done)) ?_) | refine wl (w_loadRA hl hh rfl trivial agg37 rfl hm hsbD hqv rfl ?_)
              clear hl a; intro a hl
              refine wl (w_storeA hl hh trivial agg37 rfl rfl (by repeat (first | exact find_head | apply find_tail)) (by first | rfl | (simp; done)) (by first | (simp; done) | (simp; omega)) (by first | rfl | (simp; done) | (simp [hone1, hone2]; done)) (by first | (simp only [setL, List.getElem?_cons_zero, List.getElem?_cons_succ, Value.cells, List.take_zero, List.take_succ_cons, List.take_nil, List.drop_zero, List.drop_succ_cons, List.drop_nil, List.length_cons, List.length_nil, List.cons_append, List.nil_append, List.append_nil, Nat.zero_add, Nat.add_zero, Nat.reduceAdd, Nat.reduceBEq, Nat.reduceEqDiff, Nat.ble, BEq.rfl, Bool.and_true, Bool.and_self, cond_true, beq_self_eq_true]; rfl)) ?_)
              clear hh w; intro w hh
              refine wl (wl_val hl rfl trivial (r_assign hl rfl) ?_)
              clear hl a; intro a hl
              refine w_nil ?_
              have hl2 := hl.add (t := 1) (hl.add (t := 5) (hl.add (t := 6) (hl.add (t := 7) (hl.add (t := 8) (hl.add (t := 15) (hl.add (t := 16) (hl.add (t := 17) (hl.nil) rfl) rfl) rfl) rfl) rfl) rfl) rfl) rfl; clear hl; have hl := hl2; clear hl2
              refine blk_normal ?_
              refine then_normal ?_
              refine c_region ?_
              first | refine wl (wl_val hl rfl trivial (r_add hl rfl rfl (by simp only [Fits]; omega)) ?_) | refine wl (wl_val hl rfl trivial (r_addW hl rfl rfl) ?_)
              clear hl a; intro a hl
              refine wl (wl_val hl rfl trivial (r_move hl rfl) ?_)
              clear hl a; intro a hl
              refine w_nil ?_
              have hl2 := hl.add (t := 1) (hl.add (t := 5) (hl.add (t := 6) (hl.add (t := 7) (hl.add (t := 8) (hl.add (t := 15) (hl.add (t := 16) (hl.add (t := 17) (hl.nil) rfl) rfl) rfl) rfl) rfl) rfl) rfl) rfl; clear hl; have hl := hl2; clear hl2
              refine then_normal ?_
              first | refine ⟨⟨⟨i + 1, rv', av', P2, mk, ms, Em, bid, .slice up2 us.length uc2, us.reverse, true, (Zc ++ Fu) ++ Fx⟩, km9, N9⟩, (by show n - (i + 1) < n - i; omega), ⟨⟨by show i + 1 ≤ n; omega, hN3, hP3, hInv3, hrow, hmok, (by show ms.length ≤ i + 1; omega), ⟨Fu, by show Row _ us.reverse.length _ _ _ _; rw [List.length_reverse]; exact hrowu, fun x hx => List.mem_append_left _ (List.mem_append_right _ hx)⟩, fun c hc => huok c (List.mem_reverse.1 hc), by show us.reverse.length ≤ 1000000; rw [List.length_reverse]; omega⟩, (by have e9 := case_ok hcase9 hchk hst2; rw [e9] at hM9; exact hM9.mono (fun x hx => by simp [hx]))⟩, hl.addE (t := 17) (hl.addE (t := 6) (hl.addE (t := 8) (hl.addE (t := 1) (hl.addE (t := 5) (hl.addE (t := 7) (hl.addE (t := 15) (hl.addE (t := 16) (hl.nil) rfl (by first | rfl | rfl)) rfl (by first | rfl | rfl)) rfl (by first | rfl | rfl)) rfl (by first | rfl | rfl)) rfl (by first | rfl | rfl)) rfl (by first | rfl | rfl)) rfl (by first | rfl | rfl)) rfl (by first | rfl | rfl), hh.keep (by repeat (first | exact keeps_nil | apply keeps_cons (by repeat (first | exact find_head | apply find_tail)) (by first  | rfl) | exact keeps_self | exact keeps_left | exact keeps_right | exact keeps_swap | apply keeps_mv))⟩ | refine ⟨⟨⟨i + 1, rv', av', P2, .slice none 0 0, [], [], did, .slice up2 us.length uc2, us.reverse, true, Zc ++ (Fu ++ Fx)⟩, km9, N9⟩, (by show n - (i + 1) < n - i; omega), ⟨⟨by show i + 1 ≤ n; omega, (by rw [← List.append_assoc]; exact hN3), hP3, hInv3, Row.nil _ _, (fun c hc => by cases hc), Nat.zero_le _, ⟨Fu, by show Row _ us.reverse.length _ _ _ _; rw [List.length_reverse]; exact hrowu, fun x hx => List.mem_append_right _ (List.mem_append_left _ hx)⟩, fun c hc => huok c (List.mem_reverse.1 hc), by show us.reverse.length ≤ 1000000; rw [List.length_reverse]; omega⟩, (by have e9 := case_ok hcase9 hchk hst2; rw [e9] at hM9; exact hM9.mono (fun x hx => by simp [hx]))⟩, hl.addE (t := 17) (hl.addE (t := 6) (hl.addE (t := 8) (hl.addE (t := 1) (hl.addE (t := 5) (hl.addE (t := 7) (hl.addE (t := 15) (hl.addE (t := 16) (hl.nil) rfl (by first | rfl | rfl)) rfl (by first | rfl | rfl)) rfl (by first | rfl | rfl)) rfl (by first | rfl | rfl)) rfl (by first | rfl | rfl)) rfl (by first | rfl | rfl)) rfl (by first | rfl | rfl)) rfl (by first | rfl | rfl), hh.keep (by repeat (first | exact keeps_nil | apply keeps_cons (by repeat (first | exact find_head | apply find_tail)) (by first  | rfl) | exact keeps_self | exact keeps_left | exact keeps_right | exact keeps_swap | apply keeps_mv))⟩ | refine ⟨⟨⟨i + 1, rv', av', P2, mk, ms, Em, iid, .slice up2 us.length uc2, us.reverse, true, (Zc ++ Fu) ++ Fx⟩, km9, N9⟩, (by show n - (i + 1) < n - i; omega), ⟨⟨by show i + 1 ≤ n; omega, hN3, hP3, hInv3, hrow, hmok, (by show ms.length ≤ i + 1; omega), ⟨Fu, by show Row _ us.reverse.length _ _ _ _; rw [List.length_reverse]; exact hrowu, fun x hx => List.mem_append_left _ (List.mem_append_right _ hx)⟩, fun c hc => huok c (List.mem_reverse.1 hc), by show us.reverse.length ≤ 1000000; rw [List.length_reverse]; omega⟩, (by have e9 := case_ok hcase9 hchk hst2; rw [e9] at hM9; exact hM9.mono (fun x hx => by simp [hx]))⟩, hl.addE (t := 17) (hl.addE (t := 6) (hl.addE (t := 8) (hl.addE (t := 1) (hl.addE (t := 5) (hl.addE (t := 7) (hl.addE (t := 15) (hl.addE (t := 16) (hl.nil) rfl (by first | rfl | rfl)) rfl (by first | rfl | rfl)) rfl (by first | rfl | rfl)) rfl (by first | rfl | rfl)) rfl (by first | rfl | rfl)) rfl (by first | rfl | rfl)) rfl (by first | rfl | rfl)) rfl (by first | rfl | rfl), hh.keep (by repeat (first | exact keeps_nil | apply keeps_cons (by repeat (first | exact find_head | apply find_tail)) (by first  | rfl) | exact keeps_self | exact keeps_left | exact keeps_right | exact keeps_swap | apply keeps_mv))⟩ | refine ⟨⟨⟨i + 1, rvs, avs, P, mk, ms, Em, iid, iv, is, ap, Zc⟩, km9, N9⟩, (by show n - (i + 1) < n - i; omega), ⟨⟨by show i + 1 ≤ n; omega, hNb, hPok, hinv, hrow, hmok, (by show ms.length ≤ i + 1; omega), (by obtain ⟨Ei, h1, h2⟩ := hirow; exact ⟨Ei, h1, fun x hx => hZs x (h2 x hx)⟩), hiok, hilen⟩, (by have e9 := case_bad hcase9 hbad; rw [e9] at hM9; exact hM9)⟩, hl.addE (t := 17) (hl.addE (t := 6) (hl.addE (t := 8) (hl.addE (t := 1) (hl.addE (t := 5) (hl.addE (t := 7) (hl.addE (t := 15) (hl.addE (t := 16) (hl.nil) rfl (by first | rfl | rfl)) rfl (by first | rfl | rfl)) rfl (by first | rfl | rfl)) rfl (by first | rfl | rfl)) rfl (by first | rfl | rfl)) rfl (by first | rfl | rfl)) rfl (by first | rfl | rfl)) rfl (by first | rfl | rfl), hh.keep (by repeat (first | exact keeps_nil | apply keeps_cons (by repeat (first | exact find_head | apply find_tail)) (by first  | rfl) | exact keeps_self | exact keeps_left | exact keeps_right | exact keeps_swap | apply keeps_mv))⟩ | refine ⟨⟨⟨i + 1, rvs, avs, P, mk, ms, Em, iid, .slice bp is.length bcap, is, ap, Zc⟩, km9, N9⟩, (by show n - (i + 1) < n - i; omega), ⟨⟨by show i + 1 ≤ n; omega, hNb, hPok, hinv, hrow, hmok, (by show ms.length ≤ i + 1; omega), (by obtain ⟨Ei, h1, h2⟩ := hirow; exact ⟨Ei, h1, fun x hx => hZs x (h2 x hx)⟩), hiok, hilen⟩, (by have e9 := case_bad hcase9 hbad; rw [e9] at hM9; exact hM9)⟩, hl.addE (t := 17) (hl.addE (t := 6) (hl.addE (t := 8) (hl.addE (t := 1) (hl.addE (t := 5) (hl.addE (t := 7) (hl.addE (t := 15) (hl.addE (t := 16) (hl.nil) rfl (by first | rfl | rfl)) rfl (by first | rfl | rfl)) rfl (by first | rfl | rfl)) rfl (by first | rfl | rfl)) rfl (by first | rfl | rfl)) rfl (by first | rfl | rfl)) rfl (by first | rfl | rfl)) rfl (by first | rfl | rfl), hh.keep (by repeat (first | exact keeps_nil | apply keeps_cons (by repeat (first | exact find_head | apply find_tail)) (by first  | rfl) | exact keeps_self | exact keeps_left | exact keeps_right | exact keeps_swap | apply keeps_mv))⟩ | refine ⟨⟨⟨i + 1, rvs, avs, P, .slice none 0 0, [], [], iid, iv, is, ap, Zc⟩, km9, N9⟩, (by show n - (i + 1) < n - i; omega), ⟨⟨by show i + 1 ≤ n; omega, hNb, hPok, hinv, Row.nil _ _, (fun c hc => by cases hc), Nat.zero_le _, (by obtain ⟨Ei, h1, h2⟩ := hirow; exact ⟨Ei, h1, fun x hx => hZs x (h2 x hx)⟩), hiok, hilen⟩, (by have e9 := case_bad hcase9 hbad; rw [e9] at hM9; exact hM9)⟩, hl.addE (t := 17) (hl.addE (t := 6) (hl.addE (t := 8) (hl.addE (t := 1) (hl.addE (t := 5) (hl.addE (t := 7) (hl.addE (t := 15) (hl.addE (t := 16) (hl.nil) rfl (by first | rfl | rfl)) rfl (by first | rfl | rfl)) rfl (by first | rfl | rfl)) rfl (by first | rfl | rfl)) rfl (by first | rfl | rfl)) rfl (by first | rfl | rfl)) rfl (by first | rfl | rfl)) rfl (by first | rfl | rfl), hh.keep (by repeat (first | exact keeps_nil | apply keeps_cons (by repeat (first | exact find_head | apply find_tail)) (by first  | rfl) | exact keeps_self | exact keeps_left | exact keeps_right | exact keeps_swap | apply keeps_mv))⟩ | refine ⟨⟨⟨i + 1, rvs, avs, P, rv2, ms ++ [⟨ckd, cdv, cpr, cix, cup, cra, crl, cvia, cpm, cda, cdl, ccl⟩], E2, iid, iv, is, ap, Z⟩, km, NN⟩, (by show n - (i + 1) < n - i; omega), ⟨⟨by show i + 1 ≤ n; omega, hnet, hPok, hinv, (by show Row rv2 (ms ++ [_]).length _ _ _ _; rw [List.length_append, chs_snoc]; exact hR2), (fun c hc => by rcases List.mem_append.1 hc with h | h; exact hmok c h; (rw [List.mem_singleton] at h; subst h; exact hdok.ch)), (by show (ms ++ [_]).length ≤ i + 1; rw [List.length_append]; show ms.length + 1 ≤ i + 1; omega), hirow, hiok, hilen⟩, hMs⟩, hl.addE (t := 17) (hl.addE (t := 6) (hl.addE (t := 8) (hl.addE (t := 1) (hl.addE (t := 5) (hl.addE (t := 7) (hl.addE (t := 15) (hl.addE (t := 16) (hl.nil) rfl (by first | rfl | rfl)) rfl (by first | rfl | rfl)) rfl (by first | rfl | rfl)) rfl (by first | rfl | rfl)) rfl (by first | rfl | rfl)) rfl (by first | rfl | rfl)) rfl (by first | rfl | rfl)) rfl (by first | rfl | rfl), hh.keep (by repeat (first | exact keeps_nil | apply keeps_cons (by repeat (first | exact find_head | apply find_tail)) (by first  | rfl) | exact keeps_self | exact keeps_left | exact keeps_right | exact keeps_swap | apply keeps_mv))⟩ | refine ⟨⟨⟨i + 1, rvs, avs, P, mk, ms, Em, iid, iv, is, ap, Z⟩, km, NN⟩, (by show n - (i + 1) < n - i; omega), ⟨⟨by show i + 1 ≤ n; omega, hnet, hPok, hinv, hrow, hmok, (by show ms.length ≤ i + 1; omega), hirow, hiok, hilen⟩, hMs⟩, hl.addE (t := 17) (hl.addE (t := 6) (hl.addE (t := 8) (hl.addE (t := 1) (hl.addE (t := 5) (hl.addE (t := 7) (hl.addE (t := 15) (hl.addE (t := 16) (hl.nil) rfl (by first | rfl | rfl)) rfl (by first | rfl | rfl)) rfl (by first | rfl | rfl)) rfl (by first | rfl | rfl)) rfl (by first | rfl | rfl)) rfl (by first | rfl | rfl)) rfl (by first | rfl | rfl)) rfl (by first | rfl | rfl), hh.keep (by repeat (first | exact keeps_nil | apply keeps_cons (by repeat (first | exact find_head | apply find_tail)) (by first  | rfl) | exact keeps_self | exact keeps_left | exact keeps_right | exact keeps_swap | apply keeps_mv))⟩
            ·
              try simp only [List.cons_append, List.nil_append, List.append_nil] at hh
              exact (ok_not_bad hchk hst hbad).elim
          ·
            try simp only [List.cons_append, List.nil_append, List.append_nil] at hh
            refine wl (wl_val hl rfl trivial (r_move hl rfl) ?_)
            clear hl a; intro a hl
            refine wl (wl_val hl rfl trivial (r_extract hl rfl (by simp only [List.getElem?_toArray, List.getElem?_cons_zero, List.getElem?_cons_succ]; rfl)) ?_)
            clear hl a; intro a hl
            refine wl (wl_val hl rfl trivial (r_extract hl rfl (by simp only [List.getElem?_toArray, List.getElem?_cons_zero, List.getElem?_cons_succ]; rfl)) ?_)
            clear hl a; intro a hl
            refine wl (w_alloc hl hh rfl trivial zero37 rfl ?_)
            clear hl hh a w; intro k13 a w hl hh
            refine wl (w_storeA hl hh trivial agg37 rfl rfl (by repeat (first | exact find_head | apply find_tail)) (by first | rfl | (simp; done)) (by first | (simp; done) | (simp; omega)) (by first | rfl | (simp; done) | (simp [hone1, hone2]; done)) (by first | (simp only [setL, List.getElem?_cons_zero, List.getElem?_cons_succ, Value.cells, List.take_zero, List.take_succ_cons, List.take_nil, List.drop_zero, List.drop_succ_cons, List.drop_nil, List.length_cons, List.length_nil, List.cons_append, List.nil_append, List.append_nil, Nat.zero_add, Nat.add_zero, Nat.reduceAdd, Nat.reduceBEq, Nat.reduceEqDiff, Nat.ble, BEq.rfl, Bool.and_true, Bool.and_self, cond_true, beq_self_eq_true]; rfl)) ?_)
            clear hh w; intro w hh
            refine wl (wl_val hl rfl trivial (r_assign hl rfl) ?_)
            clear hl a; intro a hl
            refine w_nil ?_
            have hl2 := hl.add (t := 1) (hl.add (t := 5) (hl.add (t := 6) (hl.add (t := 7) (hl.add (t := 8) (hl.add (t := 11) (hl.add (t := 13) (hl.add (t := 14) (hl.add (t := 15) (hl.add (t := 16) (hl.add (t := 17) (hl.nil) rfl) rfl) rfl) rfl) rfl) rfl) rfl) rfl) rfl) rfl) rfl; clear hl; have hl := hl2; clear hl2
            refine then_normal ?_
            refine c_seq ?_
            refine c_region ?_
            refine wl (wl_val hl rfl trivial (r_move hl rfl) ?_)
            clear hl a; intro a hl
            first | refine wl (wl_val hl rfl trivial (r_eql_ifcN hl rfl ifc39) ?_) | refine wl (wl_val hl rfl trivial (r_eql_ifcS hl rfl ifc39) ?_)
            clear hl a; intro a hl
            refine w_nil ?_
            have hl2 := hl.add (t := 1) (hl.add (t := 5) (hl.add (t := 6) (hl.add (t := 7) (hl.add (t := 8) (hl.add (t := 11) (hl.add (t := 13) (hl.add (t := 15) (hl.add (t := 16) (hl.add (t := 17) (hl.add (t := 63) (hl.nil) rfl) rfl) rfl) rfl) rfl) rfl) rfl) rfl) rfl) rfl) rfl; clear hl; have hl := hl2; clear hl2
            refine then_normal ?_
            refine c_condF hl rfl ?_
            refine wp_skip ?_
            refine blk_normal ?_
            refine then_normal ?_
            refine c_region ?_
            first | refine wl (wl_val hl rfl trivial (r_add hl rfl rfl (by simp only [Fits]; omega)) ?_) | refine wl (wl_val hl rfl trivial (r_addW hl rfl rfl) ?_)
            clear hl a; intro a hl
            refine wl (wl_val hl rfl trivial (r_move hl rfl) ?_)
            clear hl a; intro a hl
            refine w_nil ?_
            have hl2 := hl.add (t := 1) (hl.add (t := 5) (hl.add (t := 6) (hl.add (t := 7) (hl.add (t := 8) (hl.add (t := 15) (hl.add (t := 16) (hl.add (t := 17) (hl.nil) rfl) rfl) rfl) rfl) rfl) rfl) rfl) rfl; clear hl; have hl := hl2; clear hl2
            refine then_normal ?_
            first | refine ⟨⟨⟨i + 1, rv', av', P2, mk, ms, Em, bid, .slice up2 us.length uc2, us.reverse, true, (Zc ++ Fu) ++ Fx⟩, km9, N9⟩, (by show n - (i + 1) < n - i; omega), ⟨⟨by show i + 1 ≤ n; omega, hN3, hP3, hInv3, hrow, hmok, (by show ms.length ≤ i + 1; omega), ⟨Fu, by show Row _ us.reverse.length _ _ _ _; rw [List.length_reverse]; exact hrowu, fun x hx => List.mem_append_left _ (List.mem_append_right _ hx)⟩, fun c hc => huok c (List.mem_reverse.1 hc), by show us.reverse.length ≤ 1000000; rw [List.length_reverse]; omega⟩, (by have e9 := case_ok hcase9 hchk hst2; rw [e9] at hM9; exact hM9.mono (fun x hx => by simp [hx]))⟩, hl.addE (t := 17) (hl.addE (t := 6) (hl.addE (t := 8) (hl.addE (t := 1) (hl.addE (t := 5) (hl.addE (t := 7) (hl.addE (t := 15) (hl.addE (t := 16) (hl.nil) rfl (by first | rfl | rfl)) rfl (by first | rfl | rfl)) rfl (by first | rfl | rfl)) rfl (by first | rfl | rfl)) rfl (by first | rfl | rfl)) rfl (by first | rfl | rfl)) rfl (by first | rfl | rfl)) rfl (by first | rfl | rfl), hh.keep (by repeat (first | exact keeps_nil | apply keeps_cons (by repeat (first | exact find_head | apply find_tail)) (by first  | rfl) | exact keeps_self | exact keeps_left | exact keeps_right | exact keeps_swap | apply keeps_mv))⟩ | refine ⟨⟨⟨i + 1, rv', av', P2, .slice none 0 0, [], [], did, .slice up2 us.length uc2, us.reverse, true, Zc ++ (Fu ++ Fx)⟩, km9, N9⟩, (by show n - (i + 1) < n - i; omega), ⟨⟨by show i + 1 ≤ n; omega, (by rw [← List.append_assoc]; exact hN3), hP3, hInv3, Row.nil _ _, (fun c hc => by cases hc), Nat.zero_le _, ⟨Fu, by show Row _ us.reverse.length _ _ _ _; rw [List.length_reverse]; exact hrowu, fun x hx => List.mem_append_right _ (List.mem_append_left _ hx)⟩, fun c hc => huok c (List.mem_reverse.1 hc), by show us.reverse.length ≤ 1000000; rw [List.length_reverse]; omega⟩, (by have e9 := case_ok hcase9 hchk hst2; rw [e9] at hM9; exact hM9.mono (fun x hx => by simp [hx]))⟩, hl.addE (t := 17) (hl.addE (t := 6) (hl.addE (t := 8) (hl.addE (t := 1) (hl.addE (t := 5) (hl.addE (t := 7) (hl.addE (t := 15) (hl.addE (t := 16) (hl.nil) rfl (by first | rfl | rfl)) rfl (by first | rfl | rfl)) rfl (by first | rfl | rfl)) rfl (by first | rfl | rfl)) rfl (by first | rfl | rfl)) rfl (by first | rfl | rfl)) rfl (by first | rfl | rfl)) rfl (by first | rfl | rfl), hh.keep (by repeat (first | exact keeps_nil | apply keeps_cons (by repeat (first | exact find_head | apply find_tail)) (by first  | rfl) | exact keeps_self | exact keeps_left | exact keeps_right | exact keeps_swap | apply keeps_mv))⟩ | refine ⟨⟨⟨i + 1, rv', av', P2, mk, ms, Em, iid, .slice up2 us.length uc2, us.reverse, true, (Zc ++ Fu) ++ Fx⟩, km9, N9⟩, (by show n - (i + 1) < n - i; omega), ⟨⟨by show i + 1 ≤ n; omega, hN3, hP3, hInv3, hrow, hmok, (by show ms.length ≤ i + 1; omega), ⟨Fu, by show Row _ us.reverse.length _ _ _ _; rw [List.length_reverse]; exact hrowu, fun x hx => List.mem_append_left _ (List.mem_append_right _ hx)⟩, fun c hc => huok c (List.mem_reverse.1 hc), by show us.reverse.length ≤ 1000000; rw [List.length_reverse]; omega⟩, (by have e9 := case_ok hcase9 hchk hst2; rw [e9] at hM9; exact hM9.mono (fun x hx => by simp [hx]))⟩, hl.addE (t := 17) (hl.addE (t := 6) (hl.addE (t := 8) (hl.addE (t := 1) (hl.addE (t := 5) (hl.addE (t := 7) (hl.addE (t := 15) (hl.addE (t := 16) (hl.nil) rfl (by first | rfl | rfl)) rfl (by first | rfl | rfl)) rfl (by first | rfl | rfl)) rfl (by first | rfl | rfl)) rfl (by first | rfl | rfl)) rfl (by first | rfl | rfl)) rfl (by first | rfl | rfl)) rfl (by first | rfl | rfl), hh.keep (by repeat (first | exact keeps_nil | apply keeps_cons (by repeat (first | exact find_head | apply find_tail)) (by first  | rfl) | exact keeps_self | exact keeps_left | exact keeps_right | exact keeps_swap | apply keeps_mv))⟩ | refine ⟨⟨⟨i + 1, rvs, avs, P, mk, ms, Em, iid, iv, is, ap, Zc⟩, km9, N9⟩, (by show n - (i + 1) < n - i; omega), ⟨⟨by show i + 1 ≤ n; omega, hNb, hPok, hinv, hrow, hmok, (by show ms.length ≤ i + 1; omega), (by obtain ⟨Ei, h1, h2⟩ := hirow; exact ⟨Ei, h1, fun x hx => hZs x (h2 x hx)⟩), hiok, hilen⟩, (by have e9 := case_bad hcase9 hbad; rw [e9] at hM9; exact hM9)⟩, hl.addE (t := 17) (hl.addE (t := 6) (hl.addE (t := 8) (hl.addE (t := 1) (hl.addE (t := 5) (hl.addE (t := 7) (hl.addE (t := 15) (hl.addE (t := 16) (hl.nil) rfl (by first | rfl | rfl)) rfl (by first | rfl | rfl)) rfl (by first | rfl | rfl)) rfl (by first | rfl | rfl)) rfl (by first | rfl | rfl)) rfl (by first | rfl | rfl)) rfl (by first | rfl | rfl)) rfl (by first | rfl | rfl), hh.keep (by repeat (first | exact keeps_nil | apply keeps_cons (by repeat (first | exact find_head | apply find_tail)) (by first  | rfl) | exact keeps_self | exact keeps_left | exact keeps_right | exact keeps_swap | apply keeps_mv))⟩ | refine ⟨⟨⟨i + 1, rvs, avs, P, mk, ms, Em, iid, .slice bp is.length bcap, is, ap, Zc⟩, km9, N9⟩, (by show n - (i + 1) < n - i; omega), ⟨⟨by show i + 1 ≤ n; omega, hNb, hPok, hinv, hrow, hmok, (by show ms.length ≤ i + 1; omega), (by obtain ⟨Ei, h1, h2⟩ := hirow; exact ⟨Ei, h1, fun x hx => hZs x (h2 x hx)⟩), hiok, hilen⟩, (by have e9 := case_bad hcase9 hbad; rw [e9] at hM9; exact hM9)⟩, hl.addE (t := 17) (hl.addE (t := 6) (hl.addE (t := 8) (hl.addE (t := 1) (hl.addE (t := 5) (hl.addE (t := 7) (hl.addE (t := 15) (hl.addE (t := 16) (hl.nil) rfl (by first | rfl | rfl)) rfl (by first | rfl | rfl)) rfl (by first | rfl | rfl)) rfl (by first | rfl | rfl)) rfl (by first | rfl | rfl)) rfl (by first | rfl | rfl)) rfl (by first | rfl | rfl)) rfl (by first | rfl | rfl), hh.keep (by repeat (first | exact keeps_nil | apply keeps_cons (by repeat (first | exact find_head | apply find_tail)) (by first  | rfl) | exact keeps_self | exact keeps_left | exact keeps_right | exact keeps_swap | apply keeps_mv))⟩ | refine ⟨⟨⟨i + 1, rvs, avs, P, .slice none 0 0, [], [], iid, iv, is, ap, Zc⟩, km9, N9⟩, (by show n - (i + 1) < n - i; omega), ⟨⟨by show i + 1 ≤ n; omega, hNb, hPok, hinv, Row.nil _ _, (fun c hc => by cases hc), Nat.zero_le _, (by obtain ⟨Ei, h1, h2⟩ := hirow; exact ⟨Ei, h1, fun x hx => hZs x (h2 x hx)⟩), hiok, hilen⟩, (by have e9 := case_bad hcase9 hbad; rw [e9] at hM9; exact hM9)⟩, hl.addE (t := 17) (hl.addE (t := 6) (hl.addE (t := 8) (hl.addE (t := 1) (hl.addE (t := 5) (hl.addE (t := 7) (hl.addE (t := 15) (hl.addE (t := 16) (hl.nil) rfl (by first | rfl | rfl)) rfl (by first | rfl | rfl)) rfl (by first | rfl | rfl)) rfl (by first | rfl | rfl)) rfl (by first | rfl | rfl)) rfl (by first | rfl | rfl)) rfl (by first | rfl | rfl)) rfl (by first | rfl | rfl), hh.keep (by repeat (first | exact keeps_nil | apply keeps_cons (by repeat (first | exact find_head | apply find_tail)) (by first  | rfl) | exact keeps_self | exact keeps_left | exact keeps_right | exact keeps_swap | apply keeps_mv))⟩ | refine ⟨⟨⟨i + 1, rvs, avs, P, rv2, ms ++ [⟨ckd, cdv, cpr, cix, cup, cra, crl, cvia, cpm, cda, cdl, ccl⟩], E2, iid, iv, is, ap, Z⟩, km, NN⟩, (by show n - (i + 1) < n - i; omega), ⟨⟨by show i + 1 ≤ n; omega, hnet, hPok, hinv, (by show Row rv2 (ms ++ [_]).length _ _ _ _; rw [List.length_append, chs_snoc]; exact hR2), (fun c hc => by rcases List.mem_append.1 hc with h | h; exact hmok c h; (rw [List.mem_singleton] at h; subst h; exact hdok.ch)), (by show (ms ++ [_]).length ≤ i + 1; rw [List.length_append]; show ms.length + 1 ≤ i + 1; omega), hirow, hiok, hilen⟩, hMs⟩, hl.addE (t := 17) (hl.addE (t := 6) (hl.addE (t := 8) (hl.addE (t := 1) (hl.addE (t := 5) (hl.addE (t := 7) (hl.addE (t := 15) (hl.addE (t := 16) (hl.nil) rfl (by first | rfl | rfl)) rfl (by first | rfl | rfl)) rfl (by first | rfl | rfl)) rfl (by first | rfl | rfl)) rfl (by first | rfl | rfl)) rfl (by first | rfl | rfl)) rfl (by first | rfl | rfl)) rfl (by first | rfl | rfl), hh.keep (by repeat (first | exact keeps_nil | apply keeps_cons (by repeat (first | exact find_head | apply find_tail)) (by first  | rfl) | exact keeps_self | exact keeps_left | exact keeps_right | exact keeps_swap | apply keeps_mv))⟩ | refine ⟨⟨⟨i + 1, rvs, avs, P, mk, ms, Em, iid, iv, is, ap, Z⟩, km, NN⟩, (by show n - (i + 1) < n - i; omega), ⟨⟨by show i + 1 ≤ n; omega, hnet, hPok, hinv, hrow, hmok, (by show ms.length ≤ i + 1; omega), hirow, hiok, hilen⟩, hMs⟩, hl.addE (t := 17) (hl.addE (t := 6) (hl.addE (t := 8) (hl.addE (t := 1) (hl.addE (t := 5) (hl.addE (t := 7) (hl.addE (t := 15) (hl.addE (t := 16) (hl.nil) rfl (by first | rfl | rfl)) rfl (by first | rfl | rfl)) rfl (by first | rfl | rfl)) rfl (by first | rfl | rfl)) rfl (by first | rfl | rfl)) rfl (by first | rfl | rfl)) rfl (by first | rfl | rfl)) rfl (by first | rfl | rfl), hh.keep (by repeat (first | exact keeps_nil | apply keeps_cons (by repeat (first | exact find_head | apply find_tail)) (by first  | rfl) | exact keeps_self | exact keeps_left | exact keeps_right | exact keeps_swap | apply keeps_mv))⟩
      ·
        try simp only [List.cons_append, List.nil_append, List.append_nil] at hh
        refine wl (wl_val hl rfl trivial (r_move hl rfl) ?_)
        clear hl a; intro a hl
        refine wl (wl_val hl rfl trivial (r_extract hl rfl (by simp only [List.getElem?_toArray, List.getElem?_cons_zero, List.getElem?_cons_succ]; rfl)) ?_)
        clear hl a; intro a hl
        refine wl (wl_val hl rfl trivial (r_extract hl rfl (by simp only [List.getElem?_toArray, List.getElem?_cons_zero, List.getElem?_cons_succ]; rfl)) ?_)
        clear hl a; intro a hl
        refine wl (w_storeA hl hh trivial agg37 rfl rfl (by repeat (first | exact find_head | apply find_tail)) (by first | rfl | (simp; done)) (by first | (simp; done) | (simp; omega)) (by first | rfl | (simp; done) | (simp [hone1, hone2]; done)) (by first | (simp only [setL, List.getElem?_cons_zero, List.getElem?_cons_succ, Value.cells, List.take_zero, List.take_succ_cons, List.take_nil, List.drop_zero, List.drop_succ_cons, List.drop_nil, List.length_cons, List.length_nil, List.cons_append, List.nil_append, List.append_nil, Nat.zero_add, Nat.add_zero, Nat.reduceAdd, Nat.reduceBEq, Nat.reduceEqDiff, Nat.ble, BEq.rfl, Bool.and_true, Bool.and_self, cond_true, beq_self_eq_true]; rfl)) ?_)
        clear hh w; intro w hh
        refine wl (wl_val hl rfl trivial (r_assign hl rfl) ?_)
        clear hl a; intro a hl
        refine w_nil ?_
        have hl2 := hl.add (t := 1) (hl.add (t := 5) (hl.add (t := 6) (hl.add (t := 7) (hl.add (t := 8) (hl.add (t := 11) (hl.add (t := 12) (hl.add (t := 15) (hl.add (t := 16) (hl.add (t := 17) (hl.nil) rfl) rfl) rfl) rfl) rfl) rfl) rfl) rfl) rfl) rfl; clear hl; have hl := hl2; clear hl2
        refine then_normal ?_
        refine c_seq ?_
        refine c_region ?_
        refine wl (wl_val hl rfl trivial (r_move hl rfl) ?_)
        clear hl a; intro a hl
        first | refine wl (wl_val hl rfl trivial (r_neq_ifcN hl rfl ifc39) ?_) | refine wl (wl_val hl rfl trivial (r_neq_ifcS hl rfl ifc39) ?_)
        clear hl a; intro a hl
        refine w_nil ?_
        have hl2 := hl.add (t := 1) (hl.add (t := 5) (hl.add (t := 6) (hl.add (t := 7) (hl.add (t := 8) (hl.add (t := 11) (hl.add (t := 15) (hl.add (t := 16) (hl.add (t := 17) (hl.add (t := 32) (hl.nil) rfl) rfl) rfl) rfl) rfl) rfl) rfl) rfl) rfl) rfl; clear hl; have hl := hl2; clear hl2
        refine then_normal ?_
        refine c_condT hl rfl ?_
        refine wp_exit ?_
        refine blk_exit_ne rfl ?_
        refine then_exit ?_
        refine blk_exit ?_
        refine then_normal ?_
        refine c_region ?_
        first | refine wl (wl_val hl rfl trivial (r_add hl rfl rfl (by simp only [Fits]; omega)) ?_) | refine wl (wl_val hl rfl trivial (r_addW hl rfl rfl) ?_)
        clear hl a; intro a hl
        refine wl (wl_val hl rfl trivial (r_move hl rfl) ?_)
        clear hl a; intro a hl
        refine w_nil ?_
        have hl2 := hl.add (t := 1) (hl.add (t := 5) (hl.add (t := 6) (hl.add (t := 7) (hl.add (t := 8) (hl.add (t := 15) (hl.add (t := 16) (hl.add (t := 17) (hl.nil) rfl) rfl) rfl) rfl) rfl) rfl) rfl) rfl; clear hl; have hl := hl2; clear hl2
        refine then_normal ?_
        first | refine ⟨⟨⟨i + 1, rv', av', P2, mk, ms, Em, bid, .slice up2 us.length uc2, us.reverse, true, (Zc ++ Fu) ++ Fx⟩, km9, N9⟩, (by show n - (i + 1) < n - i; omega), ⟨⟨by show i + 1 ≤ n; omega, hN3, hP3, hInv3, hrow, hmok, (by show ms.length ≤ i + 1; omega), ⟨Fu, by show Row _ us.reverse.length _ _ _ _; rw [List.length_reverse]; exact hrowu, fun x hx => List.mem_append_left _ (List.mem_append_right _ hx)⟩, fun c hc => huok c (List.mem_reverse.1 hc), by show us.reverse.length ≤ 1000000; rw [List.length_reverse]; omega⟩, (by have e9 := case_ok hcase9 hchk hst2; rw [e9] at hM9; exact hM9.mono (fun x hx => by simp [hx]))⟩, hl.addE (t := 17) (hl.addE (t := 6) (hl.addE (t := 8) (hl.addE (t := 1) (hl.addE (t := 5) (hl.addE (t := 7) (hl.addE (t := 15) (hl.addE (t := 16) (hl.nil) rfl (by first | rfl | rfl)) rfl (by first | rfl | rfl)) rfl (by first | rfl | rfl)) rfl (by first | rfl | rfl)) rfl (by first | rfl | rfl)) rfl (by first | rfl | rfl)) rfl (by first | rfl | rfl)) rfl (by first | rfl | rfl), hh.keep (by repeat (first | exact keeps_nil | apply keeps_cons (by repeat (first | exact find_head | apply find_tail)) (by first  | rfl) | exact keeps_self | exact keeps_left | exact keeps_right | exact keeps_swap | apply keeps_mv))⟩ | refine ⟨⟨⟨i + 1, rv', av', P2, .slice none 0 0, [], [], did, .slice up2 us.length uc2, us.reverse, true, Zc ++ (Fu ++ Fx)⟩, km9, N9⟩, (by show n - (i + 1) < n - i; omega), ⟨⟨by show i + 1 ≤ n; omega, (by rw [← List.append_assoc]; exact hN3), hP3, hInv3, Row.nil _ _, (fun c hc => by cases hc), Nat.zero_le _, ⟨Fu, by show Row _ us.reverse.length _ _ _ _; rw [List.length_reverse]; exact hrowu, fun x hx => List.mem_append_right _ (List.mem_append_left _ hx)⟩, fun c hc => huok c (List.mem_reverse.1 hc), by show us.reverse.length ≤ 1000000; rw [List.length_reverse]; omega⟩, (by have e9 := case_ok hcase9 hchk hst2; rw [e9] at hM9; exact hM9.mono (fun x hx => by simp [hx]))⟩, hl.addE (t := 17) (hl.addE (t := 6) (hl.addE (t := 8) (hl.addE (t := 1) (hl.addE (t := 5) (hl.addE (t := 7) (hl.addE (t := 15) (hl.addE (t := 16) (hl.nil) rfl (by first | rfl | rfl)) rfl (by first | rfl | rfl)) rfl (by first | rfl | rfl)) rfl (by first | rfl | rfl)) rfl (by first | rfl | rfl)) rfl (by first | rfl | rfl)) rfl (by first | rfl | rfl)) rfl (by first | rfl | rfl), hh.keep (by repeat (first | exact keeps_nil | apply keeps_cons (by repeat (first | exact find_head | apply find_tail)) (by first  | rfl) | exact keeps_self | exact keeps_left | exact keeps_right | exact keeps_swap | apply keeps_mv))⟩ | refine ⟨⟨⟨i + 1, rv', av', P2, mk, ms, Em, iid, .slice up2 us.length uc2, us.reverse, true, (Zc ++ Fu) ++ Fx⟩, km9, N9⟩, (by show n - (i + 1) < n - i; omega), ⟨⟨by show i + 1 ≤ n; omega, hN3, hP3, hInv3, hrow, hmok, (by show ms.length ≤ i + 1; omega), ⟨Fu, by show Row _ us.reverse.length _ _ _ _; rw [List.length_reverse]; exact hrowu, fun x hx => List.mem_append_left _ (List.mem_append_right _ hx)⟩, fun c hc => huok c (List.mem_reverse.1 hc), by show us.reverse.length ≤ 1000000; rw [List.length_reverse]; omega⟩, (by have e9 := case_ok hcase9 hchk hst2; rw [e9] at hM9; exact hM9.mono (fun x hx => by simp [hx]))⟩, hl.addE (t := 17) (hl.addE (t := 6) (hl.addE (t := 8) (hl.addE (t := 1) (hl.addE (t := 5) (hl.addE (t := 7) (hl.addE (t := 15) (hl.addE (t := 16) (hl.nil) rfl (by first | rfl | rfl)) rfl (by first | rfl | rfl)) rfl (by first | rfl | rfl)) rfl (by first | rfl | rfl)) rfl (by first | rfl | rfl)) rfl (by first | rfl | rfl)) rfl (by first | rfl | rfl)) rfl (by first | rfl | rfl), hh.keep (by repeat (first | exact keeps_nil | apply keeps_cons (by repeat (first | exact find_head | apply find_tail)) (by first  | rfl) | exact keeps_self | exact keeps_left | exact keeps_right | exact keeps_swap | apply keeps_mv))⟩ | refine ⟨⟨⟨i + 1, rvs, avs, P, mk, ms, Em, iid, iv, is, ap, Zc⟩, km9, N9⟩, (by show n - (i + 1) < n - i; omega), ⟨⟨by show i + 1 ≤ n; omega, hNb, hPok, hinv, hrow, hmok, (by show ms.length ≤ i + 1; omega), (by obtain ⟨Ei, h1, h2⟩ := hirow; exact ⟨Ei, h1, fun x hx => hZs x (h2 x hx)⟩), hiok, hilen⟩, (by have e9 := case_bad hcase9 hbad; rw [e9] at hM9; exact hM9)⟩, hl.addE (t := 17) (hl.addE (t := 6) (hl.addE (t := 8) (hl.addE (t := 1) (hl.addE (t := 5) (hl.addE (t := 7) (hl.addE (t := 15) (hl.addE (t := 16) (hl.nil) rfl (by first | rfl | rfl)) rfl (by first | rfl | rfl)) rfl (by first | rfl | rfl)) rfl (by first | rfl | rfl)) rfl (by first | rfl | rfl)) rfl (by first | rfl | rfl)) rfl (by first | rfl | rfl)) rfl (by first | rfl | rfl), hh.keep (by repeat (first | exact keeps_nil | apply keeps_cons (by repeat (first | exact find_head | apply find_tail)) (by first  | rfl) | exact keeps_self | exact keeps_left | exact keeps_right | exact keeps_swap | apply keeps_mv))⟩ | refine ⟨⟨⟨i + 1, rvs, avs, P, mk, ms, Em, iid, .slice bp is.length bcap, is, ap, Zc⟩, km9, N9⟩, (by show n - (i + 1) < n - i; omega), ⟨⟨by show i + 1 ≤ n; omega, hNb, hPok, hinv, hrow, hmok, (by show ms.length ≤ i + 1; omega), (by obtain ⟨Ei, h1, h2⟩ := hirow; exact ⟨Ei, h1, fun x hx => hZs x (h2 x hx)⟩), hiok, hilen⟩, (by have e9 := case_bad hcase9 hbad; rw [e9] at hM9; exact hM9)⟩, hl.addE (t := 17) (hl.addE (t := 6) (hl.addE (t := 8) (hl.addE (t := 1) (hl.addE (t := 5) (hl.addE (t := 7) (hl.addE (t := 15) (hl.addE (t := 16) (hl.nil) rfl (by first | rfl | rfl)) rfl (by first | rfl | rfl)) rfl (by first | rfl | rfl)) rfl (by first | rfl | rfl)) rfl (by first | rfl | rfl)) rfl (by first | rfl | rfl)) rfl (by first | rfl | rfl)) rfl (by first | rfl | rfl), hh.keep (by repeat (first | exact keeps_nil | apply keeps_cons (by repeat (first | exact find_head | apply find_tail)) (by first  | rfl) | exact keeps_self | exact keeps_left | exact keeps_right | exact keeps_swap | apply keeps_mv))⟩ | refine ⟨⟨⟨i + 1, rvs, avs, P, .slice none 0 0, [], [], iid, iv, is, ap, Zc⟩, km9, N9⟩, (by show n - (i + 1) < n - i; omega), ⟨⟨by show i + 1 ≤ n; omega, hNb, hPok, hinv, Row.nil _ _, (fun c hc => by cases hc), Nat.zero_le _, (by obtain ⟨Ei, h1, h2⟩ := hirow; exact ⟨Ei, h1, fun x hx => hZs x (h2 x hx)⟩), hiok, hilen⟩, (by have e9 := case_bad hcase9 hbad; rw [e9] at hM9; exact hM9)⟩, hl.addE (t := 17) (hl.addE (t := 6) (hl.addE (t := 8) (hl.addE (t := 1) (hl.addE (t := 5) (hl.addE (t := 7) (hl.addE (t := 15) (hl.addE (t := 16) (hl.nil) rfl (by first | rfl | rfl)) rfl (by first | rfl | rfl)) rfl (by first | rfl | rfl)) rfl (by first | rfl | rfl)) rfl (by first | rfl | rfl)) rfl (by first | rfl | rfl)) rfl (by first | rfl | rfl)) rfl (by first | rfl | rfl), hh.keep (by repeat (first | exact keeps_nil | apply keeps_cons (by repeat (first | exact find_head | apply find_tail)) (by first  | rfl) | exact keeps_self | exact keeps_left | exact keeps_right | exact keeps_swap | apply keeps_mv))⟩ | refine ⟨⟨⟨i + 1, rvs, avs, P, rv2, ms ++ [⟨ckd, cdv, cpr, cix, cup, cra, crl, cvia, cpm, cda, cdl, ccl⟩], E2, iid, iv, is, ap, Z⟩, km, NN⟩, (by show n - (i + 1) < n - i; omega), ⟨⟨by show i + 1 ≤ n; omega, hnet, hPok, hinv, (by show Row rv2 (ms ++ [_]).length _ _ _ _; rw [List.length_append, chs_snoc]; exact hR2), (fun c hc => by rcases List.mem_append.1 hc with h | h; exact hmok c h; (rw [List.mem_singleton] at h; subst h; exact hdok.ch)), (by show (ms ++ [_]).length ≤ i + 1; rw [List.length_append]; show ms.length + 1 ≤ i + 1; omega), hirow, hiok, hilen⟩, hMs⟩, hl.addE (t := 17) (hl.addE (t := 6) (hl.addE (t := 8) (hl.addE (t := 1) (hl.addE (t := 5) (hl.addE (t := 7) (hl.addE (t := 15) (hl.addE (t := 16) (hl.nil) rfl (by first | rfl | rfl)) rfl (by first | rfl | rfl)) rfl (by first | rfl | rfl)) rfl (by first | rfl | rfl)) rfl (by first | rfl | rfl)) rfl (by first | rfl | rfl)) rfl (by first | rfl | rfl)) rfl (by first | rfl | rfl), hh.keep (by repeat (first | exact keeps_nil | apply keeps_cons (by repeat (first | exact find_head | apply find_tail)) (by first  | rfl) | exact keeps_self | exact keeps_left | exact keeps_right | exact keeps_swap | apply keeps_mv))⟩ | refine ⟨⟨⟨i + 1, rvs, avs, P, mk, ms, Em, iid, iv, is, ap, Z⟩, km, NN⟩, (by show n - (i + 1) < n - i; omega), ⟨⟨by show i + 1 ≤ n; omega, hnet, hPok, hinv, hrow, hmok, (by show ms.length ≤ i + 1; omega), hirow, hiok, hilen⟩, hMs⟩, hl.addE (t := 17) (hl.addE (t := 6) (hl.addE (t := 8) (hl.addE (t := 1) (hl.addE (t := 5) (hl.addE (t := 7) (hl.addE (t := 15) (hl.addE (t := 16) (hl.nil) rfl (by first | rfl | rfl)) rfl (by first | rfl | rfl)) rfl (by first | rfl | rfl)) rfl (by first | rfl | rfl)) rfl (by first | rfl | rfl)) rfl (by first | rfl | rfl)) rfl (by first | rfl | rfl)) rfl (by first | rfl | rfl), hh.keep (by repeat (first | exact keeps_nil | apply keeps_cons (by repeat (first | exact find_head | apply find_tail)) (by first  | rfl) | exact keeps_self | exact keeps_left | exact keeps_right | exact keeps_swap | apply keeps_mv))⟩
    · intro hc1
      try simp only [decide_eq_true_eq, decide_eq_false_iff_not, Bool.not_eq_true', Bool.not_eq_false', Bool.not_eq_true, Bool.not_eq_false, Bool.and_eq_true, Bool.or_eq_true, Bool.and_eq_false_iff, Bool.or_eq_false_iff, Bool.not_not, ne_eq, Int.not_lt, Int.not_le, Decidable.not_not, beq_iff_eq, bne_iff_ne] at hc1
      refine c_seq ?_
      refine c_region ?_
      refine wl (wl_val hl rfl trivial (r_eql hl rfl rfl) ?_)
      clear hl a; intro a hl
      refine wl (wl_val hl rfl trivial (r_assign hl rfl) ?_)
      clear hl a; intro a hl
      refine w_nil ?_
      have hl2 := hl.add (t := 1) (hl.add (t := 5) (hl.add (t := 6) (hl.add (t := 7) (hl.add (t := 8) (hl.add (t := 10) (hl.add (t := 11) (hl.add (t := 15) (hl.add (t := 16) (hl.add (t := 17) (hl.add (t := 22) (hl.add (t := 33) (hl.nil) rfl) rfl) rfl) rfl) rfl) rfl) rfl) rfl) rfl) rfl) rfl) rfl; clear hl; have hl := hl2; clear hl2
      refine then_normal ?_
      refine c_cond hl rfl ?_ ?_
      · intro hc3
        try simp only [decide_eq_true_eq, decide_eq_false_iff_not, Bool.not_eq_true', Bool.not_eq_false', Bool.not_eq_true, Bool.not_eq_false, Bool.and_eq_true, Bool.or_eq_true, Bool.and_eq_false_iff, Bool.or_eq_false_iff, Bool.not_not, ne_eq, Int.not_lt, Int.not_le, Decidable.not_not, beq_iff_eq, bne_iff_ne] at hc3
        refine c_seq ?_
        refine c_region ?_
        refine wl (wl_val hl rfl trivial (r_move hl rfl) ?_)
        clear hl a; intro a hl
        refine wl (wl_val hl rfl trivial (r_field hl rfl fld59_2) ?_)
        clear hl a; intro a hl
        first | refine wl (w_loadA hl hh rfl trivial agg57 rfl (by repeat (first | exact find_head | apply find_tail)) (by first | (simp only [List.getElem?_cons_zero, List.getElem?_cons_succ, Value.cells, List.take_zero, List.take_succ_cons, List.take_nil, List.drop_zero, List.drop_succ_cons, List.drop_nil, List.length_cons, List.length_nil, List.cons_append, List.nil_append, List.append_nil, Nat.zero_add, Nat.add_zero, Nat.reduceAdd, Nat.reduceBEq, Nat.reduceEqDiff, Nat.ble, BEq.rfl, Bool.and_true, Bool.and_self, cond_true, beq_self_eq_true]; rfl)) (by first | rfl | (simp; done)) ?_) | refine wl (w_loadRA hl hh rfl trivial agg57 rfl hm hsbD hqv rfl ?_)
        clear hl a; intro a hl
        refine wl (w_buildSlice hl hh rfl trivial app35 zero57 rfl rfl rfl rfl rfl (by simp only [fillL, arrPl, List.range_succ, List.range_zero, List.map_cons, List.map_nil, List.map_append, List.nil_append, List.replicate_succ, List.replicate_zero, List.flatten_cons, List.flatten_nil, Nat.zero_mul, Nat.mul_one, Nat.one_mul, Nat.reduceMul, setL, List.getElem?_cons_zero, List.getElem?_cons_succ, Value.cells, List.take_zero, List.take_succ_cons, List.take_nil, List.drop_zero, List.drop_succ_cons, List.drop_nil, List.length_cons, List.length_nil, List.cons_append, List.nil_append, List.append_nil, Nat.zero_add, Nat.add_zero, Nat.reduceAdd, Nat.reduceBEq, Nat.reduceEqDiff, Nat.ble, BEq.rfl, Bool.and_true, Bool.and_self, cond_true, beq_self_eq_true]; rfl) ?_)
        clear hl hh a w; intro k38 a w hl hh
        refine wl (w_append (news := [.int .u8 ckd, .int .u8 cdv, .int .u8 cpr, .int .u8 cix, .bool cup, .int .u8 cra, .int .u8 crl, .int .u8 cvia, .bool cpm, .int .u8 cda, .int .u8 cdl, .int .u8 ccl]) hl hh rfl trivial app35 rfl rfl rfl hrow (by repeat (first | exact keeps_left | apply keeps_mv)) (hh.mem _ _ (Find.mem (by repeat (first | exact find_head | apply find_tail)))) rfl rfl rfl (by omega) (by omega) (by omega) (by decide) ?_)
        clear hl hh a w; intro rv2 E2 a w hR2 hl hh
        have hh3 := hh.comm; clear hh; have hh := hh3; clear hh3
        simp only [List.cons_append, List.nil_append] at hh
        refine wl (wl_val hl rfl trivial (r_assign hl rfl) ?_)
        clear hl a; intro a hl
        refine w_nil ?_
        have hl2 := hl.add (t := 1) (hl.add (t := 5) (hl.add (t := 6) (hl.add (t := 7) (hl.add (t := 8) (hl.add (t := 15) (hl.add (t := 16) (hl.add (t := 17) (hl.nil) rfl) rfl) rfl) rfl) rfl) rfl) rfl) rfl; clear hl; have hl := hl2; clear hl2
        refine then_normal ?_
        refine wp_exit ?_
        refine blk_exit_ne rfl ?_
        refine then_exit ?_
        refine blk_exit ?_
        refine then_normal ?_
        refine c_region ?_
        first | refine wl (wl_val hl rfl trivial (r_add hl rfl rfl (by simp only [Fits]; omega)) ?_) | refine wl (wl_val hl rfl trivial (r_addW hl rfl rfl) ?_)
        clear hl a; intro a hl
        refine wl (wl_val hl rfl trivial (r_move hl rfl) ?_)
        clear hl a; intro a hl
        refine w_nil ?_
        have hl2 := hl.add (t := 1) (hl.add (t := 5) (hl.add (t := 6) (hl.add (t := 7) (hl.add (t := 8) (hl.add (t := 15) (hl.add (t := 16) (hl.add (t := 17) (hl.nil) rfl) rfl) rfl) rfl) rfl) rfl) rfl) rfl; clear hl; have hl := hl2; clear hl2
        refine then_normal ?_
        first | refine ⟨⟨⟨i + 1, rv', av', P2, mk, ms, Em, bid, .slice up2 us.length uc2, us.reverse, true, (Zc ++ Fu) ++ Fx⟩, km9, N9⟩, (by show n - (i + 1) < n - i; omega), ⟨⟨by show i + 1 ≤ n; omega, hN3, hP3, hInv3, hrow, hmok, (by show ms.length ≤ i + 1; omega), ⟨Fu, by show Row _ us.reverse.length _ _ _ _; rw [List.length_reverse]; exact hrowu, fun x hx => List.mem_append_left _ (List.mem_append_right _ hx)⟩, fun c hc => huok c (List.mem_reverse.1 hc), by show us.reverse.length ≤ 1000000; rw [List.length_reverse]; omega⟩, (by have e9 := case_ok hcase9 hchk hst2; rw [e9] at hM9; exact hM9.mono (fun x hx => by simp [hx]))⟩, hl.addE (t := 17) (hl.addE (t := 6) (hl.addE (t := 8) (hl.addE (t := 1) (hl.addE (t := 5) (hl.addE (t := 7) (hl.addE (t := 15) (hl.addE (t := 16) (hl.nil) rfl (by first | rfl | rfl)) rfl (by first | rfl | rfl)) rfl (by first | rfl | rfl)) rfl (by first | rfl | rfl)) rfl (by first | rfl | rfl)) rfl (by first | rfl | rfl)) rfl (by first | rfl | rfl)) rfl (by first | rfl | rfl), hh.keep (by repeat (first | exact keeps_nil | apply keeps_cons (by repeat (first | exact find_head | apply find_tail)) (by first  | rfl) | exact keeps_self | exact keeps_left | exact keeps_right | exact keeps_swap | apply keeps_mv))⟩ | refine ⟨⟨⟨i + 1, rv', av', P2, .slice none 0 0, [], [], did, .slice up2 us.length uc2, us.reverse, true, Zc ++ (Fu ++ Fx)⟩, km9, N9⟩, (by show n - (i + 1) < n - i; omega), ⟨⟨by show i + 1 ≤ n; omega, (by rw [← List.append_assoc]; exact hN3), hP3, hInv3, Row.nil _ _, (fun c hc => by cases hc), Nat.zero_le _, ⟨Fu, by show Row _ us.reverse.length _ _ _ _; rw [List.length_reverse]; exact hrowu, fun x hx => List.mem_append_right _ (List.mem_append_left _ hx)⟩, fun c hc => huok c (List.mem_reverse.1 hc), by show us.reverse.length ≤ 1000000; rw [List.length_reverse]; omega⟩, (by have e9 := case_ok hcase9 hchk hst2; rw [e9] at hM9; exact hM9.mono (fun x hx => by simp [hx]))⟩, hl.addE (t := 17) (hl.addE (t := 6) (hl.addE (t := 8) (hl.addE (t := 1) (hl.addE (t := 5) (hl.addE (t := 7) (hl.addE (t := 15) (hl.addE (t := 16) (hl.nil) rfl (by first | rfl | rfl)) rfl (by first | rfl | rfl)) rfl (by first | rfl | rfl)) rfl (by first | rfl | rfl)) rfl (by first | rfl | rfl)) rfl (by first | rfl | rfl)) rfl (by first | rfl | rfl)) rfl (by first | rfl | rfl), hh.keep (by repeat (first | exact keeps_nil | apply keeps_cons (by repeat (first | exact find_head | apply find_tail)) (by first  | rfl) | exact keeps_self | exact keeps_left | exact keeps_right | exact keeps_swap | apply keeps_mv))⟩ | refine ⟨⟨⟨i + 1, rv', av', P2, mk, ms, Em, iid, .slice up2 us.length uc2, us.reverse, true, (Zc ++ Fu) ++ Fx⟩, km9, N9⟩, (by show n - (i + 1) < n - i; omega), ⟨⟨by show i + 1 ≤ n; omega, hN3, hP3, hInv3, hrow, hmok, (by show ms.length ≤ i + 1; omega), ⟨Fu, by show Row _ us.reverse.length _ _ _ _; rw [List.length_reverse]; exact hrowu, fun x hx => List.mem_append_left _ (List.mem_append_right _ hx)⟩, fun c hc => huok c (List.mem_reverse.1 hc), by show us.reverse.length ≤ 1000000; rw [List.length_reverse]; omega⟩, (by have e9 := case_ok hcase9 hchk hst2; rw [e9] at hM9; exact hM9.mono (fun x hx => by simp [hx]))⟩, hl.addE (t := 17) (hl.addE (t := 6) (hl.addE (t := 8) (hl.addE (t := 1) (hl.addE (t := 5) (hl.addE (t := 7) (hl.addE (t := 15) (hl.addE (t := 16) (hl.nil) rfl (by first | rfl | rfl)) rfl (by first | rfl | rfl)) rfl (by first | rfl | rfl)) rfl (by first | rfl | rfl)) rfl (by first | rfl | rfl)) rfl (by first | rfl | rfl)) rfl (by first | rfl | rfl)) rfl (by first | rfl | rfl), hh.keep (by repeat (first | exact keeps_nil | apply keeps_cons (by repeat (first | exact find_head | apply find_tail)) (by first  | rfl) | exact keeps_self | exact keeps_left | exact keeps_right | exact keeps_swap | apply keeps_mv))⟩ | refine ⟨⟨⟨i + 1, rvs, avs, P, mk, ms, Em, iid, iv, is, ap, Zc⟩, km9, N9⟩, (by show n - (i + 1) < n - i; omega), ⟨⟨by show i + 1 ≤ n; omega, hNb, hPok, hinv, hrow, hmok, (by show ms.length ≤ i + 1; omega), (by obtain ⟨Ei, h1, h2⟩ := hirow; exact ⟨Ei, h1, fun x hx => hZs x (h2 x hx)⟩), hiok, hilen⟩, (by have e9 := case_bad hcase9 hbad; rw [e9] at hM9; exact hM9)⟩, hl.addE (t := 17) (hl.addE (t := 6) (hl.addE (t := 8) (hl.addE (t := 1) (hl.addE (t := 5) (hl.addE (t := 7) (hl.addE (t := 15) (hl.addE (t := 16) (hl.nil) rfl (by first | rfl | rfl)) rfl (by first | rfl | rfl)) rfl (by first | rfl | rfl)) rfl (by first | rfl | rfl)) rfl (by first | rfl | rfl)) rfl (by first | rfl | rfl)) rfl (by first | rfl | rfl)) rfl (by first | rfl | rfl), hh.keep (by repeat (first | exact keeps_nil | apply keeps_cons (by repeat (first | exact find_head | apply find_tail)) (by first  | rfl) | exact keeps_self | exact keeps_left | exact keeps_right | exact keeps_swap | apply keeps_mv))⟩ | refine ⟨⟨⟨i + 1, rvs, avs, P, mk, ms, Em, iid, .slice bp is.length bcap, is, ap, Zc⟩, km9, N9⟩, (by show n - (i + 1) < n - i; omega), ⟨⟨by show i + 1 ≤ n; omega, hNb, hPok, hinv, hrow, hmok, (by show ms.length ≤ i + 1; omega), (by obtain ⟨Ei, h1, h2⟩ := hirow; exact ⟨Ei, h1, fun x hx => hZs x (h2 x hx)⟩), hiok, hilen⟩, (by have e9 := case_bad hcase9 hbad; rw [e9] at hM9; exact hM9)⟩, hl.addE (t := 17) (hl.addE (t := 6) (hl.addE (t := 8) (hl.addE (t := 1) (hl.addE (t := 5) (hl.addE (t := 7) (hl.addE (t := 15) (hl.addE (t := 16) (hl.nil) rfl (by first | rfl | rfl)) rfl (by first | rfl | rfl)) rfl (by first | rfl | rfl)) rfl (by first | rfl | rfl)) rfl (by first | rfl | rfl)) rfl (by first | rfl | rfl)) rfl (by first | rfl | rfl)) rfl (by first | rfl | rfl), hh.keep (by repeat (first | exact keeps_nil | apply keeps_cons (by repeat (first | exact find_head | apply find_tail)) (by first  | rfl) | exact keeps_self | exact keeps_left | exact keeps_right | exact keeps_swap | apply keeps_mv))⟩ | refine ⟨⟨⟨i + 1, rvs, avs, P, .slice none 0 0, [], [], iid, iv, is, ap, Zc⟩, km9, N9⟩, (by show n - (i + 1) < n - i; omega), ⟨⟨by show i + 1 ≤ n; omega, hNb, hPok, hinv, Row.nil _ _, (fun c hc => by cases hc), Nat.zero_le _, (by obtain ⟨Ei, h1, h2⟩ := hirow; exact ⟨Ei, h1, fun x hx => hZs x (h2 x hx)⟩), hiok, hilen⟩, (by have e9 := case_bad hcase9 hbad; rw [e9] at hM9; exact hM9)⟩, hl.addE (t := 17) (hl.addE (t := 6) (hl.addE (t := 8) (hl.addE (t := 1) (hl.addE (t := 5) (hl.addE (t := 7) (hl.addE (t := 15) (hl.addE (t := 16) (hl.nil) rfl (by first | rfl | rfl)) rfl (by first | rfl | rfl)) rfl (by first | rfl | rfl)) rfl (by first | rfl | rfl)) rfl (by first | rfl | rfl)) rfl (by first | rfl | rfl)) rfl (by first | rfl | rfl)) rfl (by first | rfl | rfl), hh.keep (by repeat (first | exact keeps_nil | apply keeps_cons (by repeat (first | exact find_head | apply find_tail)) (by first  | rfl) | exact keeps_self | exact keeps_left | exact keeps_right | exact keeps_swap | apply keeps_mv))⟩ | refine ⟨⟨⟨i + 1, rvs, avs, P, rv2, ms ++ [⟨ckd, cdv, cpr, cix, cup, cra, crl, cvia, cpm, cda, cdl, ccl⟩], E2, iid, iv, is, ap, Z⟩, km, NN⟩, (by show n - (i + 1) < n - i; omega), ⟨⟨by show i + 1 ≤ n; omega, hnet, hPok, hinv, (by show Row rv2 (ms ++ [_]).length _ _ _ _; rw [List.length_append, chs_snoc]; exact hR2), (fun c hc => by rcases List.mem_append.1 hc with h | h; exact hmok c h; (rw [List.mem_singleton] at h; subst h; exact hdok.ch)), (by show (ms ++ [_]).length ≤ i + 1; rw [List.length_append]; show ms.length + 1 ≤ i + 1; omega), hirow, hiok, hilen⟩, hMs⟩, hl.addE (t := 17) (hl.addE (t := 6) (hl.addE (t := 8) (hl.addE (t := 1) (hl.addE (t := 5) (hl.addE (t := 7) (hl.addE (t := 15) (hl.addE (t := 16) (hl.nil) rfl (by first | rfl | rfl)) rfl (by first | rfl | rfl)) rfl (by first | rfl | rfl)) rfl (by first | rfl | rfl)) rfl (by first | rfl | rfl)) rfl (by first | rfl | rfl)) rfl (by first | rfl | rfl)) rfl (by first | rfl | rfl), hh.keep (by repeat (first | exact keeps_nil | apply keeps_cons (by repeat (first | exact find_head | apply find_tail)) (by first  | rfl) | exact keeps_self | exact keeps_left | exact keeps_right | exact keeps_swap | apply keeps_mv))⟩ | refine ⟨⟨⟨i + 1, rvs, avs, P, mk, ms, Em, iid, iv, is, ap, Z⟩, km, NN⟩, (by show n - (i + 1) < n - i; omega), ⟨⟨by show i + 1 ≤ n; omega, hnet, hPok, hinv, hrow, hmok, (by show ms.length ≤ i + 1; omega), hirow, hiok, hilen⟩, hMs⟩, hl.addE (t := 17) (hl.addE (t := 6) (hl.addE (t := 8) (hl.addE (t := 1) (hl.addE (t := 5) (hl.addE (t := 7) (hl.addE (t := 15) (hl.addE (t := 16) (hl.nil) rfl (by first | rfl | rfl)) rfl (by first | rfl | rfl)) rfl (by first | rfl | rfl)) rfl (by first | rfl | rfl)) rfl (by first | rfl | rfl)) rfl (by first | rfl | rfl)) rfl (by first | rfl | rfl)) rfl (by first | rfl | rfl), hh.keep (by repeat (first | exact keeps_nil | apply keeps_cons (by repeat (first | exact find_head | apply find_tail)) (by first  | rfl) | exact keeps_self | exact keeps_left | exact keeps_right | exact keeps_swap | apply keeps_mv))⟩
      · intro hc3
        try simp only [decide_eq_true_eq, decide_eq_false_iff_not, Bool.not_eq_true', Bool.not_eq_false', Bool.not_eq_true, Bool.not_eq_false, Bool.and_eq_true, Bool.or_eq_true, Bool.and_eq_false_iff, Bool.or_eq_false_iff, Bool.not_not, ne_eq, Int.not_lt, Int.not_le, Decidable.not_not, beq_iff_eq, bne_iff_ne] at hc3
        refine c_seq ?_
        refine c_region ?_
        refine wl (wl_val hl rfl trivial (r_eql hl rfl rfl) ?_)
        clear hl a; intro a hl
        refine wl (wl_val hl rfl trivial (r_assign hl rfl) ?_)
        clear hl a; intro a hl
        refine w_nil ?_
        have hl2 := hl.add (t := 1) (hl.add (t := 5) (hl.add (t := 6) (hl.add (t := 7) (hl.add (t := 8) (hl.add (t := 10) (hl.add (t := 11) (hl.add (t := 15) (hl.add (t := 16) (hl.add (t := 17) (hl.add (t := 22) (hl.add (t := 40) (hl.nil) rfl) rfl) rfl) rfl) rfl) rfl) rfl) rfl) rfl) rfl) rfl) rfl; clear hl; have hl := hl2; clear hl2
        refine then_normal ?_
        refine c_cond hl rfl ?_ ?_
        · intro hc4
          try simp only [decide_eq_true_eq, decide_eq_false_iff_not, Bool.not_eq_true', Bool.not_eq_false', Bool.not_eq_true, Bool.not_eq_false, Bool.and_eq_true, Bool.or_eq_true, Bool.and_eq_false_iff, Bool.or_eq_false_iff, Bool.not_not, ne_eq, Int.not_lt, Int.not_le, Decidable.not_not, beq_iff_eq, bne_iff_ne] at hc4
          obtain ⟨bp, bcap, hbv⟩ := row_val hrow
          subst hbv
          replace hh := has_swapt (A := [_, _, _, _, _]) hh
          simp only [List.cons_append, List.nil_append] at hh
          obtain ⟨Zb, hZb⟩ : ∃ q, q = Z ++ Em := ⟨_, rfl⟩
          rw [← hZb] at hh
          have hRb := hrow
          have hbok := hmok
          have hblen : ms.length ≤ 1000000 := by omega
          have hEbz : ∀ x, x ∈ Em → x ∈ Zb := fun x hx => by rw [hZb]; exact List.mem_append_right _ hx
          have hZs : ∀ x, x ∈ Z → x ∈ Zb := fun x hx => by rw [hZb]; exact List.mem_append_left _ hx
          have hNb := hnet.mono hZs
          refine c_seq ?_
          refine c_region ?_
          refine wl (wl_val hl rfl trivial (r_field hl rfl fld59_1) ?_)
          clear hl a; intro a hl
          refine wl (w_load hl hh rfl trivial one34 rfl (by repeat (first | exact find_head | apply find_tail)) (by first | rfl) ?_)
          clear hl a; intro a hl
          refine wl (wl_val hl rfl trivial (r_move hl rfl) ?_)
          clear hl a; intro a hl
          refine wl (wl_val hl rfl trivial (r_build hl rfl zero37 bld37 (by simp only [fillL, setL, List.getElem?_cons_zero, List.getElem?_cons_succ, Value.cells, List.take_zero, List.take_succ_cons, List.take_nil, List.drop_zero, List.drop_succ_cons, List.drop_nil, List.length_cons, List.length_nil, List.cons_append, List.nil_append, List.append_nil, Nat.zero_add, Nat.add_zero, Nat.reduceAdd, Nat.reduceBEq, Nat.reduceEqDiff, Nat.ble, BEq.rfl, Bool.and_true, Bool.and_self, cond_true, beq_self_eq_true]; rfl)) ?_)
          clear hl a; intro a hl
          refine wl (w_storeA hl hh trivial agg37 rfl rfl (by repeat (first | exact find_head | apply find_tail)) (by first | rfl | (simp; done)) (by first | (simp; done) | (simp; omega)) (by first | rfl | (simp; done) | (simp [hone1, hone2]; done)) (by first | (simp only [setL, List.getElem?_cons_zero, List.getElem?_cons_succ, Value.cells, List.take_zero, List.take_succ_cons, List.take_nil, List.drop_zero, List.drop_succ_cons, List.drop_nil, List.length_cons, List.length_nil, List.cons_append, List.nil_append, List.append_nil, Nat.zero_add, Nat.add_zero, Nat.reduceAdd, Nat.reduceBEq, Nat.reduceEqDiff, Nat.ble, BEq.rfl, Bool.and_true, Bool.and_self, cond_true, beq_self_eq_true]; rfl)) ?_)
          clear hh w; intro w hh
          refine w_nil ?_
          have hl2 := hl.add (t := 1) (hl.add (t := 5) (hl.add (t := 7) (hl.add (t := 8) (hl.add (t := 11) (hl.add (t := 15) (hl.add (t := 16) (hl.add (t := 17) (hl.nil) rfl) rfl) rfl) rfl) rfl) rfl) rfl) rfl; clear hl; have hl := hl2; clear hl2
          refine then_normal ?_
          refine c_region ?_
          refine wl (wl_val hl rfl trivial (r_assign hl rfl) ?_)
          clear hl a; intro a hl
          refine w_nil ?_
          have hl2 := hl.add (t := 1) (hl.add (t := 5) (hl.add (t := 6) (hl.add (t := 7) (hl.add (t := 8) (hl.add (t := 11) (hl.add (t := 15) (hl.add (t := 16) (hl.add (t := 17) (hl.nil) rfl) rfl) rfl) rfl) rfl) rfl) rfl) rfl) rfl; clear hl; have hl := hl2; clear hl2
          refine blk_normal ?_
          refine then_normal ?_
          refine c_seq ?_
          refine c_seq ?_
          refine c_region ?_
          refine wl (wl_val hl rfl trivial (r_move hl rfl) ?_)
          clear hl a; intro a hl
          first | refine wl (w_loadA hl hh rfl trivial agg33 rfl (by repeat (first | exact find_head | apply find_tail)) (by first | exact whole _ _ | exact ed_take _ _ _ _) (by rw [arrL_length]) ?_) | refine wl (w_loadRA hl hh rfl trivial agg33 rfl hm hsbD hqv rfl ?_)
          clear hl a; intro a hl
          first | refine wl (w_loadA hl hh rfl trivial agg37 rfl (by repeat (first | exact find_head | apply find_tail)) (by first | (simp only [List.getElem?_cons_zero, List.getElem?_cons_succ, Value.cells, List.take_zero, List.take_succ_cons, List.take_nil, List.drop_zero, List.drop_succ_cons, List.drop_nil, List.length_cons, List.length_nil, List.cons_append, List.nil_append, List.append_nil, Nat.zero_add, Nat.add_zero, Nat.reduceAdd, Nat.reduceBEq, Nat.reduceEqDiff, Nat.ble, BEq.rfl, Bool.and_true, Bool.and_self, cond_true, beq_self_eq_true]; rfl)) (by first | rfl | (simp; done)) ?_) | refine wl (w_loadRA hl hh rfl trivial agg37 rfl hm hsbD hqv rfl ?_)
          clear hl a; intro a hl
          refine wl (w_call hl hh rfl trivial rfl cal26 rfl (each_all _ _ _ _ _ hNb hPok _ _ _ _ hRb hEbz hbok hblen km NN (hMs.mono hZs) mc (nd_one (E := Zb) hh (keeps_cons (b := mc) (by repeat (first | exact find_head | apply find_tail)) rfl (by repeat (first | exact keeps_right | exact keeps_left | exact keeps_self | apply keeps_mv))))) (by repeat (first | exact keeps_nil | apply keeps_cons (by repeat (first | exact find_head | apply find_tail)) (by first  | rfl) | exact keeps_self | exact keeps_left | exact keeps_right | exact keeps_swap | apply keeps_mv)) (fun b o m => hh.mem b o (by simp [m])) ?_)
          clear hl hh a w; intro vc Fc a w hR hl hh
          obtain ⟨rfl, km9, N9, P9, Fz9, rfl, hM9, hcase9⟩ := hR
          try simp only [List.cons_append, List.nil_append] at hh
          change CaseE _ _ _ at hcase9
          first | replace hh := has_ea (A := [_, _, _, _]) hh | replace hh := has_ea0 (A := [_, _, _, _]) hh
          simp only [List.cons_append, List.nil_append] at hh
          obtain ⟨Zc, hZc⟩ : ∃ q, q = Zb ++ Fz9 := ⟨_, rfl⟩
          rw [← hZc] at hh hM9
          have hsb : ∀ x, x ∈ Zb → x ∈ Zc := fun x hx => by rw [hZc]; exact List.mem_append_left _ hx
          replace hNb := hNb.mono hsb
          replace hEbz := fun x hx => hsb x (hEbz x hx)
          replace hZs := fun x hx => hsb x (hZs x hx)
          refine wl (wl_val hl rfl trivial (r_not hl rfl) ?_)
          clear hl a; intro a hl
          refine w_nil ?_
          have hl2 := hl.add (t := 1) (hl.add (t := 5) (hl.add (t := 6) (hl.add (t := 7) (hl.add (t := 8) (hl.add (t := 11) (hl.add (t := 15) (hl.add (t := 16) (hl.add (t := 17) (hl.add (t := 55) (hl.nil) rfl) rfl) rfl) rfl) rfl) rfl) rfl) rfl) rfl) rfl; clear hl; have hl := hl2; clear hl2
          refine then_normal ?_
          refine c_cond hl rfl ?_ ?_
          · intro hc7
            try simp only [decide_eq_true_eq, decide_eq_false_iff_not, Bool.not_eq_true', Bool.not_eq_false', Bool.not_eq_true, Bool.not_eq_false, Bool.and_eq_true, Bool.or_eq_true, Bool.and_eq_false_iff, Bool.or_eq_false_iff, Bool.not_not, ne_eq, Int.not_lt, Int.not_le, Decidable.not_not, beq_iff_eq, bne_iff_ne] at hc7
            exfalso; first | contradiction | omega
          · intro hc7
            try simp only [decide_eq_true_eq, decide_eq_false_iff_not, Bool.not_eq_true', Bool.not_eq_false', Bool.not_eq_true, Bool.not_eq_false, Bool.and_eq_true, Bool.or_eq_true, Bool.and_eq_false_iff, Bool.or_eq_false_iff, Bool.not_not, ne_eq, Int.not_lt, Int.not_le, Decidable.not_not, beq_iff_eq, bne_iff_ne] at hc7
            refine wp_skip ?_
            refine then_normal ?_
            refine c_seq ?_
            refine c_region ?_
            first | refine wl (w_loadA hl hh rfl trivial agg33 rfl (by repeat (first | exact find_head | apply find_tail)) (by first | exact whole _ _ | exact ed_take _ _ _ _) (by rw [arrL_length]) ?_) | refine wl (w_loadRA hl hh rfl trivial agg33 rfl hm hsbD hqv rfl ?_)
            clear hl a; intro a hl
            first | refine wl (w_loadA hl hh rfl trivial agg37 rfl (by repeat (first | exact find_head | apply find_tail)) (by first | (simp only [List.getElem?_cons_zero, List.getElem?_cons_succ, Value.cells, List.take_zero, List.take_succ_cons, List.take_nil, List.drop_zero, List.drop_succ_cons, List.drop_nil, List.length_cons, List.length_nil, List.cons_append, List.nil_append, List.append_nil, Nat.zero_add, Nat.add_zero, Nat.reduceAdd, Nat.reduceBEq, Nat.reduceEqDiff, Nat.ble, BEq.rfl, Bool.and_true, Bool.and_self, cond_true, beq_self_eq_true]; rfl)) (by first | rfl | (simp; done)) ?_) | refine wl (w_loadRA hl hh rfl trivial agg37 rfl hm hsbD hqv rfl ?_)
            clear hl a; intro a hl
            refine wl (w_call hl hh rfl trivial rfl cal19 rfl (inverse_spec _ _ _ _ _ hNb hPok _ _ _ _ hRb hEbz hbok hblen) (by repeat (first | exact keeps_nil | apply keeps_cons (by repeat (first | exact find_head | apply find_tail)) (by first  | rfl) | exact keeps_self | exact keeps_left | exact keeps_right | exact keeps_swap | apply keeps_mv)) (fun b o m => hh.mem b o (by simp [m])) ?_)
            clear hl hh a w; intro vc Fc a w hR hl hh
            rcases hR with ⟨P', us, uv, hchk, hst, hul, huok, hrowu, rfl⟩ | ⟨k, code, pos, hbad, rfl, rfl⟩
            ·
              try simp only [List.cons_append, List.nil_append, List.append_nil] at hh
              generalize Fc = Fu at hh hrowu
              first | replace hh := has_push (A := [_, _, _, _, _]) hh | replace hh := has_push0 (A := [_, _, _, _, _]) hh
              simp only [List.cons_append, List.nil_append] at hh
              obtain ⟨up2, uc2, huv⟩ := row_val hrowu
              subst huv
              refine wl (wl_val hl rfl trivial (r_move hl rfl) ?_)
              clear hl a; intro a hl
              refine wl (wl_val hl rfl trivial (r_extract hl rfl (by simp only [List.getElem?_toArray, List.getElem?_cons_zero, List.getElem?_cons_succ]; rfl)) ?_)
              clear hl a; intro a hl
              refine wl (wl_val hl rfl trivial (r_extract hl rfl (by simp only [List.getElem?_toArray, List.getElem?_cons_zero, List.getElem?_cons_succ]; rfl)) ?_)
              clear hl a; intro a hl
              refine wl (w_alloc hl hh rfl trivial zero37 rfl ?_)
              clear hl hh a w; intro k13 a w hl hh
              refine wl (w_storeA hl hh trivial agg37 rfl rfl (by repeat (first | exact find_head | apply find_tail)) (by first | rfl | (simp; done)) (by first | (simp; done) | (simp; omega)) (by first | rfl | (simp; done) | (simp [hone1, hone2]; done)) (by first | (simp only [setL, List.getElem?_cons_zero, List.getElem?_cons_succ, Value.cells, List.take_zero, List.take_succ_cons, List.take_nil, List.drop_zero, List.drop_succ_cons, List.drop_nil, List.length_cons, List.length_nil, List.cons_append, List.nil_append, List.append_nil, Nat.zero_add, Nat.add_zero, Nat.reduceAdd, Nat.reduceBEq, Nat.reduceEqDiff, Nat.ble, BEq.rfl, Bool.and_true, Bool.and_self, cond_true, beq_self_eq_true]; rfl)) ?_)
              clear hh w; intro w hh
              refine wl (wl_val hl rfl trivial (r_assign hl rfl) ?_)
              clear hl a; intro a hl
              refine w_nil ?_
              have hl2 := hl.add (t := 1) (hl.add (t := 5) (hl.add (t := 6) (hl.add (t := 7) (hl.add (t := 8) (hl.add (t := 11) (hl.add (t := 13) (hl.add (t := 14) (hl.add (t := 15) (hl.add (t := 16) (hl.add (t := 17) (hl.nil) rfl) rfl) rfl) rfl) rfl) rfl) rfl) rfl) rfl) rfl) rfl; clear hl; have hl := hl2; clear hl2
              refine then_normal ?_
              refine c_seq ?_
              refine c_region ?_
              refine wl (wl_val hl rfl trivial (r_move hl rfl) ?_)
              clear hl a; intro a hl
              first | refine wl (wl_val hl rfl trivial (r_eql_ifcN hl rfl ifc39) ?_) | refine wl (wl_val hl rfl trivial (r_eql_ifcS hl rfl ifc39) ?_)
              clear hl a; intro a hl
              refine w_nil ?_
              have hl2 := hl.add (t := 1) (hl.add (t := 5) (hl.add (t := 6) (hl.add (t := 7) (hl.add (t := 8) (hl.add (t := 11) (hl.add (t := 13) (hl.add (t := 15) (hl.add (t := 16) (hl.add (t := 17) (hl.add (t := 63) (hl.nil) rfl) rfl) rfl) rfl) rfl) rfl) rfl) rfl) rfl) rfl) rfl; clear hl; have hl := hl2; clear hl2
              refine then_normal ?_
              refine c_condT hl rfl ?_
              refine c_seq ?_
              refine c_region ?_
              first | refine wl (w_loadA hl hh rfl trivial agg33 rfl (by repeat (first | exact find_head | apply find_tail)) (by first | exact whole _ _ | exact ed_take _ _ _ _) (by rw [arrL_length]) ?_) | refine wl (w_loadRA hl hh rfl trivial agg33 rfl hm hsbD hqv rfl ?_)
              clear hl a; intro a hl
              first | refine wl (w_loadA hl hh rfl trivial agg37 rfl (by repeat (first | exact find_head | apply find_tail)) (by first | (simp only [List.getElem?_cons_zero, List.getElem?_cons_succ, Value.cells, List.take_zero, List.take_succ_cons, List.take_nil, List.drop_zero, List.drop_succ_cons, List.drop_nil, List.length_cons, List.length_nil, List.cons_append, List.nil_append, List.append_nil, Nat.zero_add, Nat.add_zero, Nat.reduceAdd, Nat.reduceBEq, Nat.reduceEqDiff, Nat.ble, BEq.rfl, Bool.and_true, Bool.and_self, cond_true, beq_self_eq_true]; rfl)) (by first | rfl | (simp; done)) ?_) | refine wl (w_loadRA hl hh rfl trivial agg37 rfl hm hsbD hqv rfl ?_)
              clear hl a; intro a hl
              refine wl (w_call hl hh rfl trivial rfl cal18 rfl (apply_spec _ _ _ _ _ hNb hPok _ _ _ _ hRb hEbz hbok hblen) (by repeat (first | exact keeps_nil | apply keeps_cons (by repeat (first | exact find_head | apply find_tail)) (by first  | rfl) | exact keeps_self | exact keeps_left | exact keeps_right | exact keeps_swap | apply keeps_mv)) (fun b o m => hh.mem b o (by simp [m])) ?_)
              clear hl hh a w; intro vc Fc a w hR hl hh
              rcases hR with ⟨P2, us2, rv', av', _, hst2, hP3, hN3, rfl⟩ | ⟨k, code, pos, hbad, rfl, rfl⟩
              ·
                try simp only [List.cons_append, List.nil_append, List.append_nil] at hh
                have hPe := steps_fun hst2 hst
                subst hPe
                generalize Fc = Fx at hh hN3
                first | replace hh := has_push (A := [_, _, _, _, _, _]) hh | replace hh := has_push0 (A := [_, _, _, _, _, _]) hh
                simp only [List.cons_append, List.nil_append] at hh
                have honeN := hN3.one
                replace hN3 : NetR rv' av' P2 ((Zc ++ Fu) ++ Fx) := hN3.mono (fun x hx => by simp only [List.mem_append] at hx ⊢; rcases hx with h | h; exact .inl (.inl h); exact .inr h)
                have hInv3 : True := trivial
                refine wl (wl_val hl rfl trivial (r_move hl rfl) ?_)
                clear hl a; intro a hl
                refine wl (wl_val hl rfl trivial (r_extract hl rfl (by simp only [List.getElem?_toArray, List.getElem?_cons_zero, List.getElem?_cons_succ]; rfl)) ?_)
                clear hl a; intro a hl
                refine wl (wl_val hl rfl trivial (r_extract hl rfl (by simp only [List.getElem?_toArray, List.getElem?_cons_zero, List.getElem?_cons_succ]; rfl)) ?_)
                clear hl a; intro a hl
                refine wl (w_storeA hl hh trivial agg33 rfl rfl (by repeat (first | exact find_head | apply find_tail)) (by rw [arrL_length]) (by rw [arrL_length]; omega) (by exact nv_one honeN) (by exact setw _ _ _) ?_)
                clear hh w; intro w hh
                refine w_nil ?_
                have hl2 := hl.add (t := 1) (hl.add (t := 5) (hl.add (t := 6) (hl.add (t := 7) (hl.add (t := 13) (hl.add (t := 15) (hl.add (t := 16) (hl.add (t := 17) (hl.nil) rfl) rfl) rfl) rfl) rfl) rfl) rfl) rfl; clear hl; have hl := hl2; clear hl2
                refine then_normal ?_
                refine c_region ?_
                first | refine wl (w_loadA hl hh rfl trivial agg37 rfl (by repeat (first | exact find_head | apply find_tail)) (by first | (simp only [List.getElem?_cons_zero, List.getElem?_cons_succ, Value.cells, List.take_zero, List.take_succ_cons, List.take_nil, List.drop_zero, List.drop_succ_cons, List.drop_nil, List.length_cons, List.length_nil, List.cons_append, List.nil_append, List.append_nil, Nat.zero_add, Nat.add_zero, Nat.reduceAdd, Nat.reduceBEq, Nat.reduceEqDiff, Nat.ble, BEq.rfl, Bool.and_true, Bool.and_self, cond_true, beq_self_eq_true]; rfl)) (by first | rfl | (simp; done)) ?_) | refine wl (w_loadRA hl hh rfl trivial agg37 rfl hm hsbD hqv rfl ?_)
                clear hl a; intro a hl
                refine wl (w_storeA hl hh trivial agg37 rfl rfl (by repeat (first | exact find_head | apply find_tail)) (by first | rfl | (simp; done)) (by first | (simp; done) | (simp; omega)) (by first | rfl | (simp; done) | (simp [hone1, hone2]; done)) (by first | (simp only [setL, List.getElem?_cons_zero, List.getElem?_cons_succ, Value.cells, List.take_zero, List.take_succ_cons, List.take_nil, List.drop_zero, List.drop_succ_cons, List.drop_nil, List.length_cons, List.length_nil, List.cons_append, List.nil_append, List.append_nil, Nat.zero_add, Nat.add_zero, Nat.reduceAdd, Nat.reduceBEq, Nat.reduceEqDiff, Nat.ble, BEq.rfl, Bool.and_true, Bool.and_self, cond_true, beq_self_eq_true]; rfl)) ?_)
                clear hh w; intro w hh
                refine wl (wl_val hl rfl trivial (r_assign hl rfl) ?_)
                clear hl a; intro a hl
                refine w_nil ?_
                have hl2 := hl.add (t := 1) (hl.add (t := 5) (hl.add (t := 6) (hl.add (t := 7) (hl.add (t := 8) (hl.add (t := 15) (hl.add (t := 16) (hl.add (t := 17) (hl.nil) rfl) rfl) rfl) rfl) rfl) rfl) rfl) rfl; clear hl; have hl := hl2; clear hl2
                refine blk_normal ?_
                refine then_normal ?_
                refine c_region ?_
                first | refine wl (wl_val hl rfl trivial (r_add hl rfl rfl (by simp only [Fits]; omega)) ?_) | refine wl (wl_val hl rfl trivial (r_addW hl rfl rfl) ?_)
                clear hl a; intro a hl
                refine wl (wl_val hl rfl trivial (r_move hl rfl) ?_)
                clear hl a; intro a hl
                refine w_nil ?_
                have hl2 := hl.add (t := 1) (hl.add (t := 5) (hl.add (t := 6) (hl.add (t := 7) (hl.add (t := 8) (hl.add (t := 15) (hl.add (t := 16) (hl.add (t := 17) (hl.nil) rfl) rfl) rfl) rfl) rfl) rfl) rfl) rfl; clear hl; have hl := hl2; clear hl2
                refine then_normal ?_
                first | refine ⟨⟨⟨i + 1, rv', av', P2, mk, ms, Em, bid, .slice up2 us.length uc2, us.reverse, true, (Zc ++ Fu) ++ Fx⟩, km9, N9⟩, (by show n - (i + 1) < n - i; omega), ⟨⟨by show i + 1 ≤ n; omega, hN3, hP3, hInv3, hrow, hmok, (by show ms.length ≤ i + 1; omega), ⟨Fu, by show Row _ us.reverse.length _ _ _ _; rw [List.length_reverse]; exact hrowu, fun x hx => List.mem_append_left _ (List.mem_append_right _ hx)⟩, fun c hc => huok c (List.mem_reverse.1 hc), by show us.reverse.length ≤ 1000000; rw [List.length_reverse]; omega⟩, (by have e9 := case_ok hcase9 hchk hst2; rw [e9] at hM9; exact hM9.mono (fun x hx => by simp [hx]))⟩, hl.addE (t := 17) (hl.addE (t := 6) (hl.addE (t := 8) (hl.addE (t := 1) (hl.addE (t := 5) (hl.addE (t := 7) (hl.addE (t := 15) (hl.addE (t := 16) (hl.nil) rfl (by first | rfl | rfl)) rfl (by first | rfl | rfl)) rfl (by first | rfl | rfl)) rfl (by first | rfl | rfl)) rfl (by first | rfl | rfl)) rfl (by first | rfl | rfl)) rfl (by first | rfl | rfl)) rfl (by first | rfl | rfl), hh.keep (by repeat (first | exact keeps_nil | apply keeps_cons (by repeat (first | exact find_head | apply find_tail)) (by first  | rfl) | exact keeps_self | exact keeps_left | exact keeps_right | exact keeps_swap | apply keeps_mv))⟩ | refine ⟨⟨⟨i + 1, rv', av', P2, .slice none 0 0, [], [], did, .slice up2 us.length uc2, us.reverse, true, Zc ++ (Fu ++ Fx)⟩, km9, N9⟩, (by show n - (i + 1) < n - i; omega), ⟨⟨by show i + 1 ≤ n; omega, (by rw [← List.append_assoc]; exact hN3), hP3, hInv3, Row.nil _ _, (fun c hc => by cases hc), Nat.zero_le _, ⟨Fu, by show Row _ us.reverse.length _ _ _ _; rw [List.length_reverse]; exact hrowu, fun x hx => List.mem_append_right _ (List.mem_append_left _ hx)⟩, fun c hc => huok c (List.mem_reverse.1 hc), by show us.reverse.length ≤ 1000000; rw [List.length_reverse]; omega⟩, (by have e9 := case_ok hcase9 hchk hst2; rw [e9] at hM9; exact hM9.mono (fun x hx => by simp [hx]))⟩, hl.addE (t := 17) (hl.addE (t := 6) (hl.addE (t := 8) (hl.addE (t := 1) (hl.addE (t := 5) (hl.addE (t := 7) (hl.addE (t := 15) (hl.addE (t := 16) (hl.nil) rfl (by first | rfl | rfl)) rfl (by first | rfl | rfl)) rfl (by first | rfl | rfl)) rfl (by first | rfl | rfl)) rfl (by first | rfl | rfl)) rfl (by first | rfl | rfl)) rfl (by first | rfl | rfl)) rfl (by first | rfl | rfl), hh.keep (by repeat (first | exact keeps_nil | apply keeps_cons (by repeat (first | exact find_head | apply find_tail)) (by first  | rfl) | exact keeps_self | exact keeps_left | exact keeps_right | exact keeps_swap | apply keeps_mv))⟩ | refine ⟨⟨⟨i + 1, rv', av', P2, mk, ms, Em, iid, .slice up2 us.length uc2, us.reverse, true, (Zc ++ Fu) ++ Fx⟩, km9, N9⟩, (by show n - (i + 1) < n - i; omega), ⟨⟨by show i + 1 ≤ n; omega, hN3, hP3, hInv3, hrow, hmok, (by show ms.length ≤ i + 1; omega), ⟨Fu, by show Row _ us.reverse.length _ _ _ _; rw [List.length_reverse]; exact hrowu, fun x hx => List.mem_append_left _ (List.mem_append_right _ hx)⟩, fun c hc => huok c (List.mem_reverse.1 hc), by show us.reverse.length ≤ 1000000; rw [List.length_reverse]; omega⟩, (by have e9 := case_ok hcase9 hchk hst2; rw [e9] at hM9; exact hM9.mono (fun x hx => by simp [hx]))⟩, hl.addE (t := 17) (hl.addE (t := 6) (hl.addE (t := 8) (hl.addE (t := 1) (hl.addE (t := 5) (hl.addE (t := 7) (hl.addE (t := 15) (hl.addE (t := 16) (hl.nil) rfl (by first | rfl | rfl)) rfl (by first | rfl | rfl)) rfl (by first | rfl | rfl)) rfl (by first | rfl | rfl)) rfl (by first | rfl | rfl)) rfl (by first | rfl | rfl)) rfl (by first | rfl | rfl)) rfl (by first | rfl | rfl), hh.keep (by repeat (first | exact keeps_nil | apply keeps_cons (by repeat (first | exact find_head | apply find_tail)) (by first  | rfl) | exact keeps_self | exact keeps_left | exact keeps_right | exact keeps_swap | apply keeps_mv))⟩ | refine ⟨⟨⟨i + 1, rvs, avs, P, mk, ms, Em, iid, iv, is, ap, Zc⟩, km9, N9⟩, (by show n - (i + 1) < n - i; omega), ⟨⟨by show i + 1 ≤ n; omega, hNb, hPok, hinv, hrow, hmok, (by show ms.length ≤ i + 1; omega), (by obtain ⟨Ei, h1, h2⟩ := hirow; exact ⟨Ei, h1, fun x hx => hZs x (h2 x hx)⟩), hiok, hilen⟩, (by have e9 := case_bad hcase9 hbad; rw [e9] at hM9; exact hM9)⟩, hl.addE (t := 17) (hl.addE (t := 6) (hl.addE (t := 8) (hl.addE (t := 1) (hl.addE (t := 5) (hl.addE (t := 7) (hl.addE (t := 15) (hl.addE (t := 16) (hl.nil) rfl (by first | rfl | rfl)) rfl (by first | rfl | rfl)) rfl (by first | rfl | rfl)) rfl (by first | rfl | rfl)) rfl (by first | rfl | rfl)) rfl (by first | rfl | rfl)) rfl (by first | rfl | rfl)) rfl (by first | rfl | rfl), hh.keep (by repeat (first | exact keeps_nil | apply keeps_cons (by repeat (first | exact find_head | apply find_tail)) (by first  | rfl) | exact keeps_self | exact keeps_left | exact keeps_right | exact keeps_swap | apply keeps_mv))⟩ | refine ⟨⟨⟨i + 1, rvs, avs, P, mk, ms, Em, iid, .slice bp is.length bcap, is, ap, Zc⟩, km9, N9⟩, (by show n - (i + 1) < n - i; omega), ⟨⟨by show i + 1 ≤ n; omega, hNb, hPok, hinv, hrow, hmok, (by show ms.length ≤ i + 1; omega), (by obtain ⟨Ei, h1, h2⟩ := hirow; exact ⟨Ei, h1, fun x hx => hZs x (h2 x hx)⟩), hiok, hilen⟩, (by have e9 := case_bad hcase9 hbad; rw [e9] at hM9; exact hM9)⟩, hl.addE (t := 17) (hl.addE (t := 6) (hl.addE (t := 8) (hl.addE (t := 1) (hl.addE (t := 5) (hl.addE (t := 7) (hl.addE (t := 15) (hl.addE (t := 16) (hl.nil) rfl (by first | rfl | rfl)) rfl (by first | rfl | rfl)) rfl (by first | rfl | rfl)) rfl (by first | rfl | rfl)) rfl (by first | rfl | rfl)) rfl (by first | rfl | rfl)) rfl (by first | rfl | rfl)) rfl (by first | rfl | rfl), hh.keep (by repeat (first | exact keeps_nil | apply keeps_cons (by repeat (first | exact find_head | apply find_tail)) (by first  | rfl) | exact keeps_self | exact keeps_left | exact keeps_right | exact keeps_swap | apply keeps_mv))⟩ | refine ⟨⟨⟨i + 1, rvs, avs, P, .slice none 0 0, [], [], iid, iv, is, ap, Zc⟩, km9, N9⟩, (by show n - (i + 1) < n - i; omega), ⟨⟨by show i + 1 ≤ n; omega, hNb, hPok, hinv, Row.nil _ _, (fun c hc => by cases hc), Nat.zero_le _, (by obtain ⟨Ei, h1, h2⟩ := hirow; exact ⟨Ei, h1, fun x hx => hZs x (h2 x hx)⟩), hiok, hilen⟩, (by have e9 := case_bad hcase9 hbad; rw [e9] at hM9; exact hM9)⟩, hl.addE (t := 17) (hl.addE (t := 6) (hl.addE (t := 8) (hl.addE (t := 1) (hl.addE (t := 5) (hl.addE (t := 7) (hl.addE (t := 15) (hl.addE (t := 16) (hl.nil) rfl (by first | rfl | rfl)) rfl (by first | rfl | rfl)) rfl (by first | rfl | rfl)) rfl (by first | rfl | rfl)) rfl (by first | rfl | rfl)) rfl (by first | rfl | rfl)) rfl (by first | rfl | rfl)) rfl (by first | rfl | rfl), hh.keep (by repeat (first | exact keeps_nil | apply keeps_cons (by repeat (first | exact find_head | apply find_tail)) (by first  | rfl) | exact keeps_self | exact keeps_left | exact keeps_right | exact keeps_swap | apply keeps_mv))⟩ | refine ⟨⟨⟨i + 1, rvs, avs, P, rv2, ms ++ [⟨ckd, cdv, cpr, cix, cup, cra, crl, cvia, cpm, cda, cdl, ccl⟩], E2, iid, iv, is, ap, Z⟩, km, NN⟩, (by show n - (i + 1) < n - i; omega), ⟨⟨by show i + 1 ≤ n; omega, hnet, hPok, hinv, (by show Row rv2 (ms ++ [_]).length _ _ _ _; rw [List.length_append, chs_snoc]; exact hR2), (fun c hc => by rcases List.mem_append.1 hc with h | h; exact hmok c h; (rw [List.mem_singleton] at h; subst h; exact hdok.ch)), (by show (ms ++ [_]).length ≤ i + 1; rw [List.length_append]; show ms.length + 1 ≤ i + 1; omega), hirow, hiok, hilen⟩, hMs⟩, hl.addE (t := 17) (hl.addE (t := 6) (hl.addE (t := 8) (hl.addE (t := 1) (hl.addE (t := 5) (hl.addE (t := 7) (hl.addE (t := 15) (hl.addE (t := 16) (hl.nil) rfl (by first | rfl | rfl)) rfl (by first | rfl | rfl)) rfl (by first | rfl | rfl)) rfl (by first | rfl | rfl)) rfl (by first | rfl | rfl)) rfl (by first | rfl | rfl)) rfl (by first | rfl | rfl)) rfl (by first | rfl | rfl), hh.keep (by repeat (first | exact keeps_nil | apply keeps_cons (by repeat (first | exact find_head | apply find_tail)) (by first  | rfl) | exact keeps_self | exact keeps_left | exact keeps_right | exact keeps_swap | apply keeps_mv))⟩ | refine ⟨⟨⟨i + 1, rvs, avs, P, mk, ms, Em, iid, iv, is, ap, Z⟩, km, NN⟩, (by show n - (i + 1) < n - i; omega), ⟨⟨by show i + 1 ≤ n; omega, hnet, hPok, hinv, hrow, hmok, (by show ms.length ≤ i + 1; omega), hirow, hiok, hilen⟩, hMs⟩, hl.addE (t := 17) (hl.addE (t := 6) (hl.addE (t := 8) (hl.addE (t := 1) (hl.addE (t := 5) (hl.addE (t := 7) (hl.addE (t := 15) (hl.addE (t := 16) (hl.nil) rfl (by first | rfl | rfl)) rfl (by first | rfl | rfl)) rfl (by first | rfl | rfl)) rfl (by first | rfl | rfl)) rfl (by first | rfl | rfl)) rfl (by first | rfl | rfl)) rfl (by first | rfl | rfl)) rfl (by first | rfl | rfl), hh.keep (by repeat (first | exact keeps_nil | apply keeps_cons (by repeat (first | exact find_head | apply find_tail)) (by first  | rfl) | exact keeps_self | exact keeps_left | exact keeps_right | exact keeps_swap | apply keeps_mv))⟩
              ·
                try simp only [List.cons_append, List.nil_append, List.append_nil] at hh
                exact (ok_not_bad hchk hst hbad).elim
            ·
              try simp only [List.cons_append, List.nil_append, List.append_nil] at hh
              refine wl (wl_val hl rfl trivial (r_move hl rfl) ?_)
              clear hl a; intro a hl
              refine wl (wl_val hl rfl trivial (r_extract hl rfl (by simp only [List.getElem?_toArray, List.getElem?_cons_zero, List.getElem?_cons_succ]; rfl)) ?_)
              clear hl a; intro a hl
              refine wl (wl_val hl rfl trivial (r_extract hl rfl (by simp only [List.getElem?_toArray, List.getElem?_cons_zero, List.getElem?_cons_succ]; rfl)) ?_)
              clear hl a; intro a hl
              refine wl (w_alloc hl hh rfl trivial zero37 rfl ?_)
              clear hl hh a w; intro k13 a w hl hh
              refine wl (w_storeA hl hh trivial agg37 rfl rfl (by repeat (first | exact find_head | apply find_tail)) (by first | rfl | (simp; done)) (by first | (simp; done) | (simp; omega)) (by first | rfl | (simp; done) | (simp [hone1, hone2]; done)) (by first | (simp only [setL, List.getElem?_cons_zero, List.getElem?_cons_succ, Value.cells, List.take_zero, List.take_succ_cons, List.take_nil, List.drop_zero, List.drop_succ_cons, List.drop_nil, List.length_cons, List.length_nil, List.cons_append, List.nil_append, List.append_nil, Nat.zero_add, Nat.add_zero, Nat.reduceAdd, Nat.reduceBEq, Nat.reduceEqDiff, Nat.ble, BEq.rfl, Bool.and_true, Bool.and_self, cond_true, beq_self_eq_true]; rfl)) ?_)
              clear hh w; intro w hh
              refine wl (wl_val hl rfl trivial (r_assign hl rfl) ?_)
              clear hl a; intro a hl
              refine w_nil ?_
              have hl2 := hl.add (t := 1) (hl.add (t := 5) (hl.add (t := 6) (hl.add (t := 7) (hl.add (t := 8) (hl.add (t := 11) (hl.add (t := 13) (hl.add (t := 14) (hl.add (t := 15) (hl.add (t := 16) (hl.add (t := 17) (hl.nil) rfl) rfl) rfl) rfl) rfl) rfl) rfl) rfl) rfl) rfl) rfl; clear hl; have hl := hl2; clear hl2
              refine then_normal ?_
              refine c_seq ?_
              refine c_region ?_
              refine wl (wl_val hl rfl trivial (r_move hl rfl) ?_)
              clear hl a; intro a hl
              first | refine wl (wl_val hl rfl trivial (r_eql_ifcN hl rfl ifc39) ?_) | refine wl (wl_val hl rfl trivial (r_eql_ifcS hl rfl ifc39) ?_)
              clear hl a; intro a hl
              refine w_nil ?_
              have hl2 := hl.add (t := 1) (hl.add (t := 5) (hl.add (t := 6) (hl.add (t := 7) (hl.add (t := 8) (hl.add (t := 11) (hl.add (t := 13) (hl.add (t := 15) (hl.add (t := 16) (hl.add (t := 17) (hl.add (t := 63) (hl.nil) rfl) rfl) rfl) rfl) rfl) rfl) rfl) rfl) rfl) rfl) rfl; clear hl; have hl := hl2; clear hl2
              refine then_normal ?_
              refine c_condF hl rfl ?_
              refine wp_skip ?_
              refine blk_normal ?_
              refine then_normal ?_
              refine c_region ?_
              first | refine wl (wl_val hl rfl trivial (r_add hl rfl rfl (by simp only [Fits]; omega)) ?_) | refine wl (wl_val hl rfl trivial (r_addW hl rfl rfl) ?_)
              clear hl a; intro a hl
              refine wl (wl_val hl rfl trivial (r_move hl rfl) ?_)
              clear hl a; intro a hl
              refine w_nil ?_
              have hl2 := hl.add (t := 1) (hl.add (t := 5) (hl.add (t := 6) (hl.add (t := 7) (hl.add (t := 8) (hl.add (t := 15) (hl.add (t := 16) (hl.add (t := 17) (hl.nil) rfl) rfl) rfl) rfl) rfl) rfl) rfl) rfl; clear hl; have hl := hl2; clear hl2
              refine then_normal ?_
              first | refine ⟨⟨⟨i + 1, rv', av', P2, mk, ms, Em, bid, .slice up2 us.length uc2, us.reverse, true, (Zc ++ Fu) ++ Fx⟩, km9, N9⟩, (by show n - (i + 1) < n - i; omega), ⟨⟨by show i + 1 ≤ n; omega, hN3, hP3, hInv3, hrow, hmok, (by show ms.length ≤ i + 1; omega), ⟨Fu, by show Row _ us.reverse.length _ _ _ _; rw [List.length_reverse]; exact hrowu, fun x hx => List.mem_append_left _ (List.mem_append_right _ hx)⟩, fun c hc => huok c (List.mem_reverse.1 hc), by show us.reverse.length ≤ 1000000; rw [List.length_reverse]; omega⟩, (by have e9 := case_ok hcase9 hchk hst2; rw [e9] at hM9; exact hM9.mono (fun x hx => by simp [hx]))⟩, hl.addE (t := 17) (hl.addE (t := 6) (hl.addE (t := 8) (hl.addE (t := 1) (hl.addE (t := 5) (hl.addE (t := 7) (hl.addE (t := 15) (hl.addE (t := 16) (hl.nil) rfl (by first | rfl | rfl)) rfl (by first | rfl | rfl)) rfl (by first | rfl | rfl)) rfl (by first | rfl | rfl)) rfl (by first | rfl | rfl)) rfl (by first | rfl | rfl)) rfl (by first | rfl | rfl)) rfl (by first | rfl | rfl), hh.keep (by repeat (first | exact keeps_nil | apply keeps_cons (by repeat (first | exact find_head | apply find_tail)) (by first  | rfl) | exact keeps_self | exact keeps_left | exact keeps_right | exact keeps_swap | apply keeps_mv))⟩ | refine ⟨⟨⟨i + 1, rv', av', P2, .slice none 0 0, [], [], did, .slice up2 us.length uc2, us.reverse, true, Zc ++ (Fu ++ Fx)⟩, km9, N9⟩, (by show n - (i + 1) < n - i; omega), ⟨⟨by show i + 1 ≤ n; omega, (by rw [← List.append_assoc]; exact hN3), hP3, hInv3, Row.nil _ _, (fun c hc => by cases hc), Nat.zero_le _, ⟨Fu, by show Row _ us.reverse.length _ _ _ _; rw [List.length_reverse]; exact hrowu, fun x hx => List.mem_append_right _ (List.mem_append_left _ hx)⟩, fun c hc => huok c (List.mem_reverse.1 hc), by show us.reverse.length ≤ 1000000; rw [List.length_reverse]; omega⟩, (by have e9 := case_ok hcase9 hchk hst2; rw [e9] at hM9; exact hM9.mono (fun x hx => by simp [hx]))⟩, hl.addE (t := 17) (hl.addE (t := 6) (hl.addE (t := 8) (hl.addE (t := 1) (hl.addE (t := 5) (hl.addE (t := 7) (hl.addE (t := 15) (hl.addE (t := 16) (hl.nil) rfl (by first | rfl | rfl)) rfl (by first | rfl | rfl)) rfl (by first | rfl | rfl)) rfl (by first | rfl | rfl)) rfl (by first | rfl | rfl)) rfl (by first | rfl | rfl)) rfl (by first | rfl | rfl)) rfl (by first | rfl | rfl), hh.keep (by repeat (first | exact keeps_nil | apply keeps_cons (by repeat (first | exact find_head | apply find_tail)) (by first  | rfl) | exact keeps_self | exact keeps_left | exact keeps_right | exact keeps_swap | apply keeps_mv))⟩ | refine ⟨⟨⟨i + 1, rv', av', P2, mk, ms, Em, iid, .slice up2 us.length uc2, us.reverse, true, (Zc ++ Fu) ++ Fx⟩, km9, N9⟩, (by show n - (i + 1) < n - i; omega), ⟨⟨by show i + 1 ≤ n; omega, hN3, hP3, hInv3, hrow, hmok, (by show ms.length ≤ i + 1; omega), ⟨Fu, by show Row _ us.reverse.length _ _ _ _; rw [List.length_reverse]; exact hrowu, fun x hx => List.mem_append_left _ (List.mem_append_right _ hx)⟩, fun c hc => huok c (List.mem_reverse.1 hc), by show us.reverse.length ≤ 1000000; rw [List.length_reverse]; omega⟩, (by have e9 := case_ok hcase9 hchk hst2; rw [e9] at hM9; exact hM9.mono (fun x hx => by simp [hx]))⟩, hl.addE (t := 17) (hl.addE (t := 6) (hl.addE (t := 8) (hl.addE (t := 1) (hl.addE (t := 5) (hl.addE (t := 7) (hl.addE (t := 15) (hl.addE (t := 16) (hl.nil) rfl (by first | rfl | rfl)) rfl (by first | rfl | rfl)) rfl (by first | rfl | rfl)) rfl (by first | rfl | rfl)) rfl (by first | rfl | rfl)) rfl (by first | rfl | rfl)) rfl (by first | rfl | rfl)) rfl (by first | rfl | rfl), hh.keep (by repeat (first | exact keeps_nil | apply keeps_cons (by repeat (first | exact find_head | apply find_tail)) (by first  | rfl) | exact keeps_self | exact keeps_left | exact keeps_right | exact keeps_swap | apply keeps_mv))⟩ | refine ⟨⟨⟨i + 1, rvs, avs, P, mk, ms, Em, iid, iv, is, ap, Zc⟩, km9, N9⟩, (by show n - (i + 1) < n - i; omega), ⟨⟨by show i + 1 ≤ n; omega, hNb, hPok, hinv, hrow, hmok, (by show ms.length ≤ i + 1; omega), (by obtain ⟨Ei, h1, h2⟩ := hirow; exact ⟨Ei, h1, fun x hx => hZs x (h2 x hx)⟩), hiok, hilen⟩, (by have e9 := case_bad hcase9 hbad; rw [e9] at hM9; exact hM9)⟩, hl.addE (t := 17) (hl.addE (t := 6) (hl.addE (t := 8) (hl.addE (t := 1) (hl.addE (t := 5) (hl.addE (t := 7) (hl.addE (t := 15) (hl.addE (t := 16) (hl.nil) rfl (by first | rfl | rfl)) rfl (by first | rfl | rfl)) rfl (by first | rfl | rfl)) rfl (by first | rfl | rfl)) rfl (by first | rfl | rfl)) rfl (by first | rfl | rfl)) rfl (by first | rfl | rfl)) rfl (by first | rfl | rfl), hh.keep (by repeat (first | exact keeps_nil | apply keeps_cons (by repeat (first | exact find_head | apply find_tail)) (by first  | rfl) | exact keeps_self | exact keeps_left | exact keeps_right | exact keeps_swap | apply keeps_mv))⟩ | refine ⟨⟨⟨i + 1, rvs, avs, P, mk, ms, Em, iid, .slice bp is.length bcap, is, ap, Zc⟩, km9, N9⟩, (by show n - (i + 1) < n - i; omega), ⟨⟨by show i + 1 ≤ n; omega, hNb, hPok, hinv, hrow, hmok, (by show ms.length ≤ i + 1; omega), (by obtain ⟨Ei, h1, h2⟩ := hirow; exact ⟨Ei, h1, fun x hx => hZs x (h2 x hx)⟩), hiok, hilen⟩, (by have e9 := case_bad hcase9 hbad; rw [e9] at hM9; exact hM9)⟩, hl.addE (t := 17) (hl.addE (t := 6) (hl.addE (t := 8) (hl.addE (t := 1) (hl.addE (t := 5) (hl.addE (t := 7) (hl.addE (t := 15) (hl.addE (t := 16) (hl.nil) rfl (by first | rfl | rfl)) rfl (by first | rfl | rfl)) rfl (by first | rfl | rfl)) rfl (by first | rfl | rfl)) rfl (by first | rfl | rfl)) rfl (by first | rfl | rfl)) rfl (by first | rfl | rfl)) rfl (by first | rfl | rfl), hh.keep (by repeat (first | exact keeps_nil | apply keeps_cons (by repeat (first | exact find_head | apply find_tail)) (by first  | rfl) | exact keeps_self | exact keeps_left | exact keeps_right | exact keeps_swap | apply keeps_mv))⟩ | refine ⟨⟨⟨i + 1, rvs, avs, P, .slice none 0 0, [], [], iid, iv, is, ap, Zc⟩, km9, N9⟩, (by show n - (i + 1) < n - i; omega), ⟨⟨by show i + 1 ≤ n; omega, hNb, hPok, hinv, Row.nil _ _, (fun c hc => by cases hc), Nat.zero_le _, (by obtain ⟨Ei, h1, h2⟩ := hirow; exact ⟨Ei, h1, fun x hx => hZs x (h2 x hx)⟩), hiok, hilen⟩, (by have e9 := case_bad hcase9 hbad; rw [e9] at hM9; exact hM9)⟩, hl.addE (t := 17) (hl.addE (t := 6) (hl.addE (t := 8) (hl.addE (t := 1) (hl.addE (t := 5) (hl.addE (t := 7) (hl.addE (t := 15) (hl.addE (t := 16) (hl.nil) rfl (by first | rfl | rfl)) rfl (by first | rfl | rfl)) rfl (by first | rfl | rfl)) rfl (by first | rfl | rfl)) rfl (by first | rfl | rfl)) rfl (by first | rfl | rfl)) rfl (by first | rfl | rfl)) rfl (by first | rfl | rfl), hh.keep (by repeat (first | exact keeps_nil | apply keeps_cons (by repeat (first | exact find_head | apply find_tail)) (by first  | rfl) | exact keeps_self | exact keeps_left | exact keeps_right | exact keeps_swap | apply keeps_mv))⟩ | refine ⟨⟨⟨i + 1, rvs, avs, P, rv2, ms ++ [⟨ckd, cdv, cpr, cix, cup, cra, crl, cvia, cpm, cda, cdl, ccl⟩], E2, iid, iv, is, ap, Z⟩, km, NN⟩, (by show n - (i + 1) < n - i; omega), ⟨⟨by show i + 1 ≤ n; omega, hnet, hPok, hinv, (by show Row rv2 (ms ++ [_]).length _ _ _ _; rw [List.length_append, chs_snoc]; exact hR2), (fun c hc => by rcases List.mem_append.1 hc with h | h; exact hmok c h; (rw [List.mem_singleton] at h; subst h; exact hdok.ch)), (by show (ms ++ [_]).length ≤ i + 1; rw [List.length_append]; show ms.length + 1 ≤ i + 1; omega), hirow, hiok, hilen⟩, hMs⟩, hl.addE (t := 17) (hl.addE (t := 6) (hl.addE (t := 8) (hl.addE (t := 1) (hl.addE (t := 5) (hl.addE (t := 7) (hl.addE (t := 15) (hl.addE (t := 16) (hl.nil) rfl (by first | rfl | rfl)) rfl (by first | rfl | rfl)) rfl (by first | rfl | rfl)) rfl (by first | rfl | rfl)) rfl (by first | rfl | rfl)) rfl (by first | rfl | rfl)) rfl (by first | rfl | rfl)) rfl (by first | rfl | rfl), hh.keep (by repeat (first | exact keeps_nil | apply keeps_cons (by repeat (first | exact find_head | apply find_tail)) (by first  | rfl) | exact keeps_self | exact keeps_left | exact keeps_right | exact keeps_swap | apply keeps_mv))⟩ | refine ⟨⟨⟨i + 1, rvs, avs, P, mk, ms, Em, iid, iv, is, ap, Z⟩, km, NN⟩, (by show n - (i + 1) < n - i; omega), ⟨⟨by show i + 1 ≤ n; omega, hnet, hPok, hinv, hrow, hmok, (by show ms.length ≤ i + 1; omega), hirow, hiok, hilen⟩, hMs⟩, hl.addE (t := 17) (hl.addE (t := 6) (hl.addE (t := 8) (hl.addE (t := 1) (hl.addE (t := 5) (hl.addE (t := 7) (hl.addE (t := 15) (hl.addE (t := 16) (hl.nil) rfl (by first | rfl | rfl)) rfl (by first | rfl | rfl)) rfl (by first | rfl | rfl)) rfl (by first | rfl | rfl)) rfl (by first | rfl | rfl)) rfl (by first | rfl | rfl)) rfl (by first | rfl | rfl)) rfl (by first | rfl | rfl), hh.keep (by repeat (first | exact keeps_nil | apply keeps_cons (by repeat (first | exact find_head | apply find_tail)) (by first  | rfl) | exact keeps_self | exact keeps_left | exact keeps_right | exact keeps_swap | apply keeps_mv))⟩
        · intro hc4
          try simp only [decide_eq_true_eq, decide_eq_false_iff_not, Bool.not_eq_true', Bool.not_eq_false', Bool.not_eq_true, Bool.not_eq_false, Bool.and_eq_true, Bool.or_eq_true, Bool.and_eq_false_iff, Bool.or_eq_false_iff, Bool.not_not, ne_eq, Int.not_lt, Int.not_le, Decidable.not_not, beq_iff_eq, bne_iff_ne] at hc4
          refine c_seq ?_
          refine c_region ?_
          refine wl (wl_val hl rfl trivial (r_eql hl rfl rfl) ?_)
          clear hl a; intro a hl
          refine wl (wl_val hl rfl trivial (r_assign hl rfl) ?_)
          clear hl a; intro a hl
          refine w_nil ?_
          have hl2 := hl.add (t := 1) (hl.add (t := 5) (hl.add (t := 6) (hl.add (t := 7) (hl.add (t := 8) (hl.add (t := 11) (hl.add (t := 15) (hl.add (t := 16) (hl.add (t := 17) (hl.add (t := 46) (hl.nil) rfl) rfl) rfl) rfl) rfl) rfl) rfl) rfl) rfl) rfl; clear hl; have hl := hl2; clear hl2
          refine then_normal ?_
          refine c_cond hl rfl ?_ ?_
          · intro hc5
            try simp only [decide_eq_true_eq, decide_eq_false_iff_not, Bool.not_eq_true', Bool.not_eq_false', Bool.not_eq_true, Bool.not_eq_false, Bool.and_eq_true, Bool.or_eq_true, Bool.and_eq_false_iff, Bool.or_eq_false_iff, Bool.not_not, ne_eq, Int.not_lt, Int.not_le, Decidable.not_not, beq_iff_eq, bne_iff_ne] at hc5
            refine c_seq ?_
            refine c_seq ?_
            refine c_region ?_
            refine wl (wl_val hl rfl trivial (r_move hl rfl) ?_)
            clear hl a; intro a hl
            refine wl (wl_val hl rfl trivial (r_not hl rfl) ?_)
            clear hl a; intro a hl
            refine w_nil ?_
            have hl2 := hl.add (t := 1) (hl.add (t := 5) (hl.add (t := 6) (hl.add (t := 7) (hl.add (t := 8) (hl.add (t := 11) (hl.add (t := 15) (hl.add (t := 16) (hl.add (t := 17) (hl.add (t := 49) (hl.nil) rfl) rfl) rfl) rfl) rfl) rfl) rfl) rfl) rfl) rfl; clear hl; have hl := hl2; clear hl2
            refine then_normal ?_
            refine c_cond hl rfl ?_ ?_
            · intro hc6
              try simp only [decide_eq_true_eq, decide_eq_false_iff_not, Bool.not_eq_true', Bool.not_eq_false', Bool.not_eq_true, Bool.not_eq_false, Bool.and_eq_true, Bool.or_eq_true, Bool.and_eq_false_iff, Bool.or_eq_false_iff, Bool.not_not, ne_eq, Int.not_lt, Int.not_le, Decidable.not_not, beq_iff_eq, bne_iff_ne] at hc6
              refine wp_exit ?_
              refine then_exit ?_
              refine blk_exit_ne rfl ?_
              refine then_exit ?_
              refine blk_exit ?_
              refine then_normal ?_
              refine c_region ?_
              first | refine wl (wl_val hl rfl trivial (r_add hl rfl rfl (by simp only [Fits]; omega)) ?_) | refine wl (wl_val hl rfl trivial (r_addW hl rfl rfl) ?_)
              clear hl a; intro a hl
              refine wl (wl_val hl rfl trivial (r_move hl rfl) ?_)
              clear hl a; intro a hl
              refine w_nil ?_
              have hl2 := hl.add (t := 1) (hl.add (t := 5) (hl.add (t := 6) (hl.add (t := 7) (hl.add (t := 8) (hl.add (t := 15) (hl.add (t := 16) (hl.add (t := 17) (hl.nil) rfl) rfl) rfl) rfl) rfl) rfl) rfl) rfl; clear hl; have hl := hl2; clear hl2
              refine then_normal ?_
              first | refine ⟨⟨⟨i + 1, rv', av', P2, mk, ms, Em, bid, .slice up2 us.length uc2, us.reverse, true, (Zc ++ Fu) ++ Fx⟩, km9, N9⟩, (by show n - (i + 1) < n - i; omega), ⟨⟨by show i + 1 ≤ n; omega, hN3, hP3, hInv3, hrow, hmok, (by show ms.length ≤ i + 1; omega), ⟨Fu, by show Row _ us.reverse.length _ _ _ _; rw [List.length_reverse]; exact hrowu, fun x hx => List.mem_append_left _ (List.mem_append_right _ hx)⟩, fun c hc => huok c (List.mem_reverse.1 hc), by show us.reverse.length ≤ 1000000; rw [List.length_reverse]; omega⟩, (by have e9 := case_ok hcase9 hchk hst2; rw [e9] at hM9; exact hM9.mono (fun x hx => by simp [hx]))⟩, hl.addE (t := 17) (hl.addE (t := 6) (hl.addE (t := 8) (hl.addE (t := 1) (hl.addE (t := 5) (hl.addE (t := 7) (hl.addE (t := 15) (hl.addE (t := 16) (hl.nil) rfl (by first | rfl | rfl)) rfl (by first | rfl | rfl)) rfl (by first | rfl | rfl)) rfl (by first | rfl | rfl)) rfl (by first | rfl | rfl)) rfl (by first | rfl | rfl)) rfl (by first | rfl | rfl)) rfl (by first | rfl | rfl), hh.keep (by repeat (first | exact keeps_nil | apply keeps_cons (by repeat (first | exact find_head | apply find_tail)) (by first  | rfl) | exact keeps_self | exact keeps_left | exact keeps_right | exact keeps_swap | apply keeps_mv))⟩ | refine ⟨⟨⟨i + 1, rv', av', P2, .slice none 0 0, [], [], did, .slice up2 us.length uc2, us.reverse, true, Zc ++ (Fu ++ Fx)⟩, km9, N9⟩, (by show n - (i + 1) < n - i; omega), ⟨⟨by show i + 1 ≤ n; omega, (by rw [← List.append_assoc]; exact hN3), hP3, hInv3, Row.nil _ _, (fun c hc => by cases hc), Nat.zero_le _, ⟨Fu, by show Row _ us.reverse.length _ _ _ _; rw [List.length_reverse]; exact hrowu, fun x hx => List.mem_append_right _ (List.mem_append_left _ hx)⟩, fun c hc => huok c (List.mem_reverse.1 hc), by show us.reverse.length ≤ 1000000; rw [List.length_reverse]; omega⟩, (by have e9 := case_ok hcase9 hchk hst2; rw [e9] at hM9; exact hM9.mono (fun x hx => by simp [hx]))⟩, hl.addE (t := 17) (hl.addE (t := 6) (hl.addE (t := 8) (hl.addE (t := 1) (hl.addE (t := 5) (hl.addE (t := 7) (hl.addE (t := 15) (hl.addE (t := 16) (hl.nil) rfl (by first | rfl | rfl)) rfl (by first | rfl | rfl)) rfl (by first | rfl | rfl)) rfl (by first | rfl | rfl)) rfl (by first | rfl | rfl)) rfl (by first | rfl | rfl)) rfl (by first | rfl | rfl)) rfl (by first | rfl | rfl), hh.keep (by repeat (first | exact keeps_nil | apply keeps_cons (by repeat (first | exact find_head | apply find_tail)) (by first  | rfl) | exact keeps_self | exact keeps_left | exact keeps_right | exact keeps_swap | apply keeps_mv))⟩ | refine ⟨⟨⟨i + 1, rv', av', P2, mk, ms, Em, iid, .slice up2 us.length uc2, us.reverse, true, (Zc ++ Fu) ++ Fx⟩, km9, N9⟩, (by show n - (i + 1) < n - i; omega), ⟨⟨by show i + 1 ≤ n; omega, hN3, hP3, hInv3, hrow, hmok, (by show ms.length ≤ i + 1; omega), ⟨Fu, by show Row _ us.reverse.length _ _ _ _; rw [List.length_reverse]; exact hrowu, fun x hx => List.mem_append_left _ (List.mem_append_right _ hx)⟩, fun c hc => huok c (List.mem_reverse.1 hc), by show us.reverse.length ≤ 1000000; rw [List.length_reverse]; omega⟩, (by have e9 := case_ok hcase9 hchk hst2; rw [e9] at hM9; exact hM9.mono (fun x hx => by simp [hx]))⟩, hl.addE (t := 17) (hl.addE (t := 6) (hl.addE (t := 8) (hl.addE (t := 1) (hl.addE (t := 5) (hl.addE (t := 7) (hl.addE (t := 15) (hl.addE (t := 16) (hl.nil) rfl (by first | rfl | rfl)) rfl (by first | rfl | rfl)) rfl (by first | rfl | rfl)) rfl (by first | rfl | rfl)) rfl (by first | rfl | rfl)) rfl (by first | rfl | rfl)) rfl (by first | rfl | rfl)) rfl (by first | rfl | rfl), hh.keep (by repeat (first | exact keeps_nil | apply keeps_cons (by repeat (first | exact find_head | apply find_tail)) (by first  | rfl) | exact keeps_self | exact keeps_left | exact keeps_right | exact keeps_swap | apply keeps_mv))⟩ | refine ⟨⟨⟨i + 1, rvs, avs, P, mk, ms, Em, iid, iv, is, ap, Zc⟩, km9, N9⟩, (by show n - (i + 1) < n - i; omega), ⟨⟨by show i + 1 ≤ n; omega, hNb, hPok, hinv, hrow, hmok, (by show ms.length ≤ i + 1; omega), (by obtain ⟨Ei, h1, h2⟩ := hirow; exact ⟨Ei, h1, fun x hx => hZs x (h2 x hx)⟩), hiok, hilen⟩, (by have e9 := case_bad hcase9 hbad; rw [e9] at hM9; exact hM9)⟩, hl.addE (t := 17) (hl.addE (t := 6) (hl.addE (t := 8) (hl.addE (t := 1) (hl.addE (t := 5) (hl.addE (t := 7) (hl.addE (t := 15) (hl.addE (t := 16) (hl.nil) rfl (by first | rfl | rfl)) rfl (by first | rfl | rfl)) rfl (by first | rfl | rfl)) rfl (by first | rfl | rfl)) rfl (by first | rfl | rfl)) rfl (by first | rfl | rfl)) rfl (by first | rfl | rfl)) rfl (by first | rfl | rfl), hh.keep (by repeat (first | exact keeps_nil | apply keeps_cons (by repeat (first | exact find_head | apply find_tail)) (by first  | rfl) | exact keeps_self | exact keeps_left | exact keeps_right | exact keeps_swap | apply keeps_mv))⟩ | refine ⟨⟨⟨i + 1, rvs, avs, P, mk, ms, Em, iid, .slice bp is.length bcap, is, ap, Zc⟩, km9, N9⟩, (by show n - (i + 1) < n - i; omega), ⟨⟨by show i + 1 ≤ n; omega, hNb, hPok, hinv, hrow, hmok, (by show ms.length ≤ i + 1; omega), (by obtain ⟨Ei, h1, h2⟩ := hirow; exact ⟨Ei, h1, fun x hx => hZs x (h2 x hx)⟩), hiok, hilen⟩, (by have e9 := case_bad hcase9 hbad; rw [e9] at hM9; exact hM9)⟩, hl.addE (t := 17) (hl.addE (t := 6) (hl.addE (t := 8) (hl.addE (t := 1) (hl.addE (t := 5) (hl.addE (t := 7) (hl.addE (t := 15) (hl.addE (t := 16) (hl.nil) rfl (by first | rfl | rfl)) rfl (by first | rfl | rfl)) rfl (by first | rfl | rfl)) rfl (by first | rfl | rfl)) rfl (by first | rfl | rfl)) rfl (by first | rfl | rfl)) rfl (by first | rfl | rfl)) rfl (by first | rfl | rfl), hh.keep (by repeat (first | exact keeps_nil | apply keeps_cons (by repeat (first | exact find_head | apply find_tail)) (by first  | rfl) | exact keeps_self | exact keeps_left | exact keeps_right | exact keeps_swap | apply keeps_mv))⟩ | refine ⟨⟨⟨i + 1, rvs, avs, P, .slice none 0 0, [], [], iid, iv, is, ap, Zc⟩, km9, N9⟩, (by show n - (i + 1) < n - i; omega), ⟨⟨by show i + 1 ≤ n; omega, hNb, hPok, hinv, Row.nil _ _, (fun c hc => by cases hc), Nat.zero_le _, (by obtain ⟨Ei, h1, h2⟩ := hirow; exact ⟨Ei, h1, fun x hx => hZs x (h2 x hx)⟩), hiok, hilen⟩, (by have e9 := case_bad hcase9 hbad; rw [e9] at hM9; exact hM9)⟩, hl.addE (t := 17) (hl.addE (t := 6) (hl.addE (t := 8) (hl.addE (t := 1) (hl.addE (t := 5) (hl.addE (t := 7) (hl.addE (t := 15) (hl.addE (t := 16) (hl.nil) rfl (by first | rfl | rfl)) rfl (by first | rfl | rfl)) rfl (by first | rfl | rfl)) rfl (by first | rfl | rfl)) rfl (by first | rfl | rfl)) rfl (by first | rfl | rfl)) rfl (by first | rfl | rfl)) rfl (by first | rfl | rfl), hh.keep (by repeat (first | exact keeps_nil | apply keeps_cons (by repeat (first | exact find_head | apply find_tail)) (by first  | rfl) | exact keeps_self | exact keeps_left | exact keeps_right | exact keeps_swap | apply keeps_mv))⟩ | refine ⟨⟨⟨i + 1, rvs, avs, P, rv2, ms ++ [⟨ckd, cdv, cpr, cix, cup, cra, crl, cvia, cpm, cda, cdl, ccl⟩], E2, iid, iv, is, ap, Z⟩, km, NN⟩, (by show n - (i + 1) < n - i; omega), ⟨⟨by show i + 1 ≤ n; omega, hnet, hPok, hinv, (by show Row rv2 (ms ++ [_]).length _ _ _ _; rw [List.length_append, chs_snoc]; exact hR2), (fun c hc => by rcases List.mem_append.1 hc with h | h; exact hmok c h; (rw [List.mem_singleton] at h; subst h; exact hdok.ch)), (by show (ms ++ [_]).length ≤ i + 1; rw [List.length_append]; show ms.length + 1 ≤ i + 1; omega), hirow, hiok, hilen⟩, hMs⟩, hl.addE (t := 17) (hl.addE (t := 6) (hl.addE (t := 8) (hl.addE (t := 1) (hl.addE (t := 5) (hl.addE (t := 7) (hl.addE (t := 15) (hl.addE (t := 16) (hl.nil) rfl (by first | rfl | rfl)) rfl (by first | rfl | rfl)) rfl (by first | rfl | rfl)) rfl (by first | rfl | rfl)) rfl (by first | rfl | rfl)) rfl (by first | rfl | rfl)) rfl (by first | rfl | rfl)) rfl (by first | rfl | rfl), hh.keep (by repeat (first | exact keeps_nil | apply keeps_cons (by repeat (first | exact find_head | apply find_tail)) (by first  | rfl) | exact keeps_self | exact keeps_left | exact keeps_right | exact keeps_swap | apply keeps_mv))⟩ | refine ⟨⟨⟨i + 1, rvs, avs, P, mk, ms, Em, iid, iv, is, ap, Z⟩, km, NN⟩, (by show n - (i + 1) < n - i; omega), ⟨⟨by show i + 1 ≤ n; omega, hnet, hPok, hinv, hrow, hmok, (by show ms.length ≤ i + 1; omega), hirow, hiok, hilen⟩, hMs⟩, hl.addE (t := 17) (hl.addE (t := 6) (hl.addE (t := 8) (hl.addE (t := 1) (hl.addE (t := 5) (hl.addE (t := 7) (hl.addE (t := 15) (hl.addE (t := 16) (hl.nil) rfl (by first | rfl | rfl)) rfl (by first | rfl | rfl)) rfl (by first | rfl | rfl)) rfl (by first | rfl | rfl)) rfl (by first | rfl | rfl)) rfl (by first | rfl | rfl)) rfl (by first | rfl | rfl)) rfl (by first | rfl | rfl), hh.keep (by repeat (first | exact keeps_nil | apply keeps_cons (by repeat (first | exact find_head | apply find_tail)) (by first  | rfl) | exact keeps_self | exact keeps_left | exact keeps_right | exact keeps_swap | apply keeps_mv))⟩
            · intro hc6
              try simp only [decide_eq_true_eq, decide_eq_false_iff_not, Bool.not_eq_true', Bool.not_eq_false', Bool.not_eq_true, Bool.not_eq_false, Bool.and_eq_true, Bool.or_eq_true, Bool.and_eq_false_iff, Bool.or_eq_false_iff, Bool.not_not, ne_eq, Int.not_lt, Int.not_le, Decidable.not_not, beq_iff_eq, bne_iff_ne] at hc6
              obtain ⟨Ei, hRi, hzi⟩ := hirow
              obtain ⟨bp, bcap, hbv⟩ := row_val hRi
              subst hbv
              have hirow : ∃ Ei, Row (.slice bp is.length bcap) is.length (chs is) 12 57 Ei ∧ ∀ x, x ∈ Ei → x ∈ Z := ⟨Ei, hRi, hzi⟩
              obtain ⟨Zb, hZb⟩ : ∃ q, q = Z := ⟨_, rfl⟩
              rw [← hZb] at hh
              have hRb := hRi
              have hbok := hiok
              have hblen := hilen
              have hEbz : ∀ x, x ∈ Ei → x ∈ Zb := fun x hx => by rw [hZb]; exact hzi x hx
              have hZs : ∀ x, x ∈ Z → x ∈ Zb := fun x hx => by rw [hZb]; exact hx
              have hNb := hnet.mono hZs
              refine wp_skip ?_
              refine then_normal ?_
              refine c_region ?_
              first | refine wl (w_loadA hl hh rfl trivial agg37 rfl (by repeat (first | exact find_head | apply find_tail)) (by first | (simp only [List.getElem?_cons_zero, List.getElem?_cons_succ, Value.cells, List.take_zero, List.take_succ_cons, List.take_nil, List.drop_zero, List.drop_succ_cons, List.drop_nil, List.length_cons, List.length_nil, List.cons_append, List.nil_append, List.append_nil, Nat.zero_add, Nat.add_zero, Nat.reduceAdd, Nat.reduceBEq, Nat.reduceEqDiff, Nat.ble, BEq.rfl, Bool.and_true, Bool.and_self, cond_true, beq_self_eq_true]; rfl)) (by first | rfl | (simp; done)) ?_) | refine wl (w_loadRA hl hh rfl trivial agg37 rfl hm hsbD hqv rfl ?_)
              clear hl a; intro a hl
              refine wl (w_storeA hl hh trivial agg37 rfl rfl (by repeat (first | exact find_head | apply find_tail)) (by first | rfl | (simp; done)) (by first | (simp; done) | (simp; omega)) (by first | rfl | (simp; done) | (simp [hone1, hone2]; done)) (by first | (simp only [setL, List.getElem?_cons_zero, List.getElem?_cons_succ, Value.cells, List.take_zero, List.take_succ_cons, List.take_nil, List.drop_zero, List.drop_succ_cons, List.drop_nil, List.length_cons, List.length_nil, List.cons_append, List.nil_append, List.append_nil, Nat.zero_add, Nat.add_zero, Nat.reduceAdd, Nat.reduceBEq, Nat.reduceEqDiff, Nat.ble, BEq.rfl, Bool.and_true, Bool.and_self, cond_true, beq_self_eq_true]; rfl)) ?_)
              clear hh w; intro w hh
              refine w_nil ?_
              have hl2 := hl.add (t := 1) (hl.add (t := 5) (hl.add (t := 6) (hl.add (t := 7) (hl.add (t := 8) (hl.add (t := 11) (hl.add (t := 15) (hl.add (t := 16) (hl.add (t := 17) (hl.nil) rfl) rfl) rfl) rfl) rfl) rfl) rfl) rfl) rfl; clear hl; have hl := hl2; clear hl2
              refine blk_normal ?_
              refine then_normal ?_
              refine c_seq ?_
              refine c_seq ?_
              refine c_region ?_
              refine wl (wl_val hl rfl trivial (r_move hl rfl) ?_)
              clear hl a; intro a hl
              first | refine wl (w_loadA hl hh rfl trivial agg33 rfl (by repeat (first | exact find_head | apply find_tail)) (by first | exact whole _ _ | exact ed_take _ _ _ _) (by rw [arrL_length]) ?_) | refine wl (w_loadRA hl hh rfl trivial agg33 rfl hm hsbD hqv rfl ?_)
              clear hl a; intro a hl
              first | refine wl (w_loadA hl hh rfl trivial agg37 rfl (by repeat (first | exact find_head | apply find_tail)) (by first | (simp only [List.getElem?_cons_zero, List.getElem?_cons_succ, Value.cells, List.take_zero, List.take_succ_cons, List.take_nil, List.drop_zero, List.drop_succ_cons, List.drop_nil, List.length_cons, List.length_nil, List.cons_append, List.nil_append, List.append_nil, Nat.zero_add, Nat.add_zero, Nat.reduceAdd, Nat.reduceBEq, Nat.reduceEqDiff, Nat.ble, BEq.rfl, Bool.and_true, Bool.and_self, cond_true, beq_self_eq_true]; rfl)) (by first | rfl | (simp; done)) ?_) | refine wl (w_loadRA hl hh rfl trivial agg37 rfl hm hsbD hqv rfl ?_)
              clear hl a; intro a hl
              refine wl (w_call hl hh rfl trivial rfl cal26 rfl (each_all _ _ _ _ _ hNb hPok _ _ _ _ hRb hEbz hbok hblen km NN (hMs.mono hZs) mc (nd_one (E := Zb) hh (keeps_cons (b := mc) (by repeat (first | exact find_head | apply find_tail)) rfl (by repeat (first | exact keeps_right | exact keeps_left | exact keeps_self | apply keeps_mv))))) (by repeat (first | exact keeps_nil | apply keeps_cons (by repeat (first | exact find_head | apply find_tail)) (by first  | rfl) | exact keeps_self | exact keeps_left | exact keeps_right | exact keeps_swap | apply keeps_mv)) (fun b o m => hh.mem b o (by simp [m])) ?_)
              clear hl hh a w; intro vc Fc a w hR hl hh
              obtain ⟨rfl, km9, N9, P9, Fz9, rfl, hM9, hcase9⟩ := hR
              try simp only [List.cons_append, List.nil_append] at hh
              change CaseE _ _ _ at hcase9
              first | replace hh := has_ea (A := [_, _, _, _]) hh | replace hh := has_ea0 (A := [_, _, _, _]) hh
              simp only [List.cons_append, List.nil_append] at hh
              obtain ⟨Zc, hZc⟩ : ∃ q, q = Zb ++ Fz9 := ⟨_, rfl⟩
              rw [← hZc] at hh hM9
              have hsb : ∀ x, x ∈ Zb → x ∈ Zc := fun x hx => by rw [hZc]; exact List.mem_append_left _ hx
              replace hNb := hNb.mono hsb
              replace hEbz := fun x hx => hsb x (hEbz x hx)
              replace hZs := fun x hx => hsb x (hZs x hx)
              refine wl (wl_val hl rfl trivial (r_not hl rfl) ?_)
              clear hl a; intro a hl
              refine w_nil ?_
              have hl2 := hl.add (t := 1) (hl.add (t := 5) (hl.add (t := 6) (hl.add (t := 7) (hl.add (t := 8) (hl.add (t := 11) (hl.add (t := 15) (hl.add (t := 16) (hl.add (t := 17) (hl.add (t := 55) (hl.nil) rfl) rfl) rfl) rfl) rfl) rfl) rfl) rfl) rfl) rfl; clear hl; have hl := hl2; clear hl2
              refine then_normal ?_
              refine c_cond hl rfl ?_ ?_
              · intro hc7
                try simp only [decide_eq_true_eq, decide_eq_false_iff_not, Bool.not_eq_true', Bool.not_eq_false', Bool.not_eq_true, Bool.not_eq_false, Bool.and_eq_true, Bool.or_eq_true, Bool.and_eq_false_iff, Bool.or_eq_false_iff, Bool.not_not, ne_eq, Int.not_lt, Int.not_le, Decidable.not_not, beq_iff_eq, bne_iff_ne] at hc7
                exfalso; first | contradiction | omega
              · intro hc7
                try simp only [decide_eq_true_eq, decide_eq_false_iff_not, Bool.not_eq_true', Bool.not_eq_false', Bool.not_eq_true, Bool.not_eq_false, Bool.and_eq_true, Bool.or_eq_true, Bool.and_eq_false_iff, Bool.or_eq_false_iff, Bool.not_not, ne_eq, Int.not_lt, Int.not_le, Decidable.not_not, beq_iff_eq, bne_iff_ne] at hc7
                refine wp_skip ?_
                refine then_normal ?_
                refine c_seq ?_
                refine c_region ?_
                first | refine wl (w_loadA hl hh rfl trivial agg33 rfl (by repeat (first | exact find_head | apply find_tail)) (by first | exact whole _ _ | exact ed_take _ _ _ _) (by rw [arrL_length]) ?_) | refine wl (w_loadRA hl hh rfl trivial agg33 rfl hm hsbD hqv rfl ?_)
                clear hl a; intro a hl
                first | refine wl (w_loadA hl hh rfl trivial agg37 rfl (by repeat (first | exact find_head | apply find_tail)) (by first | (simp only [List.getElem?_cons_zero, List.getElem?_cons_succ, Value.cells, List.take_zero, List.take_succ_cons, List.take_nil, List.drop_zero, List.drop_succ_cons, List.drop_nil, List.length_cons, List.length_nil, List.cons_append, List.nil_append, List.append_nil, Nat.zero_add, Nat.add_zero, Nat.reduceAdd, Nat.reduceBEq, Nat.reduceEqDiff, Nat.ble, BEq.rfl, Bool.and_true, Bool.and_self, cond_true, beq_self_eq_true]; rfl)) (by first | rfl | (simp; done)) ?_) | refine wl (w_loadRA hl hh rfl trivial agg37 rfl hm hsbD hqv rfl ?_)
                clear hl a; intro a hl
                refine wl (w_call hl hh rfl trivial rfl cal19 rfl (inverse_spec _ _ _ _ _ hNb hPok _ _ _ _ hRb hEbz hbok hblen) (by repeat (first | exact keeps_nil | apply keeps_cons (by repeat (first | exact find_head | apply find_tail)) (by first  | rfl) | exact keeps_self | exact keeps_left | exact keeps_right | exact keeps_swap | apply keeps_mv)) (fun b o m => hh.mem b o (by simp [m])) ?_)
                clear hl hh a w; intro vc Fc a w hR hl hh
                rcases hR with ⟨P', us, uv, hchk, hst, hul, huok, hrowu, rfl⟩ | ⟨k, code, pos, hbad, rfl, rfl⟩
                ·
                  try simp only [List.cons_append, List.nil_append, List.append_nil] at hh
                  generalize Fc = Fu at hh hrowu
                  first | replace hh := has_push (A := [_, _, _, _, _]) hh | replace hh := has_push0 (A := [_, _, _, _, _]) hh
                  simp only [List.cons_append, List.nil_append] at hh
                  obtain ⟨up2, uc2, huv⟩ := row_val hrowu
                  subst huv
                  refine wl (wl_val hl rfl trivial (r_move hl rfl) ?_)
                  clear hl a; intro a hl
                  refine wl (wl_val hl rfl trivial (r_extract hl rfl (by simp only [List.getElem?_toArray, List.getElem?_cons_zero, List.getElem?_cons_succ]; rfl)) ?_)
                  clear hl a; intro a hl
                  refine wl (wl_val hl rfl trivial (r_extract hl rfl (by simp only [List.getElem?_toArray, List.getElem?_cons_zero, List.getElem?_cons_succ]; rfl)) ?_)
                  clear hl a; intro a hl
                  refine wl (w_alloc hl hh rfl trivial zero37 rfl ?_)
                  clear hl hh a w; intro k13 a w hl hh
                  refine wl (w_storeA hl hh trivial agg37 rfl rfl (by repeat (first | exact find_head | apply find_tail)) (by first | rfl | (simp; done)) (by first | (simp; done) | (simp; omega)) (by first | rfl | (simp; done) | (simp [hone1, hone2]; done)) (by first | (simp only [setL, List.getElem?_cons_zero, List.getElem?_cons_succ, Value.cells, List.take_zero, List.take_succ_cons, List.take_nil, List.drop_zero, List.drop_succ_cons, List.drop_nil, List.length_cons, List.length_nil, List.cons_append, List.nil_append, List.append_nil, Nat.zero_add, Nat.add_zero, Nat.reduceAdd, Nat.reduceBEq, Nat.reduceEqDiff, Nat.ble, BEq.rfl, Bool.and_true, Bool.and_self, cond_true, beq_self_eq_true]; rfl)) ?_)
                  clear hh w; intro w hh
                  refine wl (wl_val hl rfl trivial (r_assign hl rfl) ?_)
                  clear hl a; intro a hl
                  refine w_nil ?_
                  have hl2 := hl.add (t := 1) (hl.add (t := 5) (hl.add (t := 6) (hl.add (t := 7) (hl.add (t := 8) (hl.add (t := 11) (hl.add (t := 13) (hl.add (t := 14) (hl.add (t := 15) (hl.add (t := 16) (hl.add (t := 17) (hl.nil) rfl) rfl) rfl) rfl) rfl) rfl) rfl) rfl) rfl) rfl) rfl; clear hl; have hl := hl2; clear hl2
                  refine then_normal ?_
                  refine c_seq ?_
                  refine c_region ?_
                  refine wl (wl_val hl rfl trivial (r_move hl rfl) ?_)
                  clear hl a; intro a hl
                  first | refine wl (wl_val hl rfl trivial (r_eql_ifcN hl rfl ifc39) ?_) | refine wl (wl_val hl rfl trivial (r_eql_ifcS hl rfl ifc39) ?_)
                  clear hl a; intro a hl
                  refine w_nil ?_
                  have hl2 := hl.add (t := 1) (hl.add (t := 5) (hl.add (t := 6) (hl.add (t := 7) (hl.add (t := 8) (hl.add (t := 11) (hl.add (t := 13) (hl.add (t := 15) (hl.add (t := 16) (hl.add (t := 17) (hl.add (t := 63) (hl.nil) rfl) rfl) rfl) rfl) rfl) rfl) rfl) rfl) rfl) rfl) rfl; clear hl; have hl := hl2; clear hl2
                  refine then_normal ?_
                  refine c_condT hl rfl ?_
                  refine c_seq ?_
                  refine c_region ?_
                  first | refine wl (w_loadA hl hh rfl trivial agg33 rfl (by repeat (first | exact find_head | apply find_tail)) (by first | exact whole _ _ | exact ed_take _ _ _ _) (by rw [arrL_length]) ?_) | refine wl (w_loadRA hl hh rfl trivial agg33 rfl hm hsbD hqv rfl ?_)
                  clear hl a; intro a hl
                  first | refine wl (w_loadA hl hh rfl trivial agg37 rfl (by repeat (first | exact find_head | apply find_tail)) (by first | (simp only [List.getElem?_cons_zero, List.getElem?_cons_succ, Value.cells, List.take_zero, List.take_succ_cons, List.take_nil, List.drop_zero, List.drop_succ_cons, List.drop_nil, List.length_cons, List.length_nil, List.cons_append, List.nil_append, List.append_nil, Nat.zero_add, Nat.add_zero, Nat.reduceAdd, Nat.reduceBEq, Nat.reduceEqDiff, Nat.ble, BEq.rfl, Bool.and_true, Bool.and_self, cond_true, beq_self_eq_true]; rfl)) (by first | rfl | (simp; done)) ?_) | refine wl (w_loadRA hl hh rfl trivial agg37 rfl hm hsbD hqv rfl ?_)
                  clear hl a; intro a hl
                  refine wl (w_call hl hh rfl trivial rfl cal18 rfl (apply_spec _ _ _ _ _ hNb hPok _ _ _ _ hRb hEbz hbok hblen) (by repeat (first | exact keeps_nil | apply keeps_cons (by repeat (first | exact find_head | apply find_tail)) (by first  | rfl) | exact keeps_self | exact keeps_left | exact keeps_right | exact keeps_swap | apply keeps_mv)) (fun b o m => hh.mem b o (by simp [m])) ?_)
                  clear hl hh a w; intro vc Fc a w hR hl hh
                  rcases hR with ⟨P2, us2, rv', av', _, hst2, hP3, hN3, rfl⟩ | ⟨k, code, pos, hbad, rfl, rfl⟩
                  ·
                    try simp only [List.cons_append, List.nil_append, List.append_nil] at hh
                    have hPe := steps_fun hst2 hst
                    subst hPe
                    generalize Fc = Fx at hh hN3
                    first | replace hh := has_push (A := [_, _, _, _, _, _]) hh | replace hh := has_push0 (A := [_, _, _, _, _, _]) hh
                    simp only [List.cons_append, List.nil_append] at hh
                    have honeN := hN3.one
                    replace hN3 : NetR rv' av' P2 ((Zc ++ Fu) ++ Fx) := hN3.mono (fun x hx => by simp only [List.mem_append] at hx ⊢; rcases hx with h | h; exact .inl (.inl h); exact .inr h)
                    have hInv3 : True := trivial
                    refine wl (wl_val hl rfl trivial (r_move hl rfl) ?_)
                    clear hl a; intro a hl
                    refine wl (wl_val hl rfl trivial (r_extract hl rfl (by simp only [List.getElem?_toArray, List.getElem?_cons_zero, List.getElem?_cons_succ]; rfl)) ?_)
                    clear hl a; intro a hl
                    refine wl (wl_val hl rfl trivial (r_extract hl rfl (by simp only [List.getElem?_toArray, List.getElem?_cons_zero, List.getElem?_cons_succ]; rfl)) ?_)
                    clear hl a; intro a hl
                    refine wl (w_storeA hl hh trivial agg33 rfl rfl (by repeat (first | exact find_head | apply find_tail)) (by rw [arrL_length]) (by rw [arrL_length]; omega) (by exact nv_one honeN) (by exact setw _ _ _) ?_)
                    clear hh w; intro w hh
                    refine w_nil ?_
                    have hl2 := hl.add (t := 1) (hl.add (t := 5) (hl.add (t := 6) (hl.add (t := 7) (hl.add (t := 13) (hl.add (t := 15) (hl.add (t := 16) (hl.add (t := 17) (hl.nil) rfl) rfl) rfl) rfl) rfl) rfl) rfl) rfl; clear hl; have hl := hl2; clear hl2
                    refine then_normal ?_
                    refine c_region ?_
                    first | refine wl (w_loadA hl hh rfl trivial agg37 rfl (by repeat (first | exact find_head | apply find_tail)) (by first | (simp only [List.getElem?_cons_zero, List.getElem?_cons_succ, Value.cells, List.take_zero, List.take_succ_cons, List.take_nil, List.drop_zero, List.drop_succ_cons, List.drop_nil, List.length_cons, List.length_nil, List.cons_append, List.nil_append, List.append_nil, Nat.zero_add, Nat.add_zero, Nat.reduceAdd, Nat.reduceBEq, Nat.reduceEqDiff, Nat.ble, BEq.rfl, Bool.and_true, Bool.and_self, cond_true, beq_self_eq_true]; rfl)) (by first | rfl | (simp; done)) ?_) | refine wl (w_loadRA hl hh rfl trivial agg37 rfl hm hsbD hqv rfl ?_)
                    clear hl a; intro a hl
                    refine wl (w_storeA hl hh trivial agg37 rfl rfl (by repeat (first | exact find_head | apply find_tail)) (by first | rfl | (simp; done)) (by first | (simp; done) | (simp; omega)) (by first | rfl | (simp; done) | (simp [hone1, hone2]; done)) (by first | (simp only [setL, List.getElem?_cons_zero, List.getElem?_cons_succ, Value.cells, List.take_zero, List.take_succ_cons, List.take_nil, List.drop_zero, List.drop_succ_cons, List.drop_nil, List.length_cons, List.length_nil, List.cons_append, List.nil_append, List.append_nil, Nat.zero_add, Nat.add_zero, Nat.reduceAdd, Nat.reduceBEq, Nat.reduceEqDiff, Nat.ble, BEq.rfl, Bool.and_true, Bool.and_self, cond_true, beq_self_eq_true]; rfl)) ?_)
                    clear hh w; intro w hh
                    refine wl (wl_val hl rfl trivial (r_assign hl rfl) ?_)
                    clear hl a; intro a hl
                    refine w_nil ?_
                    have hl2 := hl.add (t := 1) (hl.add (t := 5) (hl.add (t := 6) (hl.add (t := 7) (hl.add (t := 8) (hl.add (t := 15) (hl.add (t := 16) (hl.add (t := 17) (hl.nil) rfl) rfl) rfl) rfl) rfl) rfl) rfl) rfl; clear hl; have hl := hl2; clear hl2
                    refine blk_normal ?_
                    refine then_normal ?_
                    refine c_region ?_
                    first | refine wl (wl_val hl rfl trivial (r_add hl rfl rfl (by simp only [Fits]; omega)) ?_) | refine wl (wl_val hl rfl trivial (r_addW hl rfl rfl) ?_)
                    clear hl a; intro a hl
                    refine wl (wl_val hl rfl trivial (r_move hl rfl) ?_)
                    clear hl a; intro a hl
                    refine w_nil ?_
                    have hl2 := hl.add (t := 1) (hl.add (t := 5) (hl.add (t := 6) (hl.add (t := 7) (hl.add (t := 8) (hl.add (t := 15) (hl.add (t := 16) (hl.add (t := 17) (hl.nil) rfl) rfl) rfl) rfl) rfl) rfl) rfl) rfl; clear hl; have hl := hl2; clear hl2
                    refine then_normal ?_
                    first | refine ⟨⟨⟨i + 1, rv', av', P2, mk, ms, Em, bid, .slice up2 us.length uc2, us.reverse, true, (Zc ++ Fu) ++ Fx⟩, km9, N9⟩, (by show n - (i + 1) < n - i; omega), ⟨⟨by show i + 1 ≤ n; omega, hN3, hP3, hInv3, hrow, hmok, (by show ms.length ≤ i + 1; omega), ⟨Fu, by show Row _ us.reverse.length _ _ _ _; rw [List.length_reverse]; exact hrowu, fun x hx => List.mem_append_left _ (List.mem_append_right _ hx)⟩, fun c hc => huok c (List.mem_reverse.1 hc), by show us.reverse.length ≤ 1000000; rw [List.length_reverse]; omega⟩, (by have e9 := case_ok hcase9 hchk hst2; rw [e9] at hM9; exact hM9.mono (fun x hx => by simp [hx]))⟩, hl.addE (t := 17) (hl.addE (t := 6) (hl.addE (t := 8) (hl.addE (t := 1) (hl.addE (t := 5) (hl.addE (t := 7) (hl.addE (t := 15) (hl.addE (t := 16) (hl.nil) rfl (by first | rfl | rfl)) rfl (by first | rfl | rfl)) rfl (by first | rfl | rfl)) rfl (by first | rfl | rfl)) rfl (by first | rfl | rfl)) rfl (by first | rfl | rfl)) rfl (by first | rfl | rfl)) rfl (by first | rfl | rfl), hh.keep (by repeat (first | exact keeps_nil | apply keeps_cons (by repeat (first | exact find_head | apply find_tail)) (by first  | rfl) | exact keeps_self | exact keeps_left | exact keeps_right | exact keeps_swap | apply keeps_mv))⟩ | refine ⟨⟨⟨i + 1, rv', av', P2, .slice none 0 0, [], [], did, .slice up2 us.length uc2, us.reverse, true, Zc ++ (Fu ++ Fx)⟩, km9, N9⟩, (by show n - (i + 1) < n - i; omega), ⟨⟨by show i + 1 ≤ n; omega, (by rw [← List.append_assoc]; exact hN3), hP3, hInv3, Row.nil _ _, (fun c hc => by cases hc), Nat.zero_le _, ⟨Fu, by show Row _ us.reverse.length _ _ _ _; rw [List.length_reverse]; exact hrowu, fun x hx => List.mem_append_right _ (List.mem_append_left _ hx)⟩, fun c hc => huok c (List.mem_reverse.1 hc), by show us.reverse.length ≤ 1000000; rw [List.length_reverse]; omega⟩, (by have e9 := case_ok hcase9 hchk hst2; rw [e9] at hM9; exact hM9.mono (fun x hx => by simp [hx]))⟩, hl.addE (t := 17) (hl.addE (t := 6) (hl.addE (t := 8) (hl.addE (t := 1) (hl.addE (t := 5) (hl.addE (t := 7) (hl.addE (t := 15) (hl.addE (t := 16) (hl.nil) rfl (by first | rfl | rfl)) rfl (by first | rfl | rfl)) rfl (by first | rfl | rfl)) rfl (by first | rfl | rfl)) rfl (by first | rfl | rfl)) rfl (by first | rfl | rfl)) rfl (by first | rfl | rfl)) rfl (by first | rfl | rfl), hh.keep (by repeat (first | exact keeps_nil | apply keeps_cons (by repeat (first | exact find_head | apply find_tail)) (by first  | rfl) | exact keeps_self | exact keeps_left | exact keeps_right | exact keeps_swap | apply keeps_mv))⟩ | refine ⟨⟨⟨i + 1, rv', av', P2, mk, ms, Em, iid, .slice up2 us.length uc2, us.reverse, true, (Zc ++ Fu) ++ Fx⟩, km9, N9⟩, (by show n - (i + 1) < n - i; omega), ⟨⟨by show i + 1 ≤ n; omega, hN3, hP3, hInv3, hrow, hmok, (by show ms.length ≤ i + 1; omega), ⟨Fu, by show Row _ us.reverse.length _ _ _ _; rw [List.length_reverse]; exact hrowu, fun x hx => List.mem_append_left _ (List.mem_append_right _ hx)⟩, fun c hc => huok c (List.mem_reverse.1 hc), by show us.reverse.length ≤ 1000000; rw [List.length_reverse]; omega⟩, (by have e9 := case_ok hcase9 hchk hst2; rw [e9] at hM9; exact hM9.mono (fun x hx => by simp [hx]))⟩, hl.addE (t := 17) (hl.addE (t := 6) (hl.addE (t := 8) (hl.addE (t := 1) (hl.addE (t := 5) (hl.addE (t := 7) (hl.addE (t := 15) (hl.addE (t := 16) (hl.nil) rfl (by first | rfl | rfl)) rfl (by first | rfl | rfl)) rfl (by first | rfl | rfl)) rfl (by first | rfl | rfl)) rfl (by first | rfl | rfl)) rfl (by first | rfl | rfl)) rfl (by first | rfl | rfl)) rfl (by first | rfl | rfl), hh.keep (by repeat (first | exact keeps_nil | apply keeps_cons (by repeat (first | exact find_head | apply find_tail)) (by first  | rfl) | exact keeps_self | exact keeps_left | exact keeps_right | exact keeps_swap | apply keeps_mv))⟩ | refine ⟨⟨⟨i + 1, rvs, avs, P, mk, ms, Em, iid, iv, is, ap, Zc⟩, km9, N9⟩, (by show n - (i + 1) < n - i; omega), ⟨⟨by show i + 1 ≤ n; omega, hNb, hPok, hinv, hrow, hmok, (by show ms.length ≤ i + 1; omega), (by obtain ⟨Ei, h1, h2⟩ := hirow; exact ⟨Ei, h1, fun x hx => hZs x (h2 x hx)⟩), hiok, hilen⟩, (by have e9 := case_bad hcase9 hbad; rw [e9] at hM9; exact hM9)⟩, hl.addE (t := 17) (hl.addE (t := 6) (hl.addE (t := 8) (hl.addE (t := 1) (hl.addE (t := 5) (hl.addE (t := 7) (hl.addE (t := 15) (hl.addE (t := 16) (hl.nil) rfl (by first | rfl | rfl)) rfl (by first | rfl | rfl)) rfl (by first | rfl | rfl)) rfl (by first | rfl | rfl)) rfl (by first | rfl | rfl)) rfl (by first | rfl | rfl)) rfl (by first | rfl | rfl)) rfl (by first | rfl | rfl), hh.keep (by repeat (first | exact keeps_nil | apply keeps_cons (by repeat (first | exact find_head | apply find_tail)) (by first  | rfl) | exact keeps_self | exact keeps_left | exact keeps_right | exact keeps_swap | apply keeps_mv))⟩ | refine ⟨⟨⟨i + 1, rvs, avs, P, mk, ms, Em, iid, .slice bp is.length bcap, is, ap, Zc⟩, km9, N9⟩, (by show n - (i + 1) < n - i; omega), ⟨⟨by show i + 1 ≤ n; omega, hNb, hPok, hinv, hrow, hmok, (by show ms.length ≤ i + 1; omega), (by obtain ⟨Ei, h1, h2⟩ := hirow; exact ⟨Ei, h1, fun x hx => hZs x (h2 x hx)⟩), hiok, hilen⟩, (by have e9 := case_bad hcase9 hbad; rw [e9] at hM9; exact hM9)⟩, hl.addE (t := 17) (hl.addE (t := 6) (hl.addE (t := 8) (hl.addE (t := 1) (hl.addE (t := 5) (hl.addE (t := 7) (hl.addE (t := 15) (hl.addE (t := 16) (hl.nil) rfl (by first | rfl | rfl)) rfl (by first | rfl | rfl)) rfl (by first | rfl | rfl)) rfl (by first | rfl | rfl)) rfl (by first | rfl | rfl)) rfl (by first | rfl | rfl)) rfl (by first | rfl | rfl)) rfl (by first | rfl | rfl), hh.keep (by repeat (first | exact keeps_nil | apply keeps_cons (by repeat (first | exact find_head | apply find_tail)) (by first  | rfl) | exact keeps_self | exact keeps_left | exact keeps_right | exact keeps_swap | apply keeps_mv))⟩ | refine ⟨⟨⟨i + 1, rvs, avs, P, .slice none 0 0, [], [], iid, iv, is, ap, Zc⟩, km9, N9⟩, (by show n - (i + 1) < n - i; omega), ⟨⟨by show i + 1 ≤ n; omega, hNb, hPok, hinv, Row.nil _ _, (fun c hc => by cases hc), Nat.zero_le _, (by obtain ⟨Ei, h1, h2⟩ := hirow; exact ⟨Ei, h1, fun x hx => hZs x (h2 x hx)⟩), hiok, hilen⟩, (by have e9 := case_bad hcase9 hbad; rw [e9] at hM9; exact hM9)⟩, hl.addE (t := 17) (hl.addE (t := 6) (hl.addE (t := 8) (hl.addE (t := 1) (hl.addE (t := 5) (hl.addE (t := 7) (hl.addE (t := 15) (hl.addE (t := 16) (hl.nil) rfl (by first | rfl | rfl)) rfl (by first | rfl | rfl)) rfl (by first | rfl | rfl)) rfl (by first | rfl | rfl)) rfl (by first | rfl | rfl)) rfl (by first | rfl | rfl)) rfl (by first | rfl | rfl)) rfl (by first | rfl | rfl), hh.keep (by repeat (first | exact keeps_nil | apply keeps_cons (by repeat (first | exact find_head | apply find_tail)) (by first  | rfl) | exact keeps_self | exact keeps_left | exact keeps_right | exact keeps_swap | apply keeps_mv))⟩ | refine ⟨⟨⟨i + 1, rvs, avs, P, rv2, ms ++ [⟨ckd, cdv, cpr, cix, cup, cra, crl, cvia, cpm, cda, cdl, ccl⟩], E2, iid, iv, is, ap, Z⟩, km, NN⟩, (by show n - (i + 1) < n - i; omega), ⟨⟨by show i + 1 ≤ n; omega, hnet, hPok, hinv, (by show Row rv2 (ms ++ [_]).length _ _ _ _; rw [List.length_append, chs_snoc]; exact hR2), (fun c hc => by rcases List.mem_append.1 hc with h | h; exact hmok c h; (rw [List.mem_singleton] at h; subst h; exact hdok.ch)), (by show (ms ++ [_]).length ≤ i + 1; rw [List.length_append]; show ms.length + 1 ≤ i + 1; omega), hirow, hiok, hilen⟩, hMs⟩, hl.addE (t := 17) (hl.addE (t := 6) (hl.addE (t := 8) (hl.addE (t := 1) (hl.addE (t := 5) (hl.addE (t := 7) (hl.addE (t := 15) (hl.addE (t := 16) (hl.nil) rfl (by first | rfl | rfl)) rfl (by first | rfl | rfl)) rfl (by first | rfl | rfl)) rfl (by first | rfl | rfl)) rfl (by first | rfl | rfl)) rfl (by first | rfl | rfl)) rfl (by first | rfl | rfl)) rfl (by first | rfl | rfl), hh.keep (by repeat (first | exact keeps_nil | apply keeps_cons (by repeat (first | exact find_head | apply find_tail)) (by first  | rfl) | exact keeps_self | exact keeps_left | exact keeps_right | exact keeps_swap | apply keeps_mv))⟩ | refine ⟨⟨⟨i + 1, rvs, avs, P, mk, ms, Em, iid, iv, is, ap, Z⟩, km, NN⟩, (by show n - (i + 1) < n - i; omega), ⟨⟨by show i + 1 ≤ n; omega, hnet, hPok, hinv, hrow, hmok, (by show ms.length ≤ i + 1; omega), hirow, hiok, hilen⟩, hMs⟩, hl.addE (t := 17) (hl.addE (t := 6) (hl.addE (t := 8) (hl.addE (t := 1) (hl.addE (t := 5) (hl.addE (t := 7) (hl.addE (t := 15) (hl.addE (t := 16) (hl.nil) rfl (by first | rfl | rfl)) rfl (by first | rfl | rfl)) rfl (by first | rfl | rfl)) rfl (by first | rfl | rfl)) rfl (by first | rfl | rfl)) rfl (by first | rfl | rfl)) rfl (by first | rfl | rfl)) rfl (by first | rfl | rfl), hh.keep (by repeat (first | exact keeps_nil | apply keeps_cons (by repeat (first | exact find_head | apply find_tail)) (by first  | rfl) | exact keeps_self | exact keeps_left | exact keeps_right | exact keeps_swap | apply keeps_mv))⟩
                  ·
                    try simp only [List.cons_append, List.nil_append, List.append_nil] at hh
                    exact (ok_not_bad hchk hst hbad).elim
                ·
                  try simp only [List.cons_append, List.nil_append, List.append_nil] at hh
                  refine wl (wl_val hl rfl trivial (r_move hl rfl) ?_)
                  clear hl a; intro a hl
                  refine wl (wl_val hl rfl trivial (r_extract hl rfl (by simp only [List.getElem?_toArray, List.getElem?_cons_zero, List.getElem?_cons_succ]; rfl)) ?_)
                  clear hl a; intro a hl
                  refine wl (wl_val hl rfl trivial (r_extract hl rfl (by simp only [List.getElem?_toArray, List.getElem?_cons_zero, List.getElem?_cons_succ]; rfl)) ?_)
                  clear hl a; intro a hl
                  refine wl (w_alloc hl hh rfl trivial zero37 rfl ?_)
                  clear hl hh a w; intro k13 a w hl hh
                  refine wl (w_storeA hl hh trivial agg37 rfl rfl (by repeat (first | exact find_head | apply find_tail)) (by first | rfl | (simp; done)) (by first | (simp; done) | (simp; omega)) (by first | rfl | (simp; done) | (simp [hone1, hone2]; done)) (by first | (simp only [setL, List.getElem?_cons_zero, List.getElem?_cons_succ, Value.cells, List.take_zero, List.take_succ_cons, List.take_nil, List.drop_zero, List.drop_succ_cons, List.drop_nil, List.length_cons, List.length_nil, List.cons_append, List.nil_append, List.append_nil, Nat.zero_add, Nat.add_zero, Nat.reduceAdd, Nat.reduceBEq, Nat.reduceEqDiff, Nat.ble, BEq.rfl, Bool.and_true, Bool.and_self, cond_true, beq_self_eq_true]; rfl)) ?_)
                  clear hh w; intro w hh
                  refine wl (wl_val hl rfl trivial (r_assign hl rfl) ?_)
                  clear hl a; intro a hl
                  refine w_nil ?_
                  have hl2 := hl.add (t := 1) (hl.add (t := 5) (hl.add (t := 6) (hl.add (t := 7) (hl.add (t := 8) (hl.add (t := 11) (hl.add (t := 13) (hl.add (t := 14) (hl.add (t := 15) (hl.add (t := 16) (hl.add (t := 17) (hl.nil) rfl) rfl) rfl) rfl) rfl) rfl) rfl) rfl) rfl) rfl) rfl; clear hl; have hl := hl2; clear hl2
                  refine then_normal ?_
                  refine c_seq ?_
                  refine c_region ?_
                  refine wl (wl_val hl rfl trivial (r_move hl rfl) ?_)
                  clear hl a; intro a hl
                  first | refine wl (wl_val hl rfl trivial (r_eql_ifcN hl rfl ifc39) ?_) | refine wl (wl_val hl rfl trivial (r_eql_ifcS hl rfl ifc39) ?_)
                  clear hl a; intro a hl
                  refine w_nil ?_
                  have hl2 := hl.add (t := 1) (hl.add (t := 5) (hl.add (t := 6) (hl.add (t := 7) (hl.add (t := 8) (hl.add (t := 11) (hl.add (t := 13) (hl.add (t := 15) (hl.add (t := 16) (hl.add (t := 17) (hl.add (t := 63) (hl.nil) rfl) rfl) rfl) rfl) rfl) rfl) rfl) rfl) rfl) rfl) rfl; clear hl; have hl := hl2; clear hl2
                  refine then_normal ?_
                  refine c_condF hl rfl ?_
                  refine wp_skip ?_
                  refine blk_normal ?_
                  refine then_normal ?_
                  refine c_region ?_
                  first | refine wl (wl_val hl rfl trivial (r_add hl rfl rfl (by simp only [Fits]; omega)) ?_) | refine wl (wl_val hl rfl trivial (r_addW hl rfl rfl) ?_)
                  clear hl a; intro a hl
                  refine wl (wl_val hl rfl trivial (r_move hl rfl) ?_)
                  clear hl a; intro a hl
                  refine w_nil ?_
                  have hl2 := hl.add (t := 1) (hl.add (t := 5) (hl.add (t := 6) (hl.add (t := 7) (hl.add (t := 8) (hl.add (t := 15) (hl.add (t := 16) (hl.add (t := 17) (hl.nil) rfl) rfl) rfl) rfl) rfl) rfl) rfl) rfl; clear hl; have hl := hl2; clear hl2
                  refine then_normal ?_
                  first | refine ⟨⟨⟨i + 1, rv', av', P2, mk, ms, Em, bid, .slice up2 us.length uc2, us.reverse, true, (Zc ++ Fu) ++ Fx⟩, km9, N9⟩, (by show n - (i + 1) < n - i; omega), ⟨⟨by show i + 1 ≤ n; omega, hN3, hP3, hInv3, hrow, hmok, (by show ms.length ≤ i + 1; omega), ⟨Fu, by show Row _ us.reverse.length _ _ _ _; rw [List.length_reverse]; exact hrowu, fun x hx => List.mem_append_left _ (List.mem_append_right _ hx)⟩, fun c hc => huok c (List.mem_reverse.1 hc), by show us.reverse.length ≤ 1000000; rw [List.length_reverse]; omega⟩, (by have e9 := case_ok hcase9 hchk hst2; rw [e9] at hM9; exact hM9.mono (fun x hx => by simp [hx]))⟩, hl.addE (t := 17) (hl.addE (t := 6) (hl.addE (t := 8) (hl.addE (t := 1) (hl.addE (t := 5) (hl.addE (t := 7) (hl.addE (t := 15) (hl.addE (t := 16) (hl.nil) rfl (by first | rfl | rfl)) rfl (by first | rfl | rfl)) rfl (by first | rfl | rfl)) rfl (by first | rfl | rfl)) rfl (by first | rfl | rfl)) rfl (by first | rfl | rfl)) rfl (by first | rfl | rfl)) rfl (by first | rfl | rfl), hh.keep (by repeat (first | exact keeps_nil | apply keeps_cons (by repeat (first | exact find_head | apply find_tail)) (by first  | rfl) | exact keeps_self | exact keeps_left | exact keeps_right | exact keeps_swap | apply keeps_mv))⟩ | refine ⟨⟨⟨i + 1, rv', av', P2, .slice none 0 0, [], [], did, .slice up2 us.length uc2, us.reverse, true, Zc ++ (Fu ++ Fx)⟩, km9, N9⟩, (by show n - (i + 1) < n - i; omega), ⟨⟨by show i + 1 ≤ n; omega, (by rw [← List.append_assoc]; exact hN3), hP3, hInv3, Row.nil _ _, (fun c hc => by cases hc), Nat.zero_le _, ⟨Fu, by show Row _ us.reverse.length _ _ _ _; rw [List.length_reverse]; exact hrowu, fun x hx => List.mem_append_right _ (List.mem_append_left _ hx)⟩, fun c hc => huok c (List.mem_reverse.1 hc), by show us.reverse.length ≤ 1000000; rw [List.length_reverse]; omega⟩, (by have e9 := case_ok hcase9 hchk hst2; rw [e9] at hM9; exact hM9.mono (fun x hx => by simp [hx]))⟩, hl.addE (t := 17) (hl.addE (t := 6) (hl.addE (t := 8) (hl.addE (t := 1) (hl.addE (t := 5) (hl.addE (t := 7) (hl.addE (t := 15) (hl.addE (t := 16) (hl.nil) rfl (by first | rfl | rfl)) rfl (by first | rfl | rfl)) rfl (by first | rfl | rfl)) rfl (by first | rfl | rfl)) rfl (by first | rfl | rfl)) rfl (by first | rfl | rfl)) rfl (by first | rfl | rfl)) rfl (by first | rfl | rfl), hh.keep (by repeat (first | exact keeps_nil | apply keeps_cons (by repeat (first | exact find_head | apply find_tail)) (by first  | rfl) | exact keeps_self | exact keeps_left | exact keeps_right | exact keeps_swap | apply keeps_mv))⟩ | refine ⟨⟨⟨i + 1, rv', av', P2, mk, ms, Em, iid, .slice up2 us.length uc2, us.reverse, true, (Zc ++ Fu) ++ Fx⟩, km9, N9⟩, (by show n - (i + 1) < n - i; omega), ⟨⟨by show i + 1 ≤ n; omega, hN3, hP3, hInv3, hrow, hmok, (by show ms.length ≤ i + 1; omega), ⟨Fu, by show Row _ us.reverse.length _ _ _ _; rw [List.length_reverse]; exact hrowu, fun x hx => List.mem_append_left _ (List.mem_append_right _ hx)⟩, fun c hc => huok c (List.mem_reverse.1 hc), by show us.reverse.length ≤ 1000000; rw [List.length_reverse]; omega⟩, (by have e9 := case_ok hcase9 hchk hst2; rw [e9] at hM9; exact hM9.mono (fun x hx => by simp [hx]))⟩, hl.addE (t := 17) (hl.addE (t := 6) (hl.addE (t := 8) (hl.addE (t := 1) (hl.addE (t := 5) (hl.addE (t := 7) (hl.addE (t := 15) (hl.addE (t := 16) (hl.nil) rfl (by first | rfl | rfl)) rfl (by first | rfl | rfl)) rfl (by first | rfl | rfl)) rfl (by first | rfl | rfl)) rfl (by first | rfl | rfl)) rfl (by first | rfl | rfl)) rfl (by first | rfl | rfl)) rfl (by first | rfl | rfl), hh.keep (by repeat (first | exact keeps_nil | apply keeps_cons (by repeat (first | exact find_head | apply find_tail)) (by first  | rfl) | exact keeps_self | exact keeps_left | exact keeps_right | exact keeps_swap | apply keeps_mv))⟩ | refine ⟨⟨⟨i + 1, rvs, avs, P, mk, ms, Em, iid, iv, is, ap, Zc⟩, km9, N9⟩, (by show n - (i + 1) < n - i; omega), ⟨⟨by show i + 1 ≤ n; omega, hNb, hPok, hinv, hrow, hmok, (by show ms.length ≤ i + 1; omega), (by obtain ⟨Ei, h1, h2⟩ := hirow; exact ⟨Ei, h1, fun x hx => hZs x (h2 x hx)⟩), hiok, hilen⟩, (by have e9 := case_bad hcase9 hbad; rw [e9] at hM9; exact hM9)⟩, hl.addE (t := 17) (hl.addE (t := 6) (hl.addE (t := 8) (hl.addE (t := 1) (hl.addE (t := 5) (hl.addE (t := 7) (hl.addE (t := 15) (hl.addE (t := 16) (hl.nil) rfl (by first | rfl | rfl)) rfl (by first | rfl | rfl)) rfl (by first | rfl | rfl)) rfl (by first | rfl | rfl)) rfl (by first | rfl | rfl)) rfl (by first | rfl | rfl)) rfl (by first | rfl | rfl)) rfl (by first | rfl | rfl), hh.keep (by repeat (first | exact keeps_nil | apply keeps_cons (by repeat (first | exact find_head | apply find_tail)) (by first  | rfl) | exact keeps_self | exact keeps_left | exact keeps_right | exact keeps_swap | apply keeps_mv))⟩ | refine ⟨⟨⟨i + 1, rvs, avs, P, mk, ms, Em, iid, .slice bp is.length bcap, is, ap, Zc⟩, km9, N9⟩, (by show n - (i + 1) < n - i; omega), ⟨⟨by show i + 1 ≤ n; omega, hNb, hPok, hinv, hrow, hmok, (by show ms.length ≤ i + 1; omega), (by obtain ⟨Ei, h1, h2⟩ := hirow; exact ⟨Ei, h1, fun x hx => hZs x (h2 x hx)⟩), hiok, hilen⟩, (by have e9 := case_bad hcase9 hbad; rw [e9] at hM9; exact hM9)⟩, hl.addE (t := 17) (hl.addE (t := 6) (hl.addE (t := 8) (hl.addE (t := 1) (hl.addE (t := 5) (hl.addE (t := 7) (hl.addE (t := 15) (hl.addE (t := 16) (hl.nil) rfl (by first | rfl | rfl)) rfl (by first | rfl | rfl)) rfl (by first | rfl | rfl)) rfl (by first | rfl | rfl)) rfl (by first | rfl | rfl)) rfl (by first | rfl | rfl)) rfl (by first | rfl | rfl)) rfl (by first | rfl | rfl), hh.keep (by repeat (first | exact keeps_nil | apply keeps_cons (by repeat (first | exact find_head | apply find_tail)) (by first  | rfl) | exact keeps_self | exact keeps_left | exact keeps_right | exact keeps_swap | apply keeps_mv))⟩ | refine ⟨⟨⟨i + 1, rvs, avs, P, .slice none 0 0, [], [], iid, iv, is, ap, Zc⟩, km9, N9⟩, (by show n - (i + 1) < n - i; omega), ⟨⟨by show i + 1 ≤ n; omega, hNb, hPok, hinv, Row.nil _ _, (fun c hc => by cases hc), Nat.zero_le _, (by obtain ⟨Ei, h1, h2⟩ := hirow; exact ⟨Ei, h1, fun x hx => hZs x (h2 x hx)⟩), hiok, hilen⟩, (by have e9 := case_bad hcase9 hbad; rw [e9] at hM9; exact hM9)⟩, hl.addE (t := 17) (hl.addE (t := 6) (hl.addE (t := 8) (hl.addE (t := 1) (hl.addE (t := 5) (hl.addE (t := 7) (hl.addE (t := 15) (hl.addE (t := 16) (hl.nil) rfl (by first | rfl | rfl)) rfl (by first | rfl | rfl)) rfl (by first | rfl | rfl)) rfl (by first | rfl | rfl)) rfl (by first | rfl | rfl)) rfl (by first | rfl | rfl)) rfl (by first | rfl | rfl)) rfl (by first | rfl | rfl), hh.keep (by repeat (first | exact keeps_nil | apply keeps_cons (by repeat (first | exact find_head | apply find_tail)) (by first  | rfl) | exact keeps_self | exact keeps_left | exact keeps_right | exact keeps_swap | apply keeps_mv))⟩ | refine ⟨⟨⟨i + 1, rvs, avs, P, rv2, ms ++ [⟨ckd, cdv, cpr, cix, cup, cra, crl, cvia, cpm, cda, cdl, ccl⟩], E2, iid, iv, is, ap, Z⟩, km, NN⟩, (by show n - (i + 1) < n - i; omega), ⟨⟨by show i + 1 ≤ n; omega, hnet, hPok, hinv, (by show Row rv2 (ms ++ [_]).length _ _ _ _; rw [List.length_append, chs_snoc]; exact hR2), (fun c hc => by rcases List.mem_append.1 hc with h | h; exact hmok c h; (rw [List.mem_singleton] at h; subst h; exact hdok.ch)), (by show (ms ++ [_]).length ≤ i + 1; rw [List.length_append]; show ms.length + 1 ≤ i + 1; omega), hirow, hiok, hilen⟩, hMs⟩, hl.addE (t := 17) (hl.addE (t := 6) (hl.addE (t := 8) (hl.addE (t := 1) (hl.addE (t := 5) (hl.addE (t := 7) (hl.addE (t := 15) (hl.addE (t := 16) (hl.nil) rfl (by first | rfl | rfl)) rfl (by first | rfl | rfl)) rfl (by first | rfl | rfl)) rfl (by first | rfl | rfl)) rfl (by first | rfl | rfl)) rfl (by first | rfl | rfl)) rfl (by first | rfl | rfl)) rfl (by first | rfl | rfl), hh.keep (by repeat (first | exact keeps_nil | apply keeps_cons (by repeat (first | exact find_head | apply find_tail)) (by first  | rfl) | exact keeps_self | exact keeps_left | exact keeps_right | exact keeps_swap | apply keeps_mv))⟩ | refine ⟨⟨⟨i + 1, rvs, avs, P, mk, ms, Em, iid, iv, is, ap, Z⟩, km, NN⟩, (by show n - (i + 1) < n - i; omega), ⟨⟨by show i + 1 ≤ n; omega, hnet, hPok, hinv, hrow, hmok, (by show ms.length ≤ i + 1; omega), hirow, hiok, hilen⟩, hMs⟩, hl.addE (t := 17) (hl.addE (t := 6) (hl.addE (t := 8) (hl.addE (t := 1) (hl.addE (t := 5) (hl.addE (t := 7) (hl.addE (t := 15) (hl.addE (t := 16) (hl.nil) rfl (by first | rfl | rfl)) rfl (by first | rfl | rfl)) rfl (by first | rfl | rfl)) rfl (by first | rfl | rfl)) rfl (by first | rfl | rfl)) rfl (by first | rfl | rfl)) rfl (by first | rfl | rfl)) rfl (by first | rfl | rfl), hh.keep (by repeat (first | exact keeps_nil | apply keeps_cons (by repeat (first | exact find_head | apply find_tail)) (by first  | rfl) | exact keeps_self | exact keeps_left | exact keeps_right | exact keeps_swap | apply keeps_mv))⟩
          · intro hc5
            try simp only [decide_eq_true_eq, decide_eq_false_iff_not, Bool.not_eq_true', Bool.not_eq_false', Bool.not_eq_true, Bool.not_eq_false, Bool.and_eq_true, Bool.or_eq_true, Bool.and_eq_false_iff, Bool.or_eq_false_iff, Bool.not_not, ne_eq, Int.not_lt, Int.not_le, Decidable.not_not, beq_iff_eq, bne_iff_ne] at hc5
            refine wp_exit ?_
            refine blk_exit_ne rfl ?_
            refine then_exit ?_
            refine blk_exit ?_
            refine then_normal ?_
            refine c_region ?_
            first | refine wl (wl_val hl rfl trivial (r_add hl rfl rfl (by simp only [Fits]; omega)) ?_) | refine wl (wl_val hl rfl trivial (r_addW hl rfl rfl) ?_)
            clear hl a; intro a hl
            refine wl (wl_val hl rfl trivial (r_move hl rfl) ?_)
            clear hl a; intro a hl
            refine w_nil ?_
            have hl2 := hl.add (t := 1) (hl.add (t := 5) (hl.add (t := 6) (hl.add (t := 7) (hl.add (t := 8) (hl.add (t := 15) (hl.add (t := 16) (hl.add (t := 17) (hl.nil) rfl) rfl) rfl) rfl) rfl) rfl) rfl) rfl; clear hl; have hl := hl2; clear hl2
            refine then_normal ?_
            first | refine ⟨⟨⟨i + 1, rv', av', P2, mk, ms, Em, bid, .slice up2 us.length uc2, us.reverse, true, (Zc ++ Fu) ++ Fx⟩, km9, N9⟩, (by show n - (i + 1) < n - i; omega), ⟨⟨by show i + 1 ≤ n; omega, hN3, hP3, hInv3, hrow, hmok, (by show ms.length ≤ i + 1; omega), ⟨Fu, by show Row _ us.reverse.length _ _ _ _; rw [List.length_reverse]; exact hrowu, fun x hx => List.mem_append_left _ (List.mem_append_right _ hx)⟩, fun c hc => huok c (List.mem_reverse.1 hc), by show us.reverse.length ≤ 1000000; rw [List.length_reverse]; omega⟩, (by have e9 := case_ok hcase9 hchk hst2; rw [e9] at hM9; exact hM9.mono (fun x hx => by simp [hx]))⟩, hl.addE (t := 17) (hl.addE (t := 6) (hl.addE (t := 8) (hl.addE (t := 1) (hl.addE (t := 5) (hl.addE (t := 7) (hl.addE (t := 15) (hl.addE (t := 16) (hl.nil) rfl (by first | rfl | rfl)) rfl (by first | rfl | rfl)) rfl (by first | rfl | rfl)) rfl (by first | rfl | rfl)) rfl (by first | rfl | rfl)) rfl (by first | rfl | rfl)) rfl (by first | rfl | rfl)) rfl (by first | rfl | rfl), hh.keep (by repeat (first | exact keeps_nil | apply keeps_cons (by repeat (first | exact find_head | apply find_tail)) (by first  | rfl) | exact keeps_self | exact keeps_left | exact keeps_right | exact keeps_swap | apply keeps_mv))⟩ | refine ⟨⟨⟨i + 1, rv', av', P2, .slice none 0 0, [], [], did, .slice up2 us.length uc2, us.reverse, true, Zc ++ (Fu ++ Fx)⟩, km9, N9⟩, (by show n - (i + 1) < n - i; omega), ⟨⟨by show i + 1 ≤ n; omega, (by rw [← List.append_assoc]; exact hN3), hP3, hInv3, Row.nil _ _, (fun c hc => by cases hc), Nat.zero_le _, ⟨Fu, by show Row _ us.reverse.length _ _ _ _; rw [List.length_reverse]; exact hrowu, fun x hx => List.mem_append_right _ (List.mem_append_left _ hx)⟩, fun c hc => huok c (List.mem_reverse.1 hc), by show us.reverse.length ≤ 1000000; rw [List.length_reverse]; omega⟩, (by have e9 := case_ok hcase9 hchk hst2; rw [e9] at hM9; exact hM9.mono (fun x hx => by simp [hx]))⟩, hl.addE (t := 17) (hl.addE (t := 6) (hl.addE (t := 8) (hl.addE (t := 1) (hl.addE (t := 5) (hl.addE (t := 7) (hl.addE (t := 15) (hl.addE (t := 16) (hl.nil) rfl (by first | rfl | rfl)) rfl (by first | rfl | rfl)) rfl (by first | rfl | rfl)) rfl (by first | rfl | rfl)) rfl (by first | rfl | rfl)) rfl (by first | rfl | rfl)) rfl (by first | rfl | rfl)) rfl (by first | rfl | rfl), hh.keep (by repeat (first | exact keeps_nil | apply keeps_cons (by repeat (first | exact find_head | apply find_tail)) (by first  | rfl) | exact keeps_self | exact keeps_left | exact keeps_right | exact keeps_swap | apply keeps_mv))⟩ | refine ⟨⟨⟨i + 1, rv', av', P2, mk, ms, Em, iid, .slice up2 us.length uc2, us.reverse, true, (Zc ++ Fu) ++ Fx⟩, km9, N9⟩, (by show n - (i + 1) < n - i; omega), ⟨⟨by show i + 1 ≤ n; omega, hN3, hP3, hInv3, hrow, hmok, (by show ms.length ≤ i + 1; omega), ⟨Fu, by show Row _ us.reverse.length _ _ _ _; rw [List.length_reverse]; exact hrowu, fun x hx => List.mem_append_left _ (List.mem_append_right _ hx)⟩, fun c hc => huok c (List.mem_reverse.1 hc), by show us.reverse.length ≤ 1000000; rw [List.length_reverse]; omega⟩, (by have e9 := case_ok hcase9 hchk hst2; rw [e9] at hM9; exact hM9.mono (fun x hx => by simp [hx]))⟩, hl.addE (t := 17) (hl.addE (t := 6) (hl.addE (t := 8) (hl.addE (t := 1) (hl.addE (t := 5) (hl.addE (t := 7) (hl.addE (t := 15) (hl.addE (t := 16) (hl.nil) rfl (by first | rfl | rfl)) rfl (by first | rfl | rfl)) rfl (by first | rfl | rfl)) rfl (by first | rfl | rfl)) rfl (by first | rfl | rfl)) rfl (by first | rfl | rfl)) rfl (by first | rfl | rfl)) rfl (by first | rfl | rfl), hh.keep (by repeat (first | exact keeps_nil | apply keeps_cons (by repeat (first | exact find_head | apply find_tail)) (by first  | rfl) | exact keeps_self | exact keeps_left | exact keeps_right | exact keeps_swap | apply keeps_mv))⟩ | refine ⟨⟨⟨i + 1, rvs, avs, P, mk, ms, Em, iid, iv, is, ap, Zc⟩, km9, N9⟩, (by show n - (i + 1) < n - i; omega), ⟨⟨by show i + 1 ≤ n; omega, hNb, hPok, hinv, hrow, hmok, (by show ms.length ≤ i + 1; omega), (by obtain ⟨Ei, h1, h2⟩ := hirow; exact ⟨Ei, h1, fun x hx => hZs x (h2 x hx)⟩), hiok, hilen⟩, (by have e9 := case_bad hcase9 hbad; rw [e9] at hM9; exact hM9)⟩, hl.addE (t := 17) (hl.addE (t := 6) (hl.addE (t := 8) (hl.addE (t := 1) (hl.addE (t := 5) (hl.addE (t := 7) (hl.addE (t := 15) (hl.addE (t := 16) (hl.nil) rfl (by first | rfl | rfl)) rfl (by first | rfl | rfl)) rfl (by first | rfl | rfl)) rfl (by first | rfl | rfl)) rfl (by first | rfl | rfl)) rfl (by first | rfl | rfl)) rfl (by first | rfl | rfl)) rfl (by first | rfl | rfl), hh.keep (by repeat (first | exact keeps_nil | apply keeps_cons (by repeat (first | exact find_head | apply find_tail)) (by first  | rfl) | exact keeps_self | exact keeps_left | exact keeps_right | exact keeps_swap | apply keeps_mv))⟩ | refine ⟨⟨⟨i + 1, rvs, avs, P, mk, ms, Em, iid, .slice bp is.length bcap, is, ap, Zc⟩, km9, N9⟩, (by show n - (i + 1) < n - i; omega), ⟨⟨by show i + 1 ≤ n; omega, hNb, hPok, hinv, hrow, hmok, (by show ms.length ≤ i + 1; omega), (by obtain ⟨Ei, h1, h2⟩ := hirow; exact ⟨Ei, h1, fun x hx => hZs x (h2 x hx)⟩), hiok, hilen⟩, (by have e9 := case_bad hcase9 hbad; rw [e9] at hM9; exact hM9)⟩, hl.addE (t := 17) (hl.addE (t := 6) (hl.addE (t := 8) (hl.addE (t := 1) (hl.addE (t := 5) (hl.addE (t := 7) (hl.addE (t := 15) (hl.addE (t := 16) (hl.nil) rfl (by first | rfl | rfl)) rfl (by first | rfl | rfl)) rfl (by first | rfl | rfl)) rfl (by first | rfl | rfl)) rfl (by first | rfl | rfl)) rfl (by first | rfl | rfl)) rfl (by first | rfl | rfl)) rfl (by first | rfl | rfl), hh.keep (by repeat (first | exact keeps_nil | apply keeps_cons (by repeat (first | exact find_head | apply find_tail)) (by first  | rfl) | exact keeps_self | exact keeps_left | exact keeps_right | exact keeps_swap | apply keeps_mv))⟩ | refine ⟨⟨⟨i + 1, rvs, avs, P, .slice none 0 0, [], [], iid, iv, is, ap, Zc⟩, km9, N9⟩, (by show n - (i + 1) < n - i; omega), ⟨⟨by show i + 1 ≤ n; omega, hNb, hPok, hinv, Row.nil _ _, (fun c hc => by cases hc), Nat.zero_le _, (by obtain ⟨Ei, h1, h2⟩ := hirow; exact ⟨Ei, h1, fun x hx => hZs x (h2 x hx)⟩), hiok, hilen⟩, (by have e9 := case_bad hcase9 hbad; rw [e9] at hM9; exact hM9)⟩, hl.addE (t := 17) (hl.addE (t := 6) (hl.addE (t := 8) (hl.addE (t := 1) (hl.addE (t := 5) (hl.addE (t := 7) (hl.addE (t := 15) (hl.addE (t := 16) (hl.nil) rfl (by first | rfl | rfl)) rfl (by first | rfl | rfl)) rfl (by first | rfl | rfl)) rfl (by first | rfl | rfl)) rfl (by first | rfl | rfl)) rfl (by first | rfl | rfl)) rfl (by first | rfl | rfl)) rfl (by first | rfl | rfl), hh.keep (by repeat (first | exact keeps_nil | apply keeps_cons (by repeat (first | exact find_head | apply find_tail)) (by first  | rfl) | exact keeps_self | exact keeps_left | exact keeps_right | exact keeps_swap | apply keeps_mv))⟩ | refine ⟨⟨⟨i + 1, rvs, avs, P, rv2, ms ++ [⟨ckd, cdv, cpr, cix, cup, cra, crl, cvia, cpm, cda, cdl, ccl⟩], E2, iid, iv, is, ap, Z⟩, km, NN⟩, (by show n - (i + 1) < n - i; omega), ⟨⟨by show i + 1 ≤ n; omega, hnet, hPok, hinv, (by show Row rv2 (ms ++ [_]).length _ _ _ _; rw [List.length_append, chs_snoc]; exact hR2), (fun c hc => by rcases List.mem_append.1 hc with h | h; exact hmok c h; (rw [List.mem_singleton] at h; subst h; exact hdok.ch)), (by show (ms ++ [_]).length ≤ i + 1; rw [List.length_append]; show ms.length + 1 ≤ i + 1; omega), hirow, hiok, hilen⟩, hMs⟩, hl.addE (t := 17) (hl.addE (t := 6) (hl.addE (t := 8) (hl.addE (t := 1) (hl.addE (t := 5) (hl.addE (t := 7) (hl.addE (t := 15) (hl.addE (t := 16) (hl.nil) rfl (by first | rfl | rfl)) rfl (by first | rfl | rfl)) rfl (by first | rfl | rfl)) rfl (by first | rfl | rfl)) rfl (by first | rfl | rfl)) rfl (by first | rfl | rfl)) rfl (by first | rfl | rfl)) rfl (by first | rfl | rfl), hh.keep (by repeat (first | exact keeps_nil | apply keeps_cons (by repeat (first | exact find_head | apply find_tail)) (by first  | rfl) | exact keeps_self | exact keeps_left | exact keeps_right | exact keeps_swap | apply keeps_mv))⟩ | refine ⟨⟨⟨i + 1, rvs, avs, P, mk, ms, Em, iid, iv, is, ap, Z⟩, km, NN⟩, (by show n - (i + 1) < n - i; omega), ⟨⟨by show i + 1 ≤ n; omega, hnet, hPok, hinv, hrow, hmok, (by show ms.length ≤ i + 1; omega), hirow, hiok, hilen⟩, hMs⟩, hl.addE (t := 17) (hl.addE (t := 6) (hl.addE (t := 8) (hl.addE (t := 1) (hl.addE (t := 5) (hl.addE (t := 7) (hl.addE (t := 15) (hl.addE (t := 16) (hl.nil) rfl (by first | rfl | rfl)) rfl (by first | rfl | rfl)) rfl (by first | rfl | rfl)) rfl (by first | rfl | rfl)) rfl (by first | rfl | rfl)) rfl (by first | rfl | rfl)) rfl (by first | rfl | rfl)) rfl (by first | rfl | rfl), hh.keep (by repeat (first | exact keeps_nil | apply keeps_cons (by repeat (first | exact find_head | apply find_tail)) (by first  | rfl) | exact keeps_self | exact keeps_left | exact keeps_right | exact keeps_swap | apply keeps_mv))⟩
  · intro hc0
    try simp only [decide_eq_true_eq, decide_eq_false_iff_not, Bool.not_eq_true', Bool.not_eq_false', Bool.not_eq_true, Bool.not_eq_false, Bool.and_eq_true, Bool.or_eq_true, Bool.and_eq_false_iff, Bool.or_eq_false_iff, Bool.not_not, ne_eq, Int.not_lt, Int.not_le, Decidable.not_not, beq_iff_eq, bne_iff_ne] at hc0
    refine wp_exit ?_
    refine then_exit ?_
    refine then_exit ?_
    refine blk_exit ?_
    refine then_normal ?_
    refine c_seq ?_
    refine c_region ?_
    refine wl (wl_val hl rfl trivial (r_assign hl rfl) ?_)
    clear hl a; intro a hl
    refine w_nil ?_
    have hl2 := hl.add (t := 4) (hl.nil) rfl; clear hl; have hl := hl2; clear hl2
    refine then_normal ?_
    refine wp_ret ?_
    refine f_ret1 (F' := []) hl hh rfl rfl (by repeat (first | exact keeps_nil | apply keeps_cons (by repeat (first | exact find_head | apply find_tail)) (by first  | rfl) | exact keeps_self | exact keeps_left | exact keeps_right | exact keeps_swap | apply keeps_mv)) ?_
    exact ⟨rfl, rfl⟩
end Go.Proofs.Qxb6500907a

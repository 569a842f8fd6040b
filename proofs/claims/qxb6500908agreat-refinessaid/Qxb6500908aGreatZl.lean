import Derived.Test.Qxb6500908aGreatZk
namespace Go.Proofs.Qxb6500908aGreat
open Go.Eng
set_option linter.unusedVariables false
set_option linter.unusedSimpArgs false
theorem methOk25_saw : methOk Tryz.prog 25 "e2e/gatelaw.saw" 99 = true := by kernel_rfl
theorem cal99 : callable Tryz.prog 99 = true := by kernel_rfl
theorem methOk25_fell : methOk Tryz.prog 25 "e2e/gatelaw.fell" 97 = true := by kernel_rfl
theorem cal97 : callable Tryz.prog 97 = true := by kernel_rfl
theorem methOk25_booted : methOk Tryz.prog 25 "e2e/gatelaw.booted" 95 = true := by kernel_rfl
theorem cal95 : callable Tryz.prog 95 = true := by kernel_rfl
theorem methOk25_fate : methOk Tryz.prog 25 "e2e/gatelaw.fate" 96 = true := by kernel_rfl
theorem cal96 : callable Tryz.prog 96 = true := by kernel_rfl
theorem methUp25_after : methUp Tryz.prog 25 "e2e/gatelaw.after" 93 = true := by kernel_rfl
theorem cal93 : callable Tryz.prog 93 = true := by kernel_rfl
theorem methUp25_bind : methUp Tryz.prog 25 "e2e/gatelaw.bind" 94 = true := by kernel_rfl
theorem cal94 : callable Tryz.prog 94 = true := by kernel_rfl
theorem methUp25_finish : methUp Tryz.prog 25 "e2e/gatelaw.finish" 98 = true := by kernel_rfl
theorem cal98 : callable Tryz.prog 98 = true := by kernel_rfl
theorem cal4 : callable Tryz.prog 4 = true := by kernel_rfl
theorem cal6 : callable Tryz.prog 6 = true := by kernel_rfl
theorem zero32 : zeroOk Tryz.prog 32 (.agg #[(.pointer none), (.pointer none)]) := by unfold zeroOk; kernel_rfl
theorem bld32 : buildOk Tryz.prog 32 [(0, 1), (1, 1)] = true := by kernel_rfl
theorem conc25 : concT Tryz.prog 25 = true := by kernel_rfl
theorem cal5 : callable Tryz.prog 5 = true := by kernel_rfl
theorem gf_pool (W : WoV) (Z : List (Nat × Obj)) : ∃ F1, (W.GF Z).Perm (F1 ++ Z) := by
  unfold WoV.GF
  split
  · exact ⟨(W.lb, C W.l.c 91) :: W.l.d.E, List.Perm.refl _⟩
  · rename_i y _
    unfold GF
    exact ⟨(y.1, C y.2.c 127) :: (y.2.st.E ++ (y.2.qE ++ ((y.2.rb, MD (kInt .u32) y.2.rl y.2.rn) :: (y.2.oE ++ ((y.2.led, C W.l.c 91) :: W.l.d.E))))), by simp⟩
theorem wf_pool (F2 : List (Nat × Obj)) (wb : Nat) (W : WoV) (Z G : List (Nat × Obj)) : ∃ F1, (F2 ++ WoV.F wb W (Z ++ G)).Perm (F1 ++ Z) := by
  obtain ⟨F1, h1⟩ := gf_pool W (Z ++ G)
  refine ⟨F2 ++ ((wb, C W.c 55) :: (W.tE ++ (W.gE ++ (DsF W.ds ++ (F1 ++ G))))), ?_⟩
  unfold WoV.F
  have h2 : (W.GF (Z ++ G)).Perm ((F1 ++ G) ++ Z) := by
    refine h1.trans ?_
    rw [List.append_assoc]
    exact List.Perm.append_left _ List.perm_append_comm
  have h3 : (F2 ++ (wb, C W.c 55) :: (W.tE ++ (W.gE ++ (DsF W.ds ++ W.GF (Z ++ G))))).Perm (F2 ++ (wb, C W.c 55) :: (W.tE ++ (W.gE ++ (DsF W.ds ++ ((F1 ++ G) ++ Z))))) :=
    List.Perm.append_left _ (List.Perm.cons _ (List.Perm.append_left _ (List.Perm.append_left _ (List.Perm.append_left _ h2))))
  refine h3.trans ?_
  simp
def LawOut (Z : List (Nat × Obj)) (v : Value) (F' : List (Nat × Obj)) : Prop := v = .bool true ∧ ∃ F1, F'.Perm (F1 ++ Z)


theorem fedG_l (W : WoP) (g : GtP) (i : InP) : (fedG W g i).l = (ginP g W.l i).1.2 ∧ (fedG W g i).g = if (ginP g W.l i).1.1.off then none else some { (ginP g W.l i).1.1 with out := [] } := by
  unfold fedG
  split
  · exact ⟨rfl, rfl⟩
  · exact ⟨rfl, rfl⟩
theorem bootW_l {W : WoP} (hg : W.g = none) : (bootW W).l = (bootP W.l).2 ∧ (bootW W).g = upB (bootP W.l) := by
  unfold bootW upB
  cases h : (bootP W.l).1 with
  | none => exact ⟨rfl, hg⟩
  | some g => exact ⟨rfl, rfl⟩
def rfL (lb wb : Nat) : LawM lb wb where
  T := 25
  fsaw := 99
  ffell := 97
  fboot := 95
  ffate := 96
  fafter := 93
  X := RfX
  M := fun _ x F => RfM lb wb x F
  sawR := fun now gN x i id c sent x' => ∃ gp, x.g = some gp ∧ RfS now gN gp x.l i id c sent ∧ x' = rfN gp x.l i
  fellF := rfFell
  fateF := rfFate
  bootR := fun bf now ok x sent x' => x.g = none ∧ bf = x.l.d ∧ now = (bootP x.l).2.d ∧ ok = (bootP x.l).1.isSome ∧ sent = sentB (bootP x.l) ∧ x' = ⟨upB (bootP x.l), (bootP x.l).2⟩
  afterR := fun _ x x' => x' = x
  mono := fun h => h
  dsaw := Disp.self _ methOk25_saw cal99
  dfell := Disp.self _ methOk25_fell cal97
  dboot := Disp.self _ methOk25_booted cal95
  dfate := Disp.self _ methOk25_fate cal96
  dafter := Disp.up lb methUp25_after cal93
  saw := fun W Z x x' Fx i p cap gb g id c sent q cq Eq hW hg hM hi hR hso hsl _ _ hs => by
    obtain ⟨mb, m, Y, hm, rfl⟩ := hM
    obtain ⟨gp, hxg, hS, rfl⟩ := hs
    have hm2 : MdR Y m gp x.l := by unfold MdX at hm; rw [hxg] at hm; exact hm
    exact sp_mono (rsaw_spec lb wb mb W Z hW gb g hg i p cap hi id c sent q cq Eq hR hsl hso m Y gp x.l hm2 hS) fun v F ⟨h4, m', G, h5, h6⟩ => ⟨h4, _, ⟨mb, m', Y ++ G, h5.clr, rfl⟩, h6⟩
  fell := fun Z x Fx hM => by
    obtain ⟨mb, m, Y, hm, rfl⟩ := hM
    exact sp_mono (rfell_spec lb wb mb m Y) fun v F ⟨h3, h4⟩ => ⟨h3, mb, _, Y, mdx_fell hm, h4⟩
  boot := fun W Z x x' Fx s ok sent q cq Eq hW hM hs hep hR hso hsl hb => by
    obtain ⟨mb, m, Y, hm, rfl⟩ := hM
    obtain ⟨hxg, hbf, hnow, hok, hsent, rfl⟩ := hb
    have hm2 : MdD Y m x.l := by unfold MdX at hm; rw [hxg] at hm; exact hm
    have hep2 : x.l.d.ep < 4294967295 := by rw [← hbf]; exact hep
    exact sp_mono (rboot_spec lb wb mb W Z hW s hs ok sent q cq Eq hR hsl hso m Y x.l hm2 hep2 hnow hok hsent) fun v F ⟨h4, m', G, h5, h6⟩ => ⟨h4, _, ⟨mb, m', Y ++ G, h5, rfl⟩, h6⟩
  fate := fun Z x Fx k A B rest h1 h2 hk hA hB hM => by
    obtain ⟨mb, m, Y, hm, rfl⟩ := hM
    refine sp_mono (rfate_spec lb wb mb m Y k A B rest h1 h2 hk hA hB) fun v F ⟨h3, h4⟩ => ⟨h3, mb, _, Y, ?_, h4⟩
    by_cases h14 : k = 14
    · rw [if_pos h14, h14]; exact mdx_arm hm hA.2 B
    · rw [if_neg h14]; exact mdx_full hm h14
  after := fun W Z x x' Fx hW hM h => sp_mono (b_after (Fx ++ WoV.F wb W Z) lb) fun v F ⟨h3, h4⟩ => ⟨h3, Fx, by rw [h]; exact hM, h4⟩
def rfQ (lb wb : Nat) : LawJ (rfL lb wb) where
  J := fun W x => RfJ W.l W.g x
  K := fun W x => RfJ W.l W.g x
  jk := fun h => h
  mov := fun h _ _ => h
  hand := fun _ h _ _ => h
  feedM := fun {n W x g m r} hn h hg _ => by
    obtain ⟨h1, h2, h3⟩ := hn.g g hg
    have h' : RfJ W.l (some g) x := by rw [← hg]; exact h
    obtain ⟨⟨gp, a1, a2, a3⟩, a4⟩ := rf_feed (i := msgI m) h1 h2 h3 h'
    refine ⟨rfN g W.l (msgI m), ⟨gp, a1, a2, a3⟩, ?_⟩
    have e := fedG_l { W with xg := r } g (msgI m)
    show RfJ (fedG { W with xg := r } g (msgI m)).l (fedG { W with xg := r } g (msgI m)).g _
    rw [e.1, e.2]; exact a4
  feedO := fun {n W x g i} hn h hg _ => by
    obtain ⟨h1, h2, h3⟩ := hn.g g hg
    have h' : RfJ W.l (some g) x := by rw [← hg]; exact h
    obtain ⟨⟨gp, a1, a2, a3⟩, a4⟩ := rf_feed (i := i) h1 h2 h3 h'
    refine ⟨rfN g W.l i, ⟨gp, a1, a2, a3⟩, ?_⟩
    have e := fedG_l W g i
    show RfJ (fedG W g i).l (fedG W g i).g _
    rw [e.1, e.2]; exact a4
  forge := fun _ h => h
  stub := fun _ h _ => h
  fate := fun {W x l'} k A B h hl => by
    have h : RfJ W.l W.g x := h
    show RfJ l' W.g (rfFate k A B x)
    unfold rfFate
    rcases hl with ⟨rfl, rfl⟩ | ⟨rfl, rfl⟩
    · rw [if_pos rfl]
      exact ⟨h.g, h.d, h.fl, rfl, rfl, fun y e => (by show ({ x.l with fu := _, kp := _ } : LdP) = _; rw [h.u y e]), h.v⟩
    · rw [if_neg (by omega)]
      exact ⟨h.g, h.d, rfl, h.fu, h.kp, fun y e => (by show ({ x.l with fl := _ } : LdP) = _; rw [h.u y e]), h.v⟩
  crash := fun {W x} h => by
    have h : RfJ W.l W.g x := h
    exact ⟨rfl, h.d, h.fl, rfl, h.kp, fun y e => (by cases e), h.v⟩
  boot := fun {n W x} hn h hg => by
    have h : RfJ W.l W.g x := h
    have hb := bp_cg h.d h.fl h.fu h.kp
    refine ⟨⟨upB (bootP x.l), (bootP x.l).2⟩, ⟨h.g.trans hg, h.d.symm, by rw [hb], by rw [hb], by rw [hb], rfl⟩, ?_⟩
    have e := bootW_l hg
    show RfJ (bootW W).l (bootW W).g _
    rw [e.1, e.2, hb]
    exact ⟨rfl, rfl, rfl, rfl, rfl, fun y _ => rfl, vi_boot h.v⟩
  after := fun _ h _ _ => ⟨_, rfl, h⟩
def rfT (lb mb : Nat) (m : MdV) (hm : MdD [] m lp0) : LawT lb where
  T := 25
  L := rfL lb
  hT := fun _ => rfl
  Q := rfQ lb
  hn := false
  x0 := fun _ => ⟨none, lp0⟩
  F0 := (lb, C [.pointer none, .pointer (some ⟨mb, 0, none⟩)] 32) :: (mb, C m.c 82) :: (m.d.E ++ (m.qE ++ m.rE))
  fbind := 94
  ffin := 98
  dbind := Disp.up lb methUp25_bind cal94
  dfin := fun wb => Disp.up lb methUp25_finish cal98
  bind := fun wb Z => sp_fr (b_bind lb wb _ _ 32) (List.Perm.refl _) fun v F2 ⟨h1, h2⟩ => ⟨_, ⟨h1, mb, m, [], hm, rfl⟩, by rw [h2]; unfold MF; rw [List.append_nil]; exact List.Perm.refl _⟩
  fin := fun wb W Z x F n _ _ _ _ _ _ => sp_mono (b_fin (F ++ WoV.F wb W Z) lb) fun v F' ⟨h1, h2⟩ => ⟨h1, F, W, [], by rw [h2, List.append_nil]⟩
  start := fun wb => ⟨rfl, rfl, rfl, rfl, rfl, fun y e => (by cases e), ⟨by simp [wp0, lp0, sp0], fun v hv => .inl (by rw [List.mem_singleton.1 hv]), fun h => absurd rfl h⟩⟩

attribute [local irreducible] NtV.k StV.c LdV.c StV.E GtV.c GtV.t DuV.c DuV.E MdV.c MdV.t orB sh1 WoV.c wst postP

set_option maxHeartbeats 4000000 in
theorem law3 (Z : List (Nat × Obj)) (p0 : Option Addr) (n cap : Nat) (ops : List OpX) (hS : Scr Z p0 n cap ops) : Sp Tryz.prog 3 #[.slice p0 n cap] Z (LawOut Z) := by
  refine f_enter (args := [.slice p0 n cap]) Tryz.func3 rfl Tryz.ntmps3 rfl ?_
  intro w0 w a hpre hl hh
  generalize hDD : List.map Prod.fst Z = D at hh ⊢
  simp only [slotsFrom, Nat.reduceAdd] at hl
  refine c_seq ?_
  refine c_region ?_
  refine wl (wl_val hl rfl trivial (r_assign hl rfl) ?_)
  clear hl a; intro a hl
  refine w_nil ?_
  have hl2 := hl.add (t := 0) (hl.nil) rfl; clear hl; have hl := hl2; clear hl2
  refine then_normal ?_
  refine c_seq ?_
  refine c_seq ?_
  refine c_region ?_
  refine wl (wl_val hl rfl trivial (r_move hl rfl) ?_)
  clear hl a; intro a hl
  refine wl (w_call hl hh rfl trivial rfl cal4 rfl (small_spec Z p0 n cap ops hS) (by repeat (first | exact keeps_nil | apply keeps_cons (by repeat (first | exact find_head | apply find_tail | apply find_skip)) (by first  | rfl) | exact keeps_self | exact keeps_left | apply keeps_app | apply keeps_mv | apply keeps_skip)) (memK hh (by repeat (first | exact keeps_nil | apply keeps_cons (by repeat (first | exact find_head | apply find_tail | apply find_skip)) (by first  | rfl) | exact keeps_self | exact keeps_left | apply keeps_app | apply keeps_mv | apply keeps_skip))) ?_)
  clear hl hh a w; intro vc Fc a w hR hl hh
  obtain ⟨⟨b9, rfl, hb9⟩, rfl⟩ := hR
  try simp only [List.cons_append, List.nil_append, List.append_assoc, List.append_nil] at hh
  refine wl (wl_val hl rfl trivial (r_not hl rfl) ?_)
  clear hl a; intro a hl
  refine w_nil ?_
  have hl2 := hl.add (t := 0) (hl.add (t := 5) (hl.nil) rfl) rfl; clear hl; have hl := hl2; clear hl2
  refine then_normal ?_
  refine c_cond hl rfl ?_ ?_
  · intro hc0
    try simp only [decide_eq_true_eq, decide_eq_false_iff_not, Bool.not_eq_true', Bool.not_eq_false', Bool.not_eq_true, Bool.not_eq_false, Bool.and_eq_true, Bool.or_eq_true, Bool.and_eq_false_iff, Bool.or_eq_false_iff, Bool.not_not, ne_eq, Int.not_lt, Int.not_le, Decidable.not_not, beq_iff_eq, bne_iff_ne] at hc0
    refine c_seq ?_
    refine c_region ?_
    refine wl (wl_val hl rfl trivial (r_assign hl rfl) ?_)
    clear hl a; intro a hl
    refine w_nil ?_
    have hl2 := hl.add (t := 2) (hl.nil) rfl; clear hl; have hl := hl2; clear hl2
    refine then_normal ?_
    refine wp_ret ?_
    refine then_ret ?_
    refine f_ret1 (F' := Z) hl hh rfl rfl (by repeat (first | exact keeps_nil | apply keeps_cons (by repeat (first | exact find_head | apply find_tail | apply find_skip)) (by first  | rfl) | exact keeps_self | exact keeps_left | apply keeps_app | apply keeps_mv | apply keeps_skip)) ?_
    exact ⟨rfl, [], List.Perm.refl _⟩
  · intro hc0
    try simp only [decide_eq_true_eq, decide_eq_false_iff_not, Bool.not_eq_true', Bool.not_eq_false', Bool.not_eq_true, Bool.not_eq_false, Bool.and_eq_true, Bool.or_eq_true, Bool.and_eq_false_iff, Bool.or_eq_false_iff, Bool.not_not, ne_eq, Int.not_lt, Int.not_le, Decidable.not_not, beq_iff_eq, bne_iff_ne] at hc0
    refine wp_skip ?_
    refine then_normal ?_
    refine c_seq ?_
    refine c_region ?_
    refine wl (wl_val hl rfl trivial (r_move hl rfl) ?_)
    clear hl a; intro a hl
    refine wl (w_call hl hh rfl trivial rfl cal6 rfl (mnew_spec) (by repeat (first | exact keeps_nil | apply keeps_cons (by repeat (first | exact find_head | apply find_tail | apply find_skip)) (by first  | rfl) | exact keeps_self | exact keeps_left | apply keeps_app | apply keeps_mv | apply keeps_skip)) trivial ?_)
    clear hl hh a w; intro vc Fc a w hR hl hh
    obtain ⟨mb, m, hm, rfl, rfl⟩ := hR
    try simp only [List.cons_append, List.nil_append, List.append_assoc, List.append_nil] at hh
    try simp only [List.append_assoc, List.cons_append, List.nil_append] at hh
    refine wl (wl_val hl rfl trivial (r_build hl rfl zero32 bld32 (by simp only [fillL, setL, List.getElem?_cons_zero, List.getElem?_cons_succ, Value.cells, List.take_zero, List.take_succ_cons, List.take_nil, List.drop_zero, List.drop_succ_cons, List.drop_nil, List.length_cons, List.length_nil, List.cons_append, List.nil_append, List.append_nil, Nat.zero_add, Nat.add_zero, Nat.reduceAdd, Nat.reduceBEq, Nat.reduceEqDiff, Nat.ble, BEq.rfl, Bool.and_true, Bool.and_self, cond_true, beq_self_eq_true]; rfl)) ?_)
    clear hl a; intro a hl
    refine wl (w_box hl hh rfl trivial rfl rfl ?_)
    clear hl hh a w; intro k9 a w hl hh
    refine wl (wl_val hl rfl trivial (r_makeInterface hl rfl conc25) ?_)
    clear hl a; intro a hl
    refine wl (w_call hl hh rfl trivial rfl cal5 rfl (play_spec (rfT k9 mb m hm) Z p0 n cap ops hS (hb9 hc0).1 (hb9 hc0).2) (by repeat (first | exact keeps_nil | apply keeps_cons (by repeat (first | exact find_head | apply find_tail | apply find_skip)) (by first  | rfl) | exact keeps_self | exact keeps_left | apply keeps_app | apply keeps_mv | apply keeps_skip)) trivial ?_)
    clear hl hh a w; intro vc Fc a w hR hl hh
    obtain ⟨rfl, F2, wb, W', G9, rfl⟩ := hR
    try simp only [List.cons_append, List.nil_append, List.append_assoc, List.append_nil] at hh
    refine wl (wl_val hl rfl trivial (r_assign hl rfl) ?_)
    clear hl a; intro a hl
    refine w_nil ?_
    have hl2 := hl.add (t := 2) (hl.nil) rfl; clear hl; have hl := hl2; clear hl2
    refine then_normal ?_
    refine wp_ret ?_
    refine f_ret1 (F' := F2 ++ WoV.F wb W' (Z ++ G9)) hl hh rfl rfl (by repeat (first | exact keeps_nil | apply keeps_cons (by repeat (first | exact find_head | apply find_tail | apply find_skip)) (by first  | rfl) | exact keeps_self | exact keeps_left | apply keeps_app | apply keeps_mv | apply keeps_skip)) ?_
    exact ⟨rfl, wf_pool F2 wb W' Z G9⟩
end Go.Proofs.Qxb6500908aGreat

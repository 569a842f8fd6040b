import Derived.Test.Qxb6500908aX14
namespace Go.Proofs.Qxb6500908a
open Go.Eng
set_option linter.unusedVariables false
set_option linter.unusedSimpArgs false
theorem methOk51_saw : methOk Try.prog 51 "e2e/gatelaw.saw" 106 = true := by kernel_rfl
theorem cal106 : callable Try.prog 106 = true := by kernel_rfl
theorem methOk51_fell : methOk Try.prog 51 "e2e/gatelaw.fell" 105 = true := by kernel_rfl
theorem cal105 : callable Try.prog 105 = true := by kernel_rfl
theorem methOk51_booted : methOk Try.prog 51 "e2e/gatelaw.booted" 104 = true := by kernel_rfl
theorem cal104 : callable Try.prog 104 = true := by kernel_rfl
theorem methUp51_fate : methUp Try.prog 51 "e2e/gatelaw.fate" 99 = true := by kernel_rfl
theorem cal99 : callable Try.prog 99 = true := by kernel_rfl
theorem methUp51_after : methUp Try.prog 51 "e2e/gatelaw.after" 96 = true := by kernel_rfl
theorem cal96 : callable Try.prog 96 = true := by kernel_rfl
theorem methUp51_bind : methUp Try.prog 51 "e2e/gatelaw.bind" 97 = true := by kernel_rfl
theorem cal97 : callable Try.prog 97 = true := by kernel_rfl
theorem methUp51_finish : methUp Try.prog 51 "e2e/gatelaw.finish" 101 = true := by kernel_rfl
theorem cal101 : callable Try.prog 101 = true := by kernel_rfl
theorem cal8 : callable Try.prog 8 = true := by kernel_rfl
theorem zero53 : zeroOk Try.prog 53 (.agg #[(.pointer none), (.int .u32 0), (.bool false), (.int .u32 0), (.int .u32 0), (.int .u16 0)]) := by unfold zeroOk; kernel_rfl
theorem bld53 : buildOk Try.prog 53 [(0, 1), (1, 1), (2, 1), (3, 1), (4, 1), (5, 1)] = true := by kernel_rfl
theorem conc51 : concT Try.prog 51 = true := by kernel_rfl
theorem cal9 : callable Try.prog 9 = true := by kernel_rfl
theorem gf_pool (W : WoV) (Z : List (Nat × Obj)) : ∃ F1, (W.GF Z).Perm (F1 ++ Z) := by
  unfold WoV.GF
  split
  · exact ⟨(W.lb, C W.l.c 95) :: W.l.d.E, List.Perm.refl _⟩
  · rename_i y _
    unfold GF
    exact ⟨(y.1, C y.2.c 131) :: (y.2.st.E ++ (y.2.qE ++ ((y.2.rb, MD (kInt .u32) y.2.rl y.2.rn) :: (y.2.oE ++ ((y.2.led, C W.l.c 95) :: W.l.d.E))))), by simp⟩
theorem wf_pool (F2 : List (Nat × Obj)) (wb : Nat) (W : WoV) (Z G : List (Nat × Obj)) : ∃ F1, (F2 ++ WoV.F wb W (Z ++ G)).Perm (F1 ++ Z) := by
  obtain ⟨F1, h1⟩ := gf_pool W (Z ++ G)
  refine ⟨F2 ++ ((wb, C W.c 84) :: (W.tE ++ (W.gE ++ (DsF W.ds ++ (F1 ++ G))))), ?_⟩
  unfold WoV.F
  have h2 : (W.GF (Z ++ G)).Perm ((F1 ++ G) ++ Z) := by
    refine h1.trans ?_
    rw [List.append_assoc]
    exact List.Perm.append_left _ List.perm_append_comm
  have h3 : (F2 ++ (wb, C W.c 84) :: (W.tE ++ (W.gE ++ (DsF W.ds ++ W.GF (Z ++ G))))).Perm (F2 ++ (wb, C W.c 84) :: (W.tE ++ (W.gE ++ (DsF W.ds ++ ((F1 ++ G) ++ Z))))) :=
    List.Perm.append_left _ (List.Perm.cons _ (List.Perm.append_left _ (List.Perm.append_left _ (List.Perm.append_left _ h2))))
  refine h3.trans ?_
  simp
def LawOut (Z : List (Nat × Obj)) (v : Value) (F' : List (Nat × Obj)) : Prop := v = .bool true ∧ ∃ F1, F'.Perm (F1 ++ Z)


def reL (lb wb : Nat) : LawM lb wb where
  T := 51
  fsaw := 106
  ffell := 105
  fboot := 104
  ffate := 99
  fafter := 96
  X := ReX
  M := fun Z x F => F = [(lb, C (reC wb x) 53)]
  sawR := fun now up x i id c sent x' => ReS now x i ∧ x' = x.nx i now sent
  fellF := fun x => { x with wt := false }
  fateF := fun _ _ _ x => x
  bootR := fun bf now ok x sent x' => ReB bf now ok x sent ∧ x' = x.bx bf now ok sent
  afterR := fun _ x x' => x' = x
  mono := fun h => h
  dsaw := Disp.self _ methOk51_saw cal106
  dfell := Disp.self _ methOk51_fell cal105
  dboot := Disp.self _ methOk51_booted cal104
  dfate := Disp.up lb methUp51_fate cal99
  dafter := Disp.up lb methUp51_after cal96
  saw := fun W Z x x' Fx i p cap gb g id c sent q cq Eq hW hg hM hi hR hso hsl _ _ hs => by
    obtain ⟨h1, rfl⟩ := hs
    subst hM
    exact sp_mono (rsaw_spec lb wb W Z hW gb g hg i p cap hi id c sent q cq Eq hR hsl hso x h1) fun v F ⟨h3, h4⟩ => ⟨h3, _, rfl, h4⟩
  fell := fun Z x Fx hM => by
    subst hM
    exact sp_mono (rfell_spec lb wb x) fun v F ⟨h3, h4⟩ => ⟨h3, h4⟩
  boot := fun W Z x x' Fx s ok sent q cq Eq hW hM hs hR hso hsl hb => by
    obtain ⟨h1, rfl⟩ := hb
    subst hM
    exact sp_mono (rboot_spec lb wb W Z hW s hs ok sent q cq Eq hR hsl x h1) fun v F ⟨h3, h4⟩ => ⟨h3, _, rfl, h4⟩
  fate := fun Z x Fx k A B rest h1 h2 hM => sp_mono (b_fate Fx lb _ (by simp [h1]) (by rw [List.all_cons, List.all_cons, List.all_cons, h2]; rfl)) fun v F ⟨h3, h4⟩ => ⟨h3, by rw [h4]; exact hM⟩
  after := fun W Z x x' Fx hW hM h => sp_mono (b_after (Fx ++ WoV.F wb W Z) lb) fun v F ⟨h3, h4⟩ => ⟨h3, Fx, by rw [h]; exact hM, h4⟩

theorem fedG_l (W : WoP) (g : GtP) (i : InP) : (fedG W g i).l = (ginP g W.l i).1.2 ∧ (fedG W g i).g = if (ginP g W.l i).1.1.off then none else some { (ginP g W.l i).1.1 with out := [] } := by
  unfold fedG
  split
  · exact ⟨rfl, rfl⟩
  · exact ⟨rfl, rfl⟩
theorem bootW_l {W : WoP} (hg : W.g = none) : (bootW W).l = (bootP W.l).2 ∧ (bootW W).g = upB (bootP W.l) := by
  unfold bootW upB
  cases h : (bootP W.l).1 with
  | none => exact ⟨rfl, hg⟩
  | some g => exact ⟨rfl, rfl⟩
def reQ (lb wb : Nat) : LawJ (reL lb wb) where
  J := fun W x => ReJ W.l W.g x
  K := fun W x => ReJ W.l W.g x
  jk := fun h => h
  mov := fun h _ _ => h
  hand := fun _ h _ _ => h
  feedM := fun {n W x g m r} hn h hg _ => by
    obtain ⟨h1, h2, h3⟩ := hn.g g hg
    have h' : ReJ W.l (some g) x := by rw [← hg]; exact h
    obtain ⟨a1, _, a2⟩ := rec_feed (i := msgI m) h1 h2 h3 h'
    refine ⟨_, ⟨a1, rfl⟩, ?_⟩
    have e := fedG_l { W with xg := r } g (msgI m)
    show ReJ (fedG { W with xg := r } g (msgI m)).l (fedG { W with xg := r } g (msgI m)).g _
    rw [e.1, e.2]; exact a2
  feedO := fun {n W x g i} hn h hg _ => by
    obtain ⟨h1, h2, h3⟩ := hn.g g hg
    have h' : ReJ W.l (some g) x := by rw [← hg]; exact h
    obtain ⟨a1, _, a2⟩ := rec_feed (i := i) h1 h2 h3 h'
    refine ⟨_, ⟨a1, rfl⟩, ?_⟩
    have e := fedG_l W g i
    show ReJ (fedG W g i).l (fedG W g i).g _
    rw [e.1, e.2]; exact a2
  forge := fun _ h => h
  stub := fun _ h _ => h
  fate := fun _ _ _ h hd _ => rec_led h hd
  crash := fun h hd => rec_fall h hd
  boot := fun {n W x} hn h hg => by
    have h' : ReJ W.l none x := by rw [← hg]; exact h
    obtain ⟨a1, a2⟩ := rec_boot hn.st h'
    refine ⟨_, ⟨a1, rfl⟩, ?_⟩
    have e := bootW_l hg
    show ReJ (bootW W).l (bootW W).g _
    rw [e.1, e.2]; exact a2
  after := fun _ h _ _ => ⟨_, rfl, h⟩
def rx0 : ReX := ⟨0, false, 0, 0, 0⟩
def reT (lb : Nat) : LawT lb where
  T := 51
  L := reL lb
  hT := fun _ => rfl
  Q := reQ lb
  hn := false
  x0 := fun _ => rx0
  F0 := [(lb, C [.pointer none, .int .u32 0, .bool false, .int .u32 0, .int .u32 0, .int .u16 0] 53)]
  fbind := 97
  ffin := 101
  dbind := Disp.up lb methUp51_bind cal97
  dfin := fun wb => Disp.up lb methUp51_finish cal101
  bind := fun wb Z => sp_mono (b_bind lb wb _ _ 53) fun v F ⟨h1, h2⟩ => ⟨h1, h2⟩
  fin := fun wb W Z x F n _ _ _ _ _ _ => sp_mono (b_fin (F ++ WoV.F wb W Z) lb) fun v F' ⟨h1, h2⟩ => ⟨h1, F, W, [], by rw [h2, List.append_nil]⟩
  start := fun wb => ⟨by simp [rx0, wp0, lp0, sp0], fun h => (by cases h), by simp [rx0]⟩

attribute [local irreducible] NtV.k StV.c LdV.c StV.E GtV.c GtV.t orB sh1 WoV.c wst postP

set_option maxHeartbeats 4000000 in
theorem law4 (Z : List (Nat × Obj)) (p0 : Option Addr) (n cap : Nat) (ops : List OpX) (hS : Scr Z p0 n cap ops) : Sp Try.prog 4 #[.slice p0 n cap] Z (LawOut Z) := by
  refine f_enter (args := [.slice p0 n cap]) Try.func4 rfl Try.ntmps4 rfl ?_
  intro w0 w a hpre hl hh
  generalize hDD : List.map Prod.fst Z = D at hh ⊢
  simp only [slotsFrom, Nat.reduceAdd] at hl
  refine c_seq ?_
  refine c_region ?_
  refine wl (wl_val hl rfl trivial (r_assign hl rfl) ?_)
  clear hl a; intro a hl
  refine w_nil ?_
  have hl2 := hl.add (t := 0) (hl.nil) rfl; clear hl; have hl := hl2; clear hl2
  refine then_normal ?_
  refine c_seq ?_
  refine c_seq ?_
  refine c_region ?_
  refine wl (wl_val hl rfl trivial (r_move hl rfl) ?_)
  clear hl a; intro a hl
  refine wl (w_call hl hh rfl trivial rfl cal8 rfl (small_spec Z p0 n cap ops hS) (by repeat (first | exact keeps_nil | apply keeps_cons (by repeat (first | exact find_head | apply find_tail | apply find_skip)) (by first  | rfl) | exact keeps_self | exact keeps_left | apply keeps_app | apply keeps_mv | apply keeps_skip)) (memK hh (by repeat (first | exact keeps_nil | apply keeps_cons (by repeat (first | exact find_head | apply find_tail | apply find_skip)) (by first  | rfl) | exact keeps_self | exact keeps_left | apply keeps_app | apply keeps_mv | apply keeps_skip))) ?_)
  clear hl hh a w; intro vc Fc a w hR hl hh
  obtain ⟨⟨b9, rfl, hb9⟩, rfl⟩ := hR
  try simp only [List.cons_append, List.nil_append, List.append_assoc, List.append_nil] at hh
  refine wl (wl_val hl rfl trivial (r_not hl rfl) ?_)
  clear hl a; intro a hl
  refine w_nil ?_
  have hl2 := hl.add (t := 0) (hl.add (t := 5) (hl.nil) rfl) rfl; clear hl; have hl := hl2; clear hl2
  refine then_normal ?_
  refine c_cond hl rfl ?_ ?_
  · intro hc0
    try simp only [decide_eq_true_eq, decide_eq_false_iff_not, Bool.not_eq_true', Bool.not_eq_false', Bool.not_eq_true, Bool.not_eq_false, Bool.and_eq_true, Bool.or_eq_true, Bool.and_eq_false_iff, Bool.or_eq_false_iff, Bool.not_not, ne_eq, Int.not_lt, Int.not_le, Decidable.not_not, beq_iff_eq, bne_iff_ne] at hc0
    refine c_seq ?_
    refine c_region ?_
    refine wl (wl_val hl rfl trivial (r_assign hl rfl) ?_)
    clear hl a; intro a hl
    refine w_nil ?_
    have hl2 := hl.add (t := 2) (hl.nil) rfl; clear hl; have hl := hl2; clear hl2
    refine then_normal ?_
    refine wp_ret ?_
    refine then_ret ?_
    refine f_ret1 (F' := Z) hl hh rfl rfl (by repeat (first | exact keeps_nil | apply keeps_cons (by repeat (first | exact find_head | apply find_tail | apply find_skip)) (by first  | rfl) | exact keeps_self | exact keeps_left | apply keeps_app | apply keeps_mv | apply keeps_skip)) ?_
    exact ⟨rfl, [], List.Perm.refl _⟩
  · intro hc0
    try simp only [decide_eq_true_eq, decide_eq_false_iff_not, Bool.not_eq_true', Bool.not_eq_false', Bool.not_eq_true, Bool.not_eq_false, Bool.and_eq_true, Bool.or_eq_true, Bool.and_eq_false_iff, Bool.or_eq_false_iff, Bool.not_not, ne_eq, Int.not_lt, Int.not_le, Decidable.not_not, beq_iff_eq, bne_iff_ne] at hc0
    refine wp_skip ?_
    refine then_normal ?_
    refine c_seq ?_
    refine c_region ?_
    refine wl (wl_val hl rfl trivial (r_move hl rfl) ?_)
    clear hl a; intro a hl
    refine wl (wl_val hl rfl trivial (r_build hl rfl zero53 bld53 (by simp only [fillL, setL, List.getElem?_cons_zero, List.getElem?_cons_succ, Value.cells, List.take_zero, List.take_succ_cons, List.take_nil, List.drop_zero, List.drop_succ_cons, List.drop_nil, List.length_cons, List.length_nil, List.cons_append, List.nil_append, List.append_nil, Nat.zero_add, Nat.add_zero, Nat.reduceAdd, Nat.reduceBEq, Nat.reduceEqDiff, Nat.ble, BEq.rfl, Bool.and_true, Bool.and_self, cond_true, beq_self_eq_true]; rfl)) ?_)
    clear hl a; intro a hl
    refine wl (w_box hl hh rfl trivial rfl rfl ?_)
    clear hl hh a w; intro k8 a w hl hh
    refine wl (wl_val hl rfl trivial (r_makeInterface hl rfl conc51) ?_)
    clear hl a; intro a hl
    refine wl (w_call hl hh rfl trivial rfl cal9 rfl (play_spec (reT k8) Z p0 n cap ops hS (hb9 hc0).1 (hb9 hc0).2) (by repeat (first | exact keeps_nil | apply keeps_cons (by repeat (first | exact find_head | apply find_tail | apply find_skip)) (by first  | rfl) | exact keeps_self | exact keeps_left | apply keeps_app | apply keeps_mv | apply keeps_skip)) trivial ?_)
    clear hl hh a w; intro vc Fc a w hR hl hh
    obtain ⟨rfl, F2, wb, W', G9, rfl⟩ := hR
    try simp only [List.cons_append, List.nil_append, List.append_assoc, List.append_nil] at hh
    refine wl (wl_val hl rfl trivial (r_assign hl rfl) ?_)
    clear hl a; intro a hl
    refine w_nil ?_
    have hl2 := hl.add (t := 2) (hl.nil) rfl; clear hl; have hl := hl2; clear hl2
    refine then_normal ?_
    refine wp_ret ?_
    refine f_ret1 (F' := F2 ++ WoV.F wb W' (Z ++ G9)) hl hh rfl rfl (by repeat (first | exact keeps_nil | apply keeps_cons (by repeat (first | exact find_head | apply find_tail | apply find_skip)) (by first  | rfl) | exact keeps_self | exact keeps_left | apply keeps_app | apply keeps_mv | apply keeps_skip)) ?_
    exact ⟨rfl, wf_pool F2 wb W' Z G9⟩
end Go.Proofs.Qxb6500908a

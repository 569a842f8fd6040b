import Derived.Test.Qxb6500908aX25
namespace Go.Proofs.Qxb6500908a
open Go.Eng
set_option linter.unusedVariables false
set_option linter.unusedSimpArgs false
theorem cal100 : callable Try.prog 100 = true := by kernel_rfl
theorem methUp54_saw : methUp Try.prog 54 "e2e/gatelaw.saw" 110 = true := by kernel_rfl
theorem cal110 : callable Try.prog 110 = true := by kernel_rfl
theorem methUp54_fell : methUp Try.prog 54 "e2e/gatelaw.fell" 100 = true := by kernel_rfl
theorem methUp54_booted : methUp Try.prog 54 "e2e/gatelaw.booted" 109 = true := by kernel_rfl
theorem cal109 : callable Try.prog 109 = true := by kernel_rfl
theorem methUp54_fate : methUp Try.prog 54 "e2e/gatelaw.fate" 99 = true := by kernel_rfl
theorem methOk54_after : methOk Try.prog 54 "e2e/gatelaw.after" 108 = true := by kernel_rfl
theorem cal108 : callable Try.prog 108 = true := by kernel_rfl
theorem methUp54_bind : methUp Try.prog 54 "e2e/gatelaw.bind" 97 = true := by kernel_rfl
theorem methUp54_finish : methUp Try.prog 54 "e2e/gatelaw.finish" 101 = true := by kernel_rfl
theorem zero56 : zeroOk Try.prog 56 (.agg #[(.pointer none), (.int .u32 0)]) := by unfold zeroOk; kernel_rfl
theorem bld56 : buildOk Try.prog 56 [(0, 1), (1, 1)] = true := by kernel_rfl
theorem conc54 : concT Try.prog 54 = true := by kernel_rfl
theorem sp_dr {P : Program} {f : FuncId} {args : Array Value} {A G F : List (Nat × Obj)} {R R' : Value → List (Nat × Obj) → Prop} (h : Sp P f args A R) (p : F.Perm (A ++ G)) (hr : ∀ v F2, R v F2 → ∃ F' J, R' v F' ∧ Keeps (F2 ++ G) F' J) : Sp P f args F R' := by
  intro w _ hm hn
  have hh := (Has.start hm hn).perm p
  refine (h w trivial hh.left.1 hh.left.2).mono fun e w' he => ?_
  cases e with
  | returned v =>
    obtain ⟨F2, hR, hhas⟩ := he
    obtain ⟨F', J, h1, h2⟩ := hr v F2 hR
    exact ⟨F', h1, (hh.call (fun b hb => hb) hhas).keep h2⟩
  | panicked c => exact he.elim
  | outgrown => exact he.elim
structure SlK (W : WoP) (x : Int) : Prop where
  h : HI W
  c : W.l.d.ph = 2 → x = W.l.d.fid ∨ chkP W.l.d.fn W.l.d.is = true
structure SlJ (W : WoP) (x : Int) : Prop where
  h : HI W
  c : W.l.d.ph = 2 → x = W.l.d.fid
theorem hi_0 : HI (wp0 true) := by
  refine ⟨⟨sti_0, by simp [wp0], fun v hv => ?_, fun p => absurd rfl p, fun j D hD => ?_, fun m hm => ?_, fun m hm => ?_⟩, fun g e => (by cases e), rfl⟩
  · have hv : v ∈ [((0 : Int), np0)] := hv
    rw [List.mem_singleton.1 hv]; exact .inl rfl
  · have hD : ((List.range 16).map dp0)[j]? = some D := hD
    rw [List.getElem?_map] at hD
    cases e : (List.range 16)[j]? with
    | none => rw [e] at hD; cases hD
    | some k =>
      rw [e] at hD
      have ek : j = k := by
        obtain ⟨h1, h2⟩ := List.getElem?_eq_some_iff.1 e
        rw [List.getElem_range] at h2; exact h2
      subst ek
      have hD : some (dp0 j) = some D := hD
      injection hD with hD
      subst hD
      exact ⟨rfl, Int.le_refl 0, .inl ⟨rfl, rfl⟩, .inl rfl, .inl rfl, fun b hb => (by cases hb), fun p => by have p : (0 : Int) = 2 := p; omega⟩
  · rcases hm with hm | hm <;> cases hm
  · rcases hm with hm | hm <;> cases hm
theorem sl_sa {W : WoP} {x : Int} (h : SlK W x) : SlA W.l.d W.dv x := ⟨fun j D hD => by
    have d := h.h.h.dev j D hD
    rcases d.rn with h9 | h9
    · exact .inl h9
    · exact .inr ⟨fun e => h.h.h.sf (by omega) _ (ldV_mem h.h.h.st.vl) (e.symm.trans h9.2.1), h9⟩, fun j D hD => (h.h.h.dev j D hD).sg, fun p e => (h.c p).resolve_left (fun h9 => e h9.symm)⟩
theorem slk_if {W : WoP} {x : Int} {b : Bool} (h : SlK W x) : SlK W (if b = true then x else x) := by cases b <;> exact h
theorem slN_2 {s : StP} {x : Int} (h : s.ph = 2) : slN s x = s.fid := by unfold slN; rw [if_pos h]
theorem slN_bd {Z : List (Nat × Obj)} {W : WoV} (hW : W.ok Z) {x : Int} (h : 0 ≤ x ∧ x ≤ 4294967295) : 0 ≤ slN W.l.pl.d x ∧ slN W.l.pl.d x ≤ 4294967295 := by
  unfold slN
  split
  · exact hW.l.d.fid
  · exact h
def slL (lb wb : Nat) : LawM lb wb where
  T := 54
  fsaw := 110
  ffell := 100
  fboot := 109
  ffate := 99
  fafter := 108
  X := Int
  M := fun _ x F => (0 ≤ x ∧ x ≤ 4294967295) ∧ F = [(lb, C [.pointer (some ⟨wb, 0, none⟩), .int .u32 x] 56)]
  sawR := fun _ _ x _ _ _ _ x' => x' = x
  fellF := fun x => x
  fateF := fun _ _ _ x => x
  bootR := fun _ _ _ x _ x' => x' = x
  afterR := fun W x x' => SlA W.l.d W.dv x ∧ x' = slN W.l.d x
  mono := fun h => h
  dsaw := Disp.up lb methUp54_saw cal110
  dfell := Disp.up lb methUp54_fell cal100
  dboot := Disp.up lb methUp54_booted cal109
  dfate := Disp.up lb methUp54_fate cal99
  dafter := Disp.self _ methOk54_after cal108
  saw := fun W Z x x' Fx i p cap gb g id c sent q cq Eq hW hg hM hi hR hso hsl hid hc hs => by
    subst hs
    exact sp_mono (b_saw (Fx ++ (WoV.F wb W Z ++ Eq)) lb i p cap _ _ _) fun v F ⟨h1, h2⟩ => ⟨h1, Fx, hM, h2⟩
  fell := fun Z x Fx hM => sp_mono (b_fell Fx lb) fun v F ⟨h3, h4⟩ => ⟨h3, by rw [h4]; exact hM⟩
  boot := fun W Z x x' Fx s ok sent q cq Eq hW hM hs hR hso hsl hb => by
    subst hb
    refine sp_dr (b_boot [] lb s ok _) (G := Fx ++ (s.E ++ (WoV.F wb W Z ++ Eq))) (List.Perm.refl _) fun v F ⟨h1, h2⟩ => ⟨Fx ++ (WoV.F wb W Z ++ Eq), s.E, ⟨h1, Fx, hM, rfl⟩, ⟨?_⟩⟩
    rw [h2, List.nil_append, List.append_assoc]
    exact List.Perm.append_left _ List.perm_append_comm
  fate := fun Z x Fx k A B rest h1 h2 hM => sp_mono (b_fate Fx lb _ (by simp [h1]) (by rw [List.all_cons, List.all_cons, List.all_cons, h2]; rfl)) fun v F ⟨h3, h4⟩ => ⟨h3, by rw [h4]; exact hM⟩
  after := fun W Z x x' Fx hW hM h => by
    obtain ⟨h1, rfl⟩ := hM
    obtain ⟨h2, rfl⟩ := h
    exact sp_mono (slaw_spec lb wb W Z hW x h1 h2) fun v F ⟨h3, h4⟩ => ⟨h3, _, ⟨slN_bd hW h1, rfl⟩, h4⟩
def slQ (lb wb : Nat) : LawJ (slL lb wb) where
  J := SlJ
  K := SlK
  jk := fun h => ⟨h.h, fun p => .inl (h.c p)⟩
  mov := fun h h1 h2 => ⟨h.h.mov h1 h2, h.c⟩
  hand := fun _ h hx hd => ⟨h.h.hand hx hd, h.c⟩
  feedM := fun {n W x g m r} hn h hg hx => by
    obtain ⟨h1, h2, h3⟩ := hn.g g hg
    have he := eff (i := msgI m) h1 h2 h3
    have hm : m ∈ W.xg := by rw [hx]; exact List.mem_cons_self ..
    refine ⟨_, rfl, slk_if ⟨h.h.feed hn hg (fun _ => .inr hm) (fun z hz => by rw [hx]; exact List.mem_cons_of_mem _ hz), fun p => ?_⟩⟩
    have e := fedG_l { W with xg := r } g (msgI m)
    rw [e.1] at p ⊢
    obtain ⟨q1, q2, _, q4⟩ := he.p2 p
    rw [show (ginP g ({ W with xg := r } : WoP).l (msgI m)) = ginP g W.l (msgI m) from rfl, q1, q2, he.is (by show ¬ (7 : Int) = 3; decide) (by show ¬ (7 : Int) = 4; decide)]
    rcases q4 with q4 | q4
    · rw [h2] at q4 ⊢; exact h.c q4
    · exact .inr q4.2.2.1
  feedO := fun {n W x g i} hn h hg hk => by
    obtain ⟨h1, h2, h3⟩ := hn.g g hg
    have he := eff (i := i) h1 h2 h3
    refine ⟨_, rfl, slk_if ⟨h.h.feed hn hg (fun k => absurd k hk) (fun z hz => hz), fun p => ?_⟩⟩
    have e := fedG_l W g i
    rw [e.1] at p ⊢
    obtain ⟨q1, q2, _, q4⟩ := he.p2 p
    rcases q4 with q4 | q4
    · rw [q1]; rw [h2] at q4 ⊢; exact .inl (h.c q4)
    · exact absurd q4.1.1 hk
  forge := fun hn h => by rw [h.h.hn] at hn; cases hn
  stub := fun b h hd => ⟨h.h.stub b hd, h.c⟩
  fate := fun _ _ _ h hd _ => ⟨h.h.led hd, fun p => by rw [hd] at p ⊢; exact .inl (h.c p)⟩
  crash := fun h hd => ⟨h.h.fall hd, fun p => by rw [hd] at p ⊢; exact .inl (h.c p)⟩
  boot := fun {n W x} hn h hg => by
    refine ⟨_, rfl, h.h.boot hg, fun p => ?_⟩
    have e := bootW_l hg
    have hb := boot_cs hn.st
    have ho := ops_sti hn.st
    rw [e.1] at p ⊢
    rcases hb.d with d | d
    · rw [d] at p ⊢
      rw [ho.2.2.2.1]
      rcases ho.2.2.2.2.2.2.2.2 with q | q
      · exact h.c (by rw [← q]; exact p)
      · omega
    · rw [d.1] at p ⊢; exact h.c p
  after := fun {n W x} _ h _ _ => ⟨_, ⟨sl_sa h, rfl⟩, h.h, fun p => slN_2 p⟩
def slT (lb : Nat) : LawT lb where
  T := 54
  L := slL lb
  hT := fun _ => rfl
  Q := slQ lb
  hn := true
  x0 := fun _ => (0 : Int)
  F0 := [(lb, C [.pointer none, .int .u32 0] 56)]
  fbind := 97
  ffin := 101
  dbind := Disp.up lb methUp54_bind cal97
  dfin := fun wb => Disp.up lb methUp54_finish cal101
  bind := fun wb Z => sp_mono (b_bind lb wb _ _ 56) fun v F ⟨h1, h2⟩ => ⟨h1, by simp, h2⟩
  fin := fun wb W Z x F n _ _ _ _ _ _ => sp_mono (b_fin (F ++ WoV.F wb W Z) lb) fun v F' ⟨h1, h2⟩ => ⟨h1, F, W, [], by rw [h2, List.append_nil]⟩
  start := fun wb => ⟨hi_0, fun p => by have p : (0 : Int) = 2 := p; omega⟩

attribute [local irreducible] NtV.k StV.c LdV.c StV.E GtV.c GtV.t orB sh1 WoV.c wst postP

set_option maxHeartbeats 4000000 in
theorem law5 (Z : List (Nat × Obj)) (p0 : Option Addr) (n cap : Nat) (ops : List OpX) (hS : Scr Z p0 n cap ops) : Sp Try.prog 5 #[.slice p0 n cap] Z (LawOut Z) := by
  refine f_enter (args := [.slice p0 n cap]) Try.func5 rfl Try.ntmps5 rfl ?_
  intro w0 w a hpre hl hh
  generalize hDD : List.map Prod.fst Z = D at hh ⊢
  simp only [slotsFrom, Nat.reduceAdd] at hl
  refine c_seq ?_
  refine c_region ?_
  refine wl (wl_val hl rfl trivial (r_assign hl rfl) ?_)
  clear hl a; intro a hl
  refine w_nil ?_
  have hl2 := hl.add (t := 0) (hl.nil) rfl; clear hl; have hl := hl2; clear hl2
  refine then_normal ?_
  refine c_seq ?_
  refine c_seq ?_
  refine c_region ?_
  refine wl (wl_val hl rfl trivial (r_move hl rfl) ?_)
  clear hl a; intro a hl
  refine wl (w_call hl hh rfl trivial rfl cal8 rfl (small_spec Z p0 n cap ops hS) (by repeat (first | exact keeps_nil | apply keeps_cons (by repeat (first | exact find_head | apply find_tail | apply find_skip)) (by first  | rfl) | exact keeps_self | exact keeps_left | apply keeps_app | apply keeps_mv | apply keeps_skip)) (memK hh (by repeat (first | exact keeps_nil | apply keeps_cons (by repeat (first | exact find_head | apply find_tail | apply find_skip)) (by first  | rfl) | exact keeps_self | exact keeps_left | apply keeps_app | apply keeps_mv | apply keeps_skip))) ?_)
  clear hl hh a w; intro vc Fc a w hR hl hh
  obtain ⟨⟨b9, rfl, hb9⟩, rfl⟩ := hR
  try simp only [List.cons_append, List.nil_append, List.append_assoc, List.append_nil] at hh
  refine wl (wl_val hl rfl trivial (r_not hl rfl) ?_)
  clear hl a; intro a hl
  refine w_nil ?_
  have hl2 := hl.add (t := 0) (hl.add (t := 5) (hl.nil) rfl) rfl; clear hl; have hl := hl2; clear hl2
  refine then_normal ?_
  refine c_cond hl rfl ?_ ?_
  · intro hc0
    try simp only [decide_eq_true_eq, decide_eq_false_iff_not, Bool.not_eq_true', Bool.not_eq_false', Bool.not_eq_true, Bool.not_eq_false, Bool.and_eq_true, Bool.or_eq_true, Bool.and_eq_false_iff, Bool.or_eq_false_iff, Bool.not_not, ne_eq, Int.not_lt, Int.not_le, Decidable.not_not, beq_iff_eq, bne_iff_ne] at hc0
    refine c_seq ?_
    refine c_region ?_
    refine wl (wl_val hl rfl trivial (r_assign hl rfl) ?_)
    clear hl a; intro a hl
    refine w_nil ?_
    have hl2 := hl.add (t := 2) (hl.nil) rfl; clear hl; have hl := hl2; clear hl2
    refine then_normal ?_
    refine wp_ret ?_
    refine then_ret ?_
    refine f_ret1 (F' := Z) hl hh rfl rfl (by repeat (first | exact keeps_nil | apply keeps_cons (by repeat (first | exact find_head | apply find_tail | apply find_skip)) (by first  | rfl) | exact keeps_self | exact keeps_left | apply keeps_app | apply keeps_mv | apply keeps_skip)) ?_
    exact ⟨rfl, [], List.Perm.refl _⟩
  · intro hc0
    try simp only [decide_eq_true_eq, decide_eq_false_iff_not, Bool.not_eq_true', Bool.not_eq_false', Bool.not_eq_true, Bool.not_eq_false, Bool.and_eq_true, Bool.or_eq_true, Bool.and_eq_false_iff, Bool.or_eq_false_iff, Bool.not_not, ne_eq, Int.not_lt, Int.not_le, Decidable.not_not, beq_iff_eq, bne_iff_ne] at hc0
    refine wp_skip ?_
    refine then_normal ?_
    refine c_seq ?_
    refine c_region ?_
    refine wl (wl_val hl rfl trivial (r_move hl rfl) ?_)
    clear hl a; intro a hl
    refine wl (wl_val hl rfl trivial (r_build hl rfl zero56 bld56 (by simp only [fillL, setL, List.getElem?_cons_zero, List.getElem?_cons_succ, Value.cells, List.take_zero, List.take_succ_cons, List.take_nil, List.drop_zero, List.drop_succ_cons, List.drop_nil, List.length_cons, List.length_nil, List.cons_append, List.nil_append, List.append_nil, Nat.zero_add, Nat.add_zero, Nat.reduceAdd, Nat.reduceBEq, Nat.reduceEqDiff, Nat.ble, BEq.rfl, Bool.and_true, Bool.and_self, cond_true, beq_self_eq_true]; rfl)) ?_)
    clear hl a; intro a hl
    refine wl (w_box hl hh rfl trivial rfl rfl ?_)
    clear hl hh a w; intro k8 a w hl hh
    refine wl (wl_val hl rfl trivial (r_makeInterface hl rfl conc54) ?_)
    clear hl a; intro a hl
    refine wl (w_call hl hh rfl trivial rfl cal9 rfl (play_spec (slT k8) Z p0 n cap ops hS (hb9 hc0).1 (hb9 hc0).2) (by repeat (first | exact keeps_nil | apply keeps_cons (by repeat (first | exact find_head | apply find_tail | apply find_skip)) (by first  | rfl) | exact keeps_self | exact keeps_left | apply keeps_app | apply keeps_mv | apply keeps_skip)) trivial ?_)
    clear hl hh a w; intro vc Fc a w hR hl hh
    obtain ⟨rfl, F2, wb, W', G9, rfl⟩ := hR
    try simp only [List.cons_append, List.nil_append, List.append_assoc, List.append_nil] at hh
    refine wl (wl_val hl rfl trivial (r_assign hl rfl) ?_)
    clear hl a; intro a hl
    refine w_nil ?_
    have hl2 := hl.add (t := 2) (hl.nil) rfl; clear hl; have hl := hl2; clear hl2
    refine then_normal ?_
    refine wp_ret ?_
    refine f_ret1 (F' := F2 ++ WoV.F wb W' (Z ++ G9)) hl hh rfl rfl (by repeat (first | exact keeps_nil | apply keeps_cons (by repeat (first | exact find_head | apply find_tail | apply find_skip)) (by first  | rfl) | exact keeps_self | exact keeps_left | apply keeps_app | apply keeps_mv | apply keeps_skip)) ?_
    exact ⟨rfl, wf_pool F2 wb W' Z G9⟩
end Go.Proofs.Qxb6500908a

import Derived.Test.Qxb6500908aX15
import Derived.Test.Qxb6500908aX23
namespace Go.Proofs.Qxb6500908a
open Go.Eng
set_option linter.unusedVariables false
set_option linter.unusedSimpArgs false
theorem cal100 : callable Try.prog 100 = true := by kernel_rfl
theorem methOk25_saw : methOk Try.prog 25 "e2e/gatelaw.saw" 102 = true := by kernel_rfl
theorem cal102 : callable Try.prog 102 = true := by kernel_rfl
theorem methUp25_fell : methUp Try.prog 25 "e2e/gatelaw.fell" 100 = true := by kernel_rfl
theorem methOk25_booted : methOk Try.prog 25 "e2e/gatelaw.booted" 98 = true := by kernel_rfl
theorem cal98 : callable Try.prog 98 = true := by kernel_rfl
theorem methUp25_fate : methUp Try.prog 25 "e2e/gatelaw.fate" 99 = true := by kernel_rfl
theorem methUp25_after : methUp Try.prog 25 "e2e/gatelaw.after" 96 = true := by kernel_rfl
theorem methUp25_bind : methUp Try.prog 25 "e2e/gatelaw.bind" 97 = true := by kernel_rfl
theorem methUp25_finish : methUp Try.prog 25 "e2e/gatelaw.finish" 101 = true := by kernel_rfl
theorem zero50 : zeroOk Try.prog 50 (.agg #[(.pointer none), (.int .u32 0), (.slice none 0 0), (.slice none 0 0), (.int .u32 0), (.int .u8 0), (.slice none 0 0), (.slice none 0 0), (.int .u16 0), (.slice none 0 0), (.slice none 0 0), (.int .u16 0), (.slice none 0 0), (.slice none 0 0), (.int .u16 0), (.slice none 0 0), (.slice none 0 0), (.int .u16 0), (.slice none 0 0), (.slice none 0 0), (.int .u16 0), (.slice none 0 0), (.slice none 0 0), (.int .u16 0), (.slice none 0 0), (.slice none 0 0), (.int .u16 0), (.slice none 0 0), (.slice none 0 0), (.int .u16 0), (.slice none 0 0), (.slice none 0 0), (.int .u16 0), (.slice none 0 0), (.slice none 0 0), (.int .u16 0), (.slice none 0 0), (.slice none 0 0), (.int .u16 0), (.slice none 0 0), (.slice none 0 0), (.int .u16 0), (.slice none 0 0), (.slice none 0 0), (.int .u16 0), (.slice none 0 0), (.slice none 0 0), (.int .u16 0), (.slice none 0 0), (.slice none 0 0), (.int .u16 0), (.slice none 0 0), (.slice none 0 0), (.int .u16 0), (.int .u16 0), (.int .u16 0), (.int .u16 0), (.int .u16 0), (.int .u16 0), (.int .u16 0), (.int .u16 0), (.int .u16 0), (.int .u16 0), (.int .u16 0), (.int .u16 0), (.int .u16 0), (.int .u16 0), (.int .u16 0), (.int .u16 0), (.int .u16 0), (.map none), (.map none), (.map none), (.map none), (.int .i64 0)]) := by unfold zeroOk; kernel_rfl
theorem bld50 : buildOk Try.prog 50 [(0, 1), (1, 70), (71, 1), (72, 1), (73, 1), (74, 1)] = true := by kernel_rfl
theorem conc25 : concT Try.prog 25 = true := by kernel_rfl
def vo0 (yb cb rb : Nat) : VoM := ⟨none, yb, [], cb, [], rb, [], 0⟩
set_option maxRecDepth 20000 in
theorem fill50z {yb cb rb : Nat} : fillL [(0, 1), (1, 70), (71, 1), (72, 1), (73, 1), (74, 1)] [(.pointer none), (.int .u32 0), (.slice none 0 0), (.slice none 0 0), (.int .u32 0), (.int .u8 0), (.slice none 0 0), (.slice none 0 0), (.int .u16 0), (.slice none 0 0), (.slice none 0 0), (.int .u16 0), (.slice none 0 0), (.slice none 0 0), (.int .u16 0), (.slice none 0 0), (.slice none 0 0), (.int .u16 0), (.slice none 0 0), (.slice none 0 0), (.int .u16 0), (.slice none 0 0), (.slice none 0 0), (.int .u16 0), (.slice none 0 0), (.slice none 0 0), (.int .u16 0), (.slice none 0 0), (.slice none 0 0), (.int .u16 0), (.slice none 0 0), (.slice none 0 0), (.int .u16 0), (.slice none 0 0), (.slice none 0 0), (.int .u16 0), (.slice none 0 0), (.slice none 0 0), (.int .u16 0), (.slice none 0 0), (.slice none 0 0), (.int .u16 0), (.slice none 0 0), (.slice none 0 0), (.int .u16 0), (.slice none 0 0), (.slice none 0 0), (.int .u16 0), (.slice none 0 0), (.slice none 0 0), (.int .u16 0), (.slice none 0 0), (.slice none 0 0), (.int .u16 0), (.int .u16 0), (.int .u16 0), (.int .u16 0), (.int .u16 0), (.int .u16 0), (.int .u16 0), (.int .u16 0), (.int .u16 0), (.int .u16 0), (.int .u16 0), (.int .u16 0), (.int .u16 0), (.int .u16 0), (.int .u16 0), (.int .u16 0), (.int .u16 0), (.map none), (.map none), (.map none), (.map none), (.int .i64 0)] [(2, .map (some yb)), (3, .map (some cb)), (4, .map (some rb))] = some (.pointer none :: (z48 ++ (vo0 yb cb rb).t)) := rfl
theorem voM_app {Z G : List (Nat × Obj)} {V : VoM} (h : V.ok Z) : V.ok (Z ++ G) := ⟨fun s e => (h.pv s e).app, h.yv, h.cv, h.rv, h.tk⟩
theorem nt_bd {g : GtP} {l : LdP} {x : VoX} (i : InP) (h1 : GtI g) (h2 : g.st = l.d) (hJ : VoJ l (some g) x) : 0 ≤ x.nt i ∧ x.nt i ≤ 8 := by
  unfold VoX.nt
  split
  · rename_i h3
    have h4 : l.d.ph = 1 := by rw [← hJ.p g rfl]; exact h3
    have h5 := (hJ.g1 g rfl h4).2
    have h6 := h1.t1 (by rw [h2]; exact h4)
    have h7 := h1.t
    split <;> omega
  · omega
theorem vo0_F (lb wb yb cb rb : Nat) : VoM.F lb wb (vo0 yb cb rb) = [(lb, C (.pointer (some ⟨wb, 0, none⟩) :: (z48 ++ (vo0 yb cb rb).t)) 50), (yb, MO (kInt .u32) []), (cb, MO (kInt .u32) []), (rb, MO (kInt .u32) [])] := rfl
structure VoK (W : WoP) (x : VoX × Bool) : Prop where
  j : VoJ W.l W.g x.1
  t : 0 ≤ x.1.tk ∧ x.1.tk ≤ 8
  l : ∀ g, W.g = some g → x.2 = true
theorem voK_if {W : WoP} {y : VoX × Bool} {b : Bool} (h : VoK W y) : VoK W (if b = true then y else y) := by cases b <;> exact h

def voL (lb wb : Nat) : LawM lb wb where
  T := 25
  fsaw := 102
  ffell := 100
  fboot := 98
  ffate := 99
  fafter := 96
  X := VoX × Bool
  M := fun Z x F => ∃ V : VoM, V.ok Z ∧ V.pl = x.1 ∧ V.pv.isSome = x.2 ∧ F = V.F lb wb
  sawR := fun now up x i _ _ sent x' => x.2 = true ∧ VoS now up x.1 i sent ∧ x.1.tk ≤ 100 ∧ x' = (x.1.nx i now sent, true)
  fellF := fun x => x
  fateF := fun _ _ _ x => x
  bootR := fun _ now ok x sent x' => SntR now x.1.ys (cmU x.1.cm 1 sent) (cmU x.1.rl 2 sent) sent ∧ (ok = true → ¬ now.ph = 1) ∧ x' = (x.1.bt now sent, true)
  afterR := fun _ x x' => x' = x
  mono := fun ⟨V, h1, h2⟩ => ⟨V, voM_app h1, h2⟩
  dsaw := Disp.self _ methOk25_saw cal102
  dfell := Disp.up lb methUp25_fell cal100
  dboot := Disp.self _ methOk25_booted cal98
  dfate := Disp.up lb methUp25_fate cal99
  dafter := Disp.up lb methUp25_after cal96
  saw := fun W Z x x' Fx i p cap gb g id c sent q cq Eq hW hg hM hi hR hso hsl hid hc hs => by
    obtain ⟨V, h1, h2, h3, rfl⟩ := hM
    obtain ⟨h4, h5, h6, rfl⟩ := hs
    rw [← h2] at h5 h6 ⊢
    cases e : V.pv with
    | none => rw [h4, e] at h3; cases h3
    | some s0 => exact sp_mono (vsaw_spec lb wb W Z hW gb g hg i p cap hi id c sent q cq Eq hR hsl hso V h1 h6 s0 e h5) fun v F ⟨h7, V', h8, h9, h10, h11⟩ => ⟨h7, _, ⟨V', h8, h10, h9, rfl⟩, h11⟩
  fell := fun Z x Fx hM => sp_mono (b_fell Fx lb) fun v F ⟨h3, h4⟩ => ⟨h3, by rw [h4]; exact hM⟩
  boot := fun W Z x x' Fx s ok sent q cq Eq hW hM hs hR hso hsl hb => by
    obtain ⟨V, h1, h2, h3, rfl⟩ := hM
    obtain ⟨h4, h5, rfl⟩ := hb
    rw [← h2] at h4 ⊢
    exact sp_mono (vboot_spec lb wb W Z hW s hs ok sent q cq Eq hR hsl V h1 h4 h5) fun v F ⟨h7, V', h8, h9, h10, h11⟩ => ⟨h7, _, ⟨V', h8, h10, h9, rfl⟩, h11⟩
  fate := fun Z x Fx k A B rest h1 h2 hM => sp_mono (b_fate Fx lb _ (by simp [h1]) (by rw [List.all_cons, List.all_cons, List.all_cons, h2]; rfl)) fun v F ⟨h3, h4⟩ => ⟨h3, by rw [h4]; exact hM⟩
  after := fun W Z x x' Fx hW hM h => sp_mono (b_after (Fx ++ WoV.F wb W Z) lb) fun v F ⟨h3, h4⟩ => ⟨h3, Fx, by rw [h]; exact hM, h4⟩
def voQ (lb wb : Nat) : LawJ (voL lb wb) where
  J := VoK
  K := VoK
  jk := fun h => h
  mov := fun h _ _ => ⟨h.j, h.t, h.l⟩
  hand := fun _ h _ _ => ⟨h.j, h.t, h.l⟩
  feedM := fun {n W x g m r} hn h hg _ => by
    obtain ⟨h1, h2, h3⟩ := hn.g g hg
    have h' : VoJ W.l (some g) x.1 := by rw [← hg]; exact h.j
    obtain ⟨a1, a2⟩ := vote_feed (i := msgI m) h1 h2 h3 h'
    refine ⟨_, ⟨h.l g hg, a1, by have := h.t; omega, rfl⟩, voK_if ⟨?_, nt_bd _ h1 h2 h', fun _ _ => rfl⟩⟩
    have e := fedG_l { W with xg := r } g (msgI m)
    show VoJ (fedG { W with xg := r } g (msgI m)).l (fedG { W with xg := r } g (msgI m)).g _
    rw [e.1, e.2]; exact a2
  feedO := fun {n W x g i} hn h hg _ => by
    obtain ⟨h1, h2, h3⟩ := hn.g g hg
    have h' : VoJ W.l (some g) x.1 := by rw [← hg]; exact h.j
    obtain ⟨a1, a2⟩ := vote_feed (i := i) h1 h2 h3 h'
    refine ⟨_, ⟨h.l g hg, a1, by have := h.t; omega, rfl⟩, voK_if ⟨?_, nt_bd _ h1 h2 h', fun _ _ => rfl⟩⟩
    have e := fedG_l W g i
    show VoJ (fedG W g i).l (fedG W g i).g _
    rw [e.1, e.2]; exact a2
  forge := fun _ h => ⟨h.j, h.t, h.l⟩
  stub := fun _ h _ => ⟨h.j, h.t, h.l⟩
  fate := fun _ _ _ h hd _ => ⟨vote_led h.j hd, h.t, h.l⟩
  crash := fun h hd => ⟨vote_fall h.j hd, h.t, fun g e => (by cases e)⟩
  boot := fun {n W x} hn h hg => by
    have h' : VoJ W.l none x.1 := by rw [← hg]; exact h.j
    obtain ⟨a1, a2, a3⟩ := vote_boot hn.st h'
    refine ⟨_, ⟨a1, a2, rfl⟩, ?_, ⟨Int.le_refl 0, by show (0 : Int) ≤ 8; decide⟩, fun _ _ => rfl⟩
    have e := bootW_l hg
    show VoJ (bootW W).l (bootW W).g _
    rw [e.1, e.2]; exact a3
  after := fun _ h _ _ => ⟨_, rfl, h⟩
def vx0 : VoX := ⟨sp0, fun _ => 0, fun _ => false, fun _ => false, 0⟩
def voT (lb yb cb rb : Nat) : LawT lb where
  T := 25
  L := voL lb
  hT := fun _ => rfl
  Q := voQ lb
  hn := false
  x0 := fun _ => (vx0, false)
  F0 := [(lb, C (.pointer none :: (z48 ++ (vo0 yb cb rb).t)) 50), (yb, MO (kInt .u32) []), (cb, MO (kInt .u32) []), (rb, MO (kInt .u32) [])]
  fbind := 97
  ffin := 101
  dbind := Disp.up lb methUp25_bind cal97
  dfin := fun wb => Disp.up lb methUp25_finish cal101
  bind := fun wb Z => sp_fr (b_bind lb wb _ _ 50) (List.Perm.refl _) fun v F2 ⟨h1, h2⟩ => ⟨_, ⟨h1, vo0 yb cb rb, ⟨fun s e => (by cases e), fun i v h => (by cases h), fun i v h => (by cases h), fun i v h => (by cases h), ⟨Int.le_refl 0, by show (0 : Int) ≤ 1000; decide⟩⟩, rfl, rfl, rfl⟩, by rw [h2, vo0_F]; exact List.Perm.refl _⟩
  fin := fun wb W Z x F n _ _ _ _ _ _ => sp_mono (b_fin (F ++ WoV.F wb W Z) lb) fun v F' ⟨h1, h2⟩ => ⟨h1, F, W, [], by rw [h2, List.append_nil]⟩
  start := fun wb => ⟨⟨fun g h => (by cases h), fun b h => (by cases h), fun b h => (by cases h), fun h => absurd h (by decide), fun b => ⟨Int.le_refl 0, by show (0 : Int) ≤ 65535; decide⟩, fun g h => (by cases h)⟩, ⟨Int.le_refl 0, by show (0 : Int) ≤ 8; decide⟩, fun g h => (by cases h)⟩

attribute [local irreducible] NtV.k StV.c LdV.c StV.E GtV.c GtV.t orB sh1 WoV.c wst postP

set_option maxHeartbeats 4000000 in
theorem law3 (Z : List (Nat × Obj)) (p0 : Option Addr) (n cap : Nat) (ops : List OpX) (hS : Scr Z p0 n cap ops) : Sp Try.prog 3 #[.slice p0 n cap] Z (LawOut Z) := by
  refine f_enter (args := [.slice p0 n cap]) Try.func3 rfl Try.ntmps3 rfl ?_
  intro w0 w a hpre hl hh
  generalize hDD : List.map Prod.fst Z = D at hh ⊢
  simp only [slotsFrom, Nat.reduceAdd] at hl
  refine c_seq ?_
  refine c_region ?_
  refine wl (wl_val hl rfl trivial (r_assign hl rfl) ?_)
  clear hl a; intro a hl
  refine w_nil ?_
  have hl2 := hl.add (t := 0) (hl.nil) rfl; clear hl; have hl := hl2; clear hl2
  refine then_normal ?_
  refine c_seq ?_
  refine c_seq ?_
  refine c_region ?_
  refine wl (wl_val hl rfl trivial (r_move hl rfl) ?_)
  clear hl a; intro a hl
  refine wl (w_call hl hh rfl trivial rfl cal8 rfl (small_spec Z p0 n cap ops hS) (by repeat (first | exact keeps_nil | apply keeps_cons (by repeat (first | exact find_head | apply find_tail | apply find_skip)) (by first  | rfl) | exact keeps_self | exact keeps_left | apply keeps_app | apply keeps_mv | apply keeps_skip)) (memK hh (by repeat (first | exact keeps_nil | apply keeps_cons (by repeat (first | exact find_head | apply find_tail | apply find_skip)) (by first  | rfl) | exact keeps_self | exact keeps_left | apply keeps_app | apply keeps_mv | apply keeps_skip))) ?_)
  clear hl hh a w; intro vc Fc a w hR hl hh
  obtain ⟨⟨b9, rfl, hb9⟩, rfl⟩ := hR
  try simp only [List.cons_append, List.nil_append, List.append_assoc, List.append_nil] at hh
  refine wl (wl_val hl rfl trivial (r_not hl rfl) ?_)
  clear hl a; intro a hl
  refine w_nil ?_
  have hl2 := hl.add (t := 0) (hl.add (t := 5) (hl.nil) rfl) rfl; clear hl; have hl := hl2; clear hl2
  refine then_normal ?_
  refine c_cond hl rfl ?_ ?_
  · intro hc0
    try simp only [decide_eq_true_eq, decide_eq_false_iff_not, Bool.not_eq_true', Bool.not_eq_false', Bool.not_eq_true, Bool.not_eq_false, Bool.and_eq_true, Bool.or_eq_true, Bool.and_eq_false_iff, Bool.or_eq_false_iff, Bool.not_not, ne_eq, Int.not_lt, Int.not_le, Decidable.not_not, beq_iff_eq, bne_iff_ne] at hc0
    refine c_seq ?_
    refine c_region ?_
    refine wl (wl_val hl rfl trivial (r_assign hl rfl) ?_)
    clear hl a; intro a hl
    refine w_nil ?_
    have hl2 := hl.add (t := 2) (hl.nil) rfl; clear hl; have hl := hl2; clear hl2
    refine then_normal ?_
    refine wp_ret ?_
    refine then_ret ?_
    refine f_ret1 (F' := Z) hl hh rfl rfl (by repeat (first | exact keeps_nil | apply keeps_cons (by repeat (first | exact find_head | apply find_tail | apply find_skip)) (by first  | rfl) | exact keeps_self | exact keeps_left | apply keeps_app | apply keeps_mv | apply keeps_skip)) ?_
    exact ⟨rfl, [], List.Perm.refl _⟩
  · intro hc0
    try simp only [decide_eq_true_eq, decide_eq_false_iff_not, Bool.not_eq_true', Bool.not_eq_false', Bool.not_eq_true, Bool.not_eq_false, Bool.and_eq_true, Bool.or_eq_true, Bool.and_eq_false_iff, Bool.or_eq_false_iff, Bool.not_not, ne_eq, Int.not_lt, Int.not_le, Decidable.not_not, beq_iff_eq, bne_iff_ne] at hc0
    refine wp_skip ?_
    refine then_normal ?_
    refine c_seq ?_
    refine c_region ?_
    refine wl (wl_val hl rfl trivial (r_move hl rfl) ?_)
    clear hl a; intro a hl
    refine wl (w_makeMap (kInt .u32) hl hh rfl trivial ?_)
    clear hl hh a w; intro k7 a w hl hh
    refine wl (w_makeMap (kInt .u32) hl hh rfl trivial ?_)
    clear hl hh a w; intro k8 a w hl hh
    refine wl (w_makeMap (kInt .u32) hl hh rfl trivial ?_)
    clear hl hh a w; intro k9 a w hl hh
    refine wl (wl_val hl rfl trivial (r_build hl rfl zero50 bld50 fill50z) ?_)
    clear hl a; intro a hl
    refine wl (w_box hl hh rfl trivial rfl rfl ?_)
    clear hl hh a w; intro k11 a w hl hh
    refine wl (wl_val hl rfl trivial (r_makeInterface hl rfl conc25) ?_)
    clear hl a; intro a hl
    refine wl (w_call hl hh rfl trivial rfl cal9 rfl (play_spec (voT k11 k7 k8 k9) Z p0 n cap ops hS (hb9 hc0).1 (hb9 hc0).2) (by repeat (first | exact keeps_nil | apply keeps_cons (by repeat (first | exact find_head | apply find_tail | apply find_skip)) (by first  | rfl) | exact keeps_self | exact keeps_left | apply keeps_app | apply keeps_mv | apply keeps_skip)) trivial ?_)
    clear hl hh a w; intro vc Fc a w hR hl hh
    obtain ⟨rfl, F2, wb, W', G9, rfl⟩ := hR
    try simp only [List.cons_append, List.nil_append, List.append_assoc, List.append_nil] at hh
    refine wl (wl_val hl rfl trivial (r_assign hl rfl) ?_)
    clear hl a; intro a hl
    refine w_nil ?_
    have hl2 := hl.add (t := 2) (hl.nil) rfl; clear hl; have hl := hl2; clear hl2
    refine then_normal ?_
    refine wp_ret ?_
    refine f_ret1 (F' := F2 ++ WoV.F wb W' (Z ++ G9)) hl hh rfl rfl (by repeat (first | exact keeps_nil | apply keeps_cons (by repeat (first | exact find_head | apply find_tail | apply find_skip)) (by first  | rfl) | exact keeps_self | exact keeps_left | apply keeps_app | apply keeps_mv | apply keeps_skip)) ?_
    exact ⟨rfl, wf_pool F2 wb W' Z G9⟩
end Go.Proofs.Qxb6500908a

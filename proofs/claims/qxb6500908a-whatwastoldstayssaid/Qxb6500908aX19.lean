import Derived.Test.Qxb6500908aX15
import Derived.Test.Qxb6500908aX18
import Derived.Test.Qxb6500908aX17a
import Derived.Test.Qxb6500908aX17b
import Derived.Test.Qxb6500908aX17c
import Derived.Test.Qxb6500908aX17d
namespace Go.Proofs.Qxb6500908a
open Go.Eng
set_option linter.unusedVariables false
set_option linter.unusedSimpArgs false
theorem methOk60_saw : methOk Try.prog 60 "e2e/gatelaw.saw" 114 = true := by kernel_rfl
theorem cal114 : callable Try.prog 114 = true := by kernel_rfl
theorem methUp60_fell : methUp Try.prog 60 "e2e/gatelaw.fell" 100 = true := by kernel_rfl
theorem cal100 : callable Try.prog 100 = true := by kernel_rfl
theorem methOk60_booted : methOk Try.prog 60 "e2e/gatelaw.booted" 113 = true := by kernel_rfl
theorem cal113 : callable Try.prog 113 = true := by kernel_rfl
theorem methUp60_fate : methUp Try.prog 60 "e2e/gatelaw.fate" 99 = true := by kernel_rfl
theorem methUp60_after : methUp Try.prog 60 "e2e/gatelaw.after" 96 = true := by kernel_rfl
theorem methUp60_bind : methUp Try.prog 60 "e2e/gatelaw.bind" 97 = true := by kernel_rfl
theorem methUp60_finish : methUp Try.prog 60 "e2e/gatelaw.finish" 101 = true := by kernel_rfl
theorem zero62 : zeroOk Try.prog 62 (.agg #[(.pointer none), (.map none), (.slice none 0 0), (.slice none 0 0), (.bool false)]) := by unfold zeroOk; kernel_rfl
theorem bld62 : buildOk Try.prog 62 [(0, 1), (1, 1), (2, 1), (3, 1), (4, 1)] = true := by kernel_rfl
theorem conc60 : concT Try.prog 60 = true := by kernel_rfl
theorem tsaw_spec (lb wb : Nat) (W : WoV) (Z : List (Nat × Obj)) (hW : W.ok Z) (gb : Nat) (g : GtV) (hg : W.g = some (gb, g)) (i : InP) (p : Option Addr) (cap : Nat) (hi : InOk Z i p cap) (id9 c9 : Int) (sent : List Ms) (q : Option Addr) (cq : Nat) (Es : List (Nat × Obj)) (hR : ROWB q sent cq Es) (hsl : sent.length ≤ 100) (hso : ∀ m, m ∈ sent → m.ok) (V : ToV) (hV : V.ok) (hil : V.iv.length ≤ 16) (hid : 0 ≤ id9 ∧ id9 ≤ 4294967295) (hcb : 0 ≤ c9 ∧ c9 ≤ 255) (hS : ToS W.l.pl.d V.pl i id9 c9) : Sp Try.prog 114 #[.pointer (some ⟨lb, 0, none⟩), .agg ⟨inC i p cap⟩, .int .u32 id9, .int .u8 c9, .slice q sent.length cq] (V.F lb wb ++ (WoV.F wb W Z ++ Es)) (fun v F' => v = .bool true ∧ ∃ V' : ToV, V'.ok ∧ V'.pl = V.pl.nx i c9 ∧ F' = V'.F lb wb ++ (WoV.F wb W Z ++ Es)) := by
  have hk := hi.k
  by_cases h1 : i.k = 1 ∨ i.k = 2
  · exact tsaw_a lb wb W Z hW gb g hg i p cap hi id9 c9 sent q cq Es hR hsl hso h1 V hV hil hid hcb hS
  by_cases h0 : i.k = 0
  · exact tsaw_b lb wb W Z hW gb g hg i p cap hi id9 c9 sent q cq Es hR hsl hso h0 V hV hil hid hcb hS
  by_cases h3 : i.k = 3 ∨ i.k = 4
  · exact tsaw_c lb wb W Z hW gb g hg i p cap hi id9 c9 sent q cq Es hR hsl hso h3 V hV hil hid hcb hS
  · exact tsaw_d lb wb W Z hW gb g hg i p cap hi id9 c9 sent q cq Es hR hsl hso (by omega) V hV hil hid hcb hS
def toL (lb wb : Nat) : LawM lb wb where
  T := 60
  fsaw := 114
  ffell := 100
  fboot := 113
  ffate := 99
  fafter := 96
  X := ToX
  M := fun Z x F => ∃ V : ToV, V.ok ∧ V.pl = x ∧ F = V.F lb wb
  sawR := fun now up x i id c sent x' => ToS now x i id c ∧ x.iv.length ≤ 16 ∧ x' = x.nx i c
  fellF := fun x => x
  fateF := fun _ _ _ x => x
  bootR := fun bf now ok x sent x' => sameP now.is (toB x now ok).iv = true ∧ (∀ b c, x.tl b = some c → now.vd b = some c) ∧ x.iv.length ≤ 16 ∧ x.mb.length ≤ 17 ∧ x' = toB x now ok
  afterR := fun _ x x' => x' = x
  mono := fun h => h
  dsaw := Disp.self _ methOk60_saw cal114
  dfell := Disp.up lb methUp60_fell cal100
  dboot := Disp.self _ methOk60_booted cal113
  dfate := Disp.up lb methUp60_fate cal99
  dafter := Disp.up lb methUp60_after cal96
  saw := fun W Z x x' Fx i p cap gb g id c sent q cq Eq hW hg hM hi hR hso hsl hid hc hs => by
    obtain ⟨V, h1, rfl, rfl⟩ := hM
    obtain ⟨h2, h3, rfl⟩ := hs
    exact sp_mono (tsaw_spec lb wb W Z hW gb g hg i p cap hi id c sent q cq Eq hR hsl hso V h1 h3 hid hc h2) fun v F ⟨h4, V', h5, h6, h7⟩ => ⟨h4, _, ⟨V', h5, h6, rfl⟩, h7⟩
  fell := fun Z x Fx hM => sp_mono (b_fell Fx lb) fun v F ⟨h3, h4⟩ => ⟨h3, by rw [h4]; exact hM⟩
  boot := fun W Z x x' Fx s ok sent q cq Eq hW hM hs hR hso hsl hb => by
    obtain ⟨V, h1, rfl, rfl⟩ := hM
    obtain ⟨h2, h3, h4, h5, rfl⟩ := hb
    exact sp_mono (tboot_spec lb wb W Z hW s hs ok sent q cq Eq hR hsl V h1 h4 h5 h2 h3) fun v F ⟨h6, V', h7, h8, h9⟩ => ⟨h6, _, ⟨V', h7, h8, rfl⟩, h9⟩
  fate := fun Z x Fx k A B rest h1 h2 hM => sp_mono (b_fate Fx lb _ (by simp [h1]) (by rw [List.all_cons, List.all_cons, List.all_cons, h2]; rfl)) fun v F ⟨h3, h4⟩ => ⟨h3, by rw [h4]; exact hM⟩
  after := fun W Z x x' Fx hW hM h => sp_mono (b_after (Fx ++ WoV.F wb W Z) lb) fun v F ⟨h3, h4⟩ => ⟨h3, Fx, by rw [h]; exact hM, h4⟩
theorem to_if {l : LdP} {g : Option GtP} {y : ToX} {b : Bool} (lb wb : Nat) (h : ToJ l g y) : ToJ l g (if b = true then (toL lb wb).fellF y else y) := by cases b <;> exact h
def toQ (lb wb : Nat) : LawJ (toL lb wb) where
  J := fun W x => ToJ W.l W.g x
  K := fun W x => ToJ W.l W.g x
  jk := fun h => h
  mov := fun h _ _ => h
  hand := fun _ h _ _ => h
  feedM := fun {n W x g m r} hn h hg _ => by
    obtain ⟨h1, h2, h3⟩ := hn.g g hg
    have h' : ToJ W.l (some g) x := by rw [← hg]; exact h
    obtain ⟨a1, a2⟩ := told_feed (i := msgI m) h1 h2 h3 h'
    refine ⟨_, ⟨a1, h'.il, rfl⟩, ?_⟩
    have e := fedG_l { W with xg := r } g (msgI m)
    show ToJ (fedG { W with xg := r } g (msgI m)).l (fedG { W with xg := r } g (msgI m)).g _
    rw [e.1, e.2]; exact to_if lb wb a2
  feedO := fun {n W x g i} hn h hg _ => by
    obtain ⟨h1, h2, h3⟩ := hn.g g hg
    have h' : ToJ W.l (some g) x := by rw [← hg]; exact h
    obtain ⟨a1, a2⟩ := told_feed (i := i) h1 h2 h3 h'
    refine ⟨_, ⟨a1, h'.il, rfl⟩, ?_⟩
    have e := fedG_l W g i
    show ToJ (fedG W g i).l (fedG W g i).g _
    rw [e.1, e.2]; exact to_if lb wb a2
  forge := fun _ h => h
  stub := fun _ h _ => h
  fate := fun _ _ _ h hd _ => told_led h hd
  crash := fun h hd => told_fall h hd
  boot := fun {n W x} hn h hg => by
    have h' : ToJ W.l none x := by rw [← hg]; exact h
    obtain ⟨a1, a2, a3⟩ := told_boot hn.st h' _ rfl
    refine ⟨_, ⟨a1, a2, h'.il, h'.ml, rfl⟩, ?_⟩
    have e := bootW_l hg
    show ToJ (bootW W).l (bootW W).g _
    rw [e.1, e.2]; exact a3
  after := fun _ h _ _ => ⟨_, rfl, h⟩
def tx0 : ToX := ⟨fun _ => none, [], [], false⟩
def toT (lb tb : Nat) : LawT lb where
  T := 60
  L := toL lb
  hT := fun _ => rfl
  Q := toQ lb
  hn := false
  x0 := fun _ => tx0
  F0 := [(lb, C [.pointer none, .map (some tb), .slice none 0 0, .slice none 0 0, .bool false] 62), (tb, MO (kInt .u32) [])]
  fbind := 97
  ffin := 101
  dbind := Disp.up lb methUp60_bind cal97
  dfin := fun wb => Disp.up lb methUp60_finish cal101
  bind := fun wb Z => sp_fr (b_bind lb wb _ _ 62) (List.Perm.refl _) fun v F2 ⟨h1, h2⟩ => ⟨_, ⟨h1, ⟨tb, [], [], none, 0, [], none, 0, false, []⟩, ⟨⟨[], Row.nil _ _, fun y hy => (by cases hy)⟩, ⟨[], Row.nil _ _, fun y hy => (by cases hy)⟩, fun y hy => (by cases hy), fun y hy => (by cases hy), fun i v h => (by cases h), List.nodup_nil⟩, rfl, rfl⟩, by rw [h2]; exact List.Perm.refl _⟩
  fin := fun wb W Z x F n _ _ _ _ _ _ => sp_mono (b_fin (F ++ WoV.F wb W Z) lb) fun v F' ⟨h1, h2⟩ => ⟨h1, F, W, [], by rw [h2, List.append_nil]⟩
  start := fun wb => ⟨fun b c h => (by cases h), .inl ⟨List.nodup_nil, List.nodup_nil, List.Perm.refl _⟩, List.nodup_nil, fun h => (by cases h), fun g h => (by cases h), Nat.zero_le _, Nat.zero_le _⟩

attribute [local irreducible] NtV.k StV.c LdV.c StV.E GtV.c GtV.t orB sh1 WoV.c wst postP

set_option maxHeartbeats 4000000 in
theorem law7 (Z : List (Nat × Obj)) (p0 : Option Addr) (n cap : Nat) (ops : List OpX) (hS : Scr Z p0 n cap ops) : Sp Try.prog 7 #[.slice p0 n cap] Z (LawOut Z) := by
  refine f_enter (args := [.slice p0 n cap]) Try.func7 rfl Try.ntmps7 rfl ?_
  intro w0 w a hpre hl hh
  generalize hDD : List.map Prod.fst Z = D at hh ⊢
  simp only [slotsFrom, Nat.reduceAdd] at hl
  refine c_seq ?_
  refine c_region ?_
  refine wl (wl_val hl rfl trivial (r_assign hl rfl) ?_)
  clear hl a; intro a hl
  refine w_nil ?_
  have hl2 := hl.add (t := 0) (hl.nil) rfl; clear hl; have hl := hl2; clear hl2
  refine then_normal ?_
  refine c_seq ?_
  refine c_seq ?_
  refine c_region ?_
  refine wl (wl_val hl rfl trivial (r_move hl rfl) ?_)
  clear hl a; intro a hl
  refine wl (w_call hl hh rfl trivial rfl cal8 rfl (small_spec Z p0 n cap ops hS) (by repeat (first | exact keeps_nil | apply keeps_cons (by repeat (first | exact find_head | apply find_tail | apply find_skip)) (by first  | rfl) | exact keeps_self | exact keeps_left | apply keeps_app | apply keeps_mv | apply keeps_skip)) (memK hh (by repeat (first | exact keeps_nil | apply keeps_cons (by repeat (first | exact find_head | apply find_tail | apply find_skip)) (by first  | rfl) | exact keeps_self | exact keeps_left | apply keeps_app | apply keeps_mv | apply keeps_skip))) ?_)
  clear hl hh a w; intro vc Fc a w hR hl hh
  obtain ⟨⟨b9, rfl, hb9⟩, rfl⟩ := hR
  try simp only [List.cons_append, List.nil_append, List.append_assoc, List.append_nil] at hh
  refine wl (wl_val hl rfl trivial (r_not hl rfl) ?_)
  clear hl a; intro a hl
  refine w_nil ?_
  have hl2 := hl.add (t := 0) (hl.add (t := 5) (hl.nil) rfl) rfl; clear hl; have hl := hl2; clear hl2
  refine then_normal ?_
  refine c_cond hl rfl ?_ ?_
  · intro hc0
    try simp only [decide_eq_true_eq, decide_eq_false_iff_not, Bool.not_eq_true', Bool.not_eq_false', Bool.not_eq_true, Bool.not_eq_false, Bool.and_eq_true, Bool.or_eq_true, Bool.and_eq_false_iff, Bool.or_eq_false_iff, Bool.not_not, ne_eq, Int.not_lt, Int.not_le, Decidable.not_not, beq_iff_eq, bne_iff_ne] at hc0
    refine c_seq ?_
    refine c_region ?_
    refine wl (wl_val hl rfl trivial (r_assign hl rfl) ?_)
    clear hl a; intro a hl
    refine w_nil ?_
    have hl2 := hl.add (t := 2) (hl.nil) rfl; clear hl; have hl := hl2; clear hl2
    refine then_normal ?_
    refine wp_ret ?_
    refine then_ret ?_
    refine f_ret1 (F' := Z) hl hh rfl rfl (by repeat (first | exact keeps_nil | apply keeps_cons (by repeat (first | exact find_head | apply find_tail | apply find_skip)) (by first  | rfl) | exact keeps_self | exact keeps_left | apply keeps_app | apply keeps_mv | apply keeps_skip)) ?_
    exact ⟨rfl, [], List.Perm.refl _⟩
  · intro hc0
    try simp only [decide_eq_true_eq, decide_eq_false_iff_not, Bool.not_eq_true', Bool.not_eq_false', Bool.not_eq_true, Bool.not_eq_false, Bool.and_eq_true, Bool.or_eq_true, Bool.and_eq_false_iff, Bool.or_eq_false_iff, Bool.not_not, ne_eq, Int.not_lt, Int.not_le, Decidable.not_not, beq_iff_eq, bne_iff_ne] at hc0
    refine wp_skip ?_
    refine then_normal ?_
    refine c_seq ?_
    refine c_region ?_
    refine wl (wl_val hl rfl trivial (r_move hl rfl) ?_)
    clear hl a; intro a hl
    refine wl (w_makeMap (kInt .u32) hl hh rfl trivial ?_)
    clear hl hh a w; intro k7 a w hl hh
    refine wl (wl_val hl rfl trivial (r_build hl rfl zero62 bld62 (by simp only [fillL, setL, List.getElem?_cons_zero, List.getElem?_cons_succ, Value.cells, List.take_zero, List.take_succ_cons, List.take_nil, List.drop_zero, List.drop_succ_cons, List.drop_nil, List.length_cons, List.length_nil, List.cons_append, List.nil_append, List.append_nil, Nat.zero_add, Nat.add_zero, Nat.reduceAdd, Nat.reduceBEq, Nat.reduceEqDiff, Nat.ble, BEq.rfl, Bool.and_true, Bool.and_self, cond_true, beq_self_eq_true]; rfl)) ?_)
    clear hl a; intro a hl
    refine wl (w_box hl hh rfl trivial rfl rfl ?_)
    clear hl hh a w; intro k9 a w hl hh
    refine wl (wl_val hl rfl trivial (r_makeInterface hl rfl conc60) ?_)
    clear hl a; intro a hl
    refine wl (w_call hl hh rfl trivial rfl cal9 rfl (play_spec (toT k9 k7) Z p0 n cap ops hS (hb9 hc0).1 (hb9 hc0).2) (by repeat (first | exact keeps_nil | apply keeps_cons (by repeat (first | exact find_head | apply find_tail | apply find_skip)) (by first  | rfl) | exact keeps_self | exact keeps_left | apply keeps_app | apply keeps_mv | apply keeps_skip)) trivial ?_)
    clear hl hh a w; intro vc Fc a w hR hl hh
    obtain ⟨rfl, F2, wb, W', G9, rfl⟩ := hR
    try simp only [List.cons_append, List.nil_append, List.append_assoc, List.append_nil] at hh
    refine wl (wl_val hl rfl trivial (r_assign hl rfl) ?_)
    clear hl a; intro a hl
    refine w_nil ?_
    have hl2 := hl.add (t := 2) (hl.nil) rfl; clear hl; have hl := hl2; clear hl2
    refine then_normal ?_
    refine wp_ret ?_
    refine f_ret1 (F' := F2 ++ WoV.F wb W' (Z ++ G9)) hl hh rfl rfl (by repeat (first | exact keeps_nil | apply keeps_cons (by repeat (first | exact find_head | apply find_tail | apply find_skip)) (by first  | rfl) | exact keeps_self | exact keeps_left | apply keeps_app | apply keeps_mv | apply keeps_skip)) ?_
    exact ⟨rfl, wf_pool F2 wb W' Z G9⟩
end Go.Proofs.Qxb6500908a

import Derived.Test.Qxb6500908aGreatX2
namespace Go.Proofs.Qxb6500908aGreat
open Go.Eng
set_option linter.unusedVariables false
set_option linter.unusedSimpArgs false
theorem fld55_0 : fieldOk Tryz.prog 55 0 0 = true := by kernel_rfl
theorem cal13 : callable Tryz.prog 13 = true := by kernel_rfl
theorem cal14 : callable Tryz.prog 14 = true := by kernel_rfl
theorem cal15 : callable Tryz.prog 15 = true := by kernel_rfl
attribute [local irreducible] postP

def bootW (W : WoP) : WoP := match (bootP W.l).1 with
  | none => { W with l := (bootP W.l).2 }
  | some g => { W with l := (bootP W.l).2, g := some { g with out := [] }, td := postP W.td g.out }
theorem bp_0 {l : LdP} (h : (storeP (rebP l) (opS l.d)).2 = 0) : bootP l = (some (openG (opS l.d)), (storeP (rebP l) (opS l.d)).1) := by unfold bootP; rw [if_pos h]
theorem bp_2 {l : LdP} (h : (storeP (rebP l) (opS l.d)).2 = 2) : bootP l = (none, (storeP (rebP l) (opS l.d)).1) := by unfold bootP; rw [if_neg (by omega)]
theorem w2_ok {Z : List (Nat × Obj)} {W : WoV} (hW : W.ok Z) {l' : LdV} (hl : l'.ok Z) (hg : W.g = none) : WoV.ok Z { W with l := l', g := none } := ⟨hl, fun y hy => (by cases hy), hW.dl, hW.ds, hW.t, hW.to, hW.tl, hW.r, hW.ro, hW.rl⟩
theorem open_d {s : StP} : ∀ m, m ∈ (openG s).out → m.d < 16 := by
  intro m hm
  obtain ⟨_, _, _, _, d, hd, h1, _⟩ := push_mem (g := gt0 s) hm
  omega
theorem WI.boot {n : Nat} {W : WoP} (h : WI n W) (hg : W.g = none) : WI (n + 1) (bootW W) := by
  have hb := boot_cs h.st
  obtain ⟨_, _, _, _, _, hvs, hep, _⟩ := ops_sti h.st
  have h1 : (bootP W.l).2.d.vs.length ≤ n + 1 := by
    have := h.vs
    rcases hb.d with e | e
    · rw [e, hvs]; omega
    · rw [e.1]; omega
  have h2 : (bootP W.l).2.d.ep ≤ ((n + 1 : Nat) : Int) := by
    have := h.ep
    rcases hb.d with e | e
    · rw [e, hep]; omega
    · rw [e.1]; omega
  unfold bootW
  cases e : (bootP W.l).1 with
  | none => exact ⟨hb.st, fun g h9 => (by rw [show ({ W with l := (bootP W.l).2 } : WoP).g = W.g from rfl, hg] at h9; cases h9), h1, h2⟩
  | some g =>
    refine ⟨hb.st, fun g' h9 => ?_, h1, h2⟩
    injection h9 with h9
    subst h9
    have h8 := hb.up g e
    exact ⟨h8.1, h8.2.1, h8.2.2.1⟩
theorem bootW_pl0 {W : WoV} (hg : W.g = none) {l' : LdV} (h : bootP W.l.pl = (none, l'.pl)) (xd xg : List Ms) : WoV.pl { W with l := l', g := none } xd xg = bootW (W.pl xd xg) := by
  unfold bootW WoV.pl
  simp only
  rw [h, hg]
theorem bootW_pl1 {W : WoV} {l' : LdV} {gb : Nat} {g' : GtV} (h : bootP W.l.pl = (some g'.pl, l'.pl)) (p : Option Addr) (c : Nat) (E : List (Nat × Obj)) (xd xg : List Ms) : WoV.pl { W with l := l', g := some (gb, g'.clr), td := postP W.td g'.out, tp := p, tc := c, tE := E } xd xg = bootW (W.pl xd xg) := by
  unfold bootW WoV.pl
  simp only
  rw [h]
  rfl

attribute [local irreducible] NtV.k StV.c LdV.c StV.E GtV.c GtV.t orB sh1 WoV.c wst

set_option maxHeartbeats 8000000 in
theorem boot_spec {lb wb : Nat} (L : LawM lb wb) (Z : List (Nat × Obj)) (W : WoV) (hW : W.ok Z) (hg : W.g = none) (hep : W.l.d.ep < 4294967295) (x x' : L.X) (Fx : List (Nat × Obj)) (hMx : L.M Z x Fx) (hs : L.bootR W.l.pl.d (bootP W.l.pl).2.d (bootP W.l.pl).1.isSome x (sentB (bootP W.l.pl)) x') : Sp Tryz.prog 10 #[.pointer (some ⟨wb, 0, none⟩), Lw L.T lb] (Fx ++ WoV.F wb W Z) (fun v F' => v = .bool true ∧ ∃ (W' : WoV) (F2 : List (Nat × Obj)), W'.ok Z ∧ (∀ xd xg, W'.pl xd xg = bootW (W.pl xd xg)) ∧ L.M Z x' F2 ∧ F' = F2 ++ WoV.F wb W' Z) := by
  refine f_enter (args := [.pointer (some ⟨wb, 0, none⟩), .iface L.T (.pointer (some ⟨lb, 0, none⟩))]) Tryz.func10 rfl Tryz.ntmps10 rfl ?_
  intro w0 w a hpre hl hh
  generalize hDD : List.map Prod.fst (Fx ++ WoV.F wb W Z) = D at hh ⊢
  simp only [WoV.F, WoV.GF, hg] at hh
  have hcl := wc_led W
  have hwl := wc_len W hW.dl
  have hlr : LdV.ok Z (⟨W.l.d, false, W.l.fl, W.l.fu, W.l.kp⟩ : LdV) := ⟨hW.l.d, hW.l.fu⟩
  simp only [slotsFrom, Nat.reduceAdd] at hl
  refine c_seq ?_
  refine c_region ?_
  refine wl (wl_val hl rfl trivial (r_assign hl rfl) ?_)
  clear hl a; intro a hl
  refine w_nil ?_
  have hl2 := hl.add (t := 0) (hl.add (t := 1) (hl.nil) rfl) rfl; clear hl; have hl := hl2; clear hl2
  refine then_normal ?_
  refine c_seq ?_
  refine c_region ?_
  refine wl (wl_val hl rfl trivial (r_move hl rfl) ?_)
  clear hl a; intro a hl
  refine wl (wl_val hl rfl trivial (r_nilCheck hl rfl) ?_)
  clear hl a; intro a hl
  refine wl (wl_val hl rfl trivial (r_field hl rfl fld55_0) ?_)
  clear hl a; intro a hl
  refine wl (w_load hl hh rfl trivial one48 rfl (by repeat (first | exact find_head | apply find_tail | apply find_skip)) (by first | exact hcl | exact wc_led _ | exact wc_td _ hW.dl | rfl) ?_)
  clear hl a; intro a hl
  refine wl (w_call hl hh rfl trivial rfl cal13 rfl (durable_spec Z W.lb W.l hW.l) (by repeat (first | exact keeps_nil | apply keeps_cons (by repeat (first | exact find_head | apply find_tail | apply find_skip)) (by first  | rfl) | exact keeps_self | exact keeps_left | apply keeps_app | apply keeps_mv | apply keeps_skip)) trivial ?_)
  clear hl hh a w; intro vc Fc a w hR hl hh
  obtain ⟨s1, hs1, hps1, rfl, rfl⟩ := hR
  try simp only [List.cons_append, List.nil_append, List.append_assoc, List.append_nil] at hh
  try simp only [LdV.F, List.append_assoc, List.cons_append] at hh
  refine wl (w_alloc hl hh rfl trivial zero89 rfl ?_)
  clear hl hh a w; intro k5 a w hl hh
  refine wl (w_storeA hl hh trivial agg89 rfl rfl (by repeat (first | exact find_head | apply find_tail | apply find_skip)) (by exact stc_len _) (by exact Nat.le_refl 70) (by exact stc_one _) (by exact setL_all (show 70 = _ from (stc_len _).symm)) ?_)
  clear hh w; intro w hh
  refine w_nil ?_
  have hl2 := hl.add (t := 0) (hl.add (t := 1) (hl.add (t := 5) (hl.nil) rfl) rfl) rfl; clear hl; have hl := hl2; clear hl2
  refine then_normal ?_
  refine c_seq ?_
  refine c_region ?_
  refine wl (wl_val hl rfl trivial (r_move hl rfl) ?_)
  clear hl a; intro a hl
  refine wl (wl_val hl rfl trivial (r_nilCheck hl rfl) ?_)
  clear hl a; intro a hl
  refine wl (wl_val hl rfl trivial (r_field hl rfl fld55_0) ?_)
  clear hl a; intro a hl
  refine wl (w_load hl hh rfl trivial one48 rfl (by repeat (first | exact find_head | apply find_tail | apply find_skip)) (by first | exact hcl | exact wc_led _ | exact wc_td _ hW.dl | rfl) ?_)
  clear hl a; intro a hl
  refine wl (w_call hl hh rfl trivial rfl cal14 rfl (reboot_spec Z W.lb W.l hW.l) (by repeat (first | exact keeps_nil | apply keeps_cons (by repeat (first | exact find_head | apply find_tail | apply find_skip)) (by first  | rfl) | exact keeps_self | exact keeps_left | apply keeps_app | apply keeps_mv | apply keeps_skip)) trivial ?_)
  clear hl hh a w; intro vc Fc a w hR hl hh
  obtain ⟨rfl, rfl⟩ := hR
  try simp only [List.cons_append, List.nil_append, List.append_assoc, List.append_nil] at hh
  try simp only [LdV.F, List.append_assoc, List.cons_append] at hh
  refine w_nil ?_
  have hl2 := hl.add (t := 0) (hl.add (t := 1) (hl.add (t := 5) (hl.nil) rfl) rfl) rfl; clear hl; have hl := hl2; clear hl2
  refine then_normal ?_
  refine c_seq ?_
  refine c_region ?_
  refine wl (wl_val hl rfl trivial (r_move hl rfl) ?_)
  clear hl a; intro a hl
  refine wl (wl_val hl rfl trivial (r_nilCheck hl rfl) ?_)
  clear hl a; intro a hl
  refine wl (wl_val hl rfl trivial (r_field hl rfl fld55_0) ?_)
  clear hl a; intro a hl
  refine wl (w_load hl hh rfl trivial one48 rfl (by repeat (first | exact find_head | apply find_tail | apply find_skip)) (by first | exact hcl | exact wc_led _ | exact wc_td _ hW.dl | rfl) ?_)
  clear hl a; intro a hl
  refine wl (w_call hl hh rfl trivial rfl cal15 rfl (open_spec Z W.lb (⟨W.l.d, false, W.l.fl, W.l.fu, W.l.kp⟩ : LdV) hlr rfl hep) (by repeat (first | exact keeps_nil | apply keeps_cons (by repeat (first | exact find_head | apply find_tail | apply find_skip)) (by first  | rfl) | exact keeps_self | exact keeps_left | apply keeps_app | apply keeps_mv | apply keeps_skip)) trivial ?_)
  clear hl hh a w; intro vc Fc a w hR hl hh
  rcases hR with ⟨l', hr, hlo, hlp, rfl, rfl⟩ | ⟨gb, g', l', hr, hgl, hgo, hlo, hgp, hlp, rfl, rfl⟩
  ·
    try simp only [List.cons_append, List.nil_append, List.append_nil] at hh
    try simp only [LdV.F, GtV.F, List.append_assoc, List.cons_append] at hh
    have hbp : bootP W.l.pl = (none, l'.pl) := by rw [bp_2 (l := W.l.pl) hr, hlp]; rfl
    have hW0 : WoV.ok Z { W with l := l', g := none } := w2_ok hW hlo hg
    rw [show W.c = WoV.c { W with l := l', g := none } from wc_same rfl (by rw [hg]) rfl rfl] at hh
    have hsw := L.boot { W with l := l', g := none } Z x x' Fx s1 false [] none 0 [] hW0 hMx hs1 (by rw [show s1.ep = W.l.d.ep from congrArg StP.ep hps1]; exact hep) ROWB.nil (fun m hm => (by cases hm)) (Nat.zero_le _) (by have h9 := hs; rw [hbp] at h9; rw [hps1]; exact h9)
    simp only [WoV.F, WoV.GF, hg, List.append_assoc, List.cons_append, List.nil_append, List.append_nil] at hsw
    refine wl (wl_val hl rfl trivial (r_move hl rfl) ?_)
    clear hl a; intro a hl
    refine wl (wl_val hl rfl trivial (r_extract hl rfl (by simp only [List.getElem?_toArray, List.getElem?_cons_zero, List.getElem?_cons_succ]; rfl)) ?_)
    clear hl a; intro a hl
    refine wl (wl_val hl rfl trivial (r_extract hl rfl (by simp only [List.getElem?_toArray, List.getElem?_cons_zero, List.getElem?_cons_succ]; rfl)) ?_)
    clear hl a; intro a hl
    refine wl (wl_val hl rfl trivial (r_assign hl rfl) ?_)
    clear hl a; intro a hl
    refine wl (wl_val hl rfl trivial (r_assign hl rfl) ?_)
    clear hl a; intro a hl
    refine w_nil ?_
    have hl2 := hl.add (t := 0) (hl.add (t := 1) (hl.add (t := 5) (hl.add (t := 6) (hl.add (t := 7) (hl.nil) rfl) rfl) rfl) rfl) rfl; clear hl; have hl := hl2; clear hl2
    refine then_normal ?_
    refine c_seq ?_
    refine c_seq ?_
    refine c_region ?_
    refine wl (wl_val hl rfl trivial (r_move hl rfl) ?_)
    clear hl a; intro a hl
    first | refine wl (wl_val hl rfl trivial (r_neq_ifcN hl rfl ifc102) ?_) | refine wl (wl_val hl rfl trivial (r_neq_ifcS hl rfl ifc102) ?_)
    clear hl a; intro a hl
    refine w_nil ?_
    have hl2 := hl.add (t := 0) (hl.add (t := 1) (hl.add (t := 5) (hl.add (t := 6) (hl.add (t := 7) (hl.add (t := 28) (hl.nil) rfl) rfl) rfl) rfl) rfl) rfl; clear hl; have hl := hl2; clear hl2
    refine then_normal ?_
    refine c_condT hl rfl ?_
    refine c_seq ?_
    refine c_region ?_
    refine wl (wl_val hl rfl trivial (r_move hl rfl) ?_)
    clear hl a; intro a hl
    refine wl (wl_val hl rfl trivial (r_makeInterface hl rfl conc105) ?_)
    clear hl a; intro a hl
    refine wl (wl_val hl rfl trivial (r_eql_ifcI hl rfl rfl ifc102 icmp105) ?_)
    clear hl a; intro a hl
    refine wl (wl_val hl rfl trivial (r_move hl rfl) ?_)
    clear hl a; intro a hl
    refine wl (wl_val hl rfl ⟨_, _, rfl, rfl, rfl⟩ (r_move hl rfl) ?_)
    clear hl a; intro a hl
    refine wl (w_loadA hl hh rfl ⟨_, _, rfl, rfl, rfl⟩ agg89 rfl (by repeat (first | exact find_head | apply find_tail | apply find_skip)) (by exact stc_all _) (by exact stc_len _) ?_)
    clear hl a; intro a hl
    refine wl (w_callP hl hh rfl ⟨_, _, rfl, rfl, rfl⟩ rfl L.dboot rfl (hsw) (by repeat (first | exact keeps_nil | apply keeps_cons (by repeat (first | exact find_head | apply find_tail | apply find_skip)) (by first  | rfl) | exact keeps_self | exact keeps_left | apply keeps_app | apply keeps_mv | apply keeps_skip)) trivial ?_)
    clear hl hh a w; intro vc Fc a w hR hl hh
    obtain ⟨rfl, F2, hM2, rfl⟩ := hR
    try simp only [List.cons_append, List.nil_append, List.append_assoc, List.append_nil] at hh
    try simp only [List.append_assoc, List.cons_append, List.nil_append] at hh
    refine wl (wl_val hl rfl trivial (r_pickT hl rfl rfl) ?_)
    clear hl a; intro a hl
    refine wl (wl_val hl rfl trivial (r_assign hl rfl) ?_)
    clear hl a; intro a hl
    refine w_nil ?_
    have hl2 := hl.add (t := 4) (hl.nil) rfl; clear hl; have hl := hl2; clear hl2
    refine then_normal ?_
    refine wp_ret ?_
    refine then_ret ?_
    first
    | (have hq := hW0; refine f_ret1 (F' := F2 ++ ((wb, C (WoV.c { W with l := l', g := none }) 55) :: (W.tE ++ (W.gE ++ (DsF W.ds ++ ((W.lb, C l'.c 91) :: (l'.d.E ++ Z))))))) hl hh rfl rfl (by repeat (first | exact keeps_nil | apply keeps_cons (by repeat (first | exact find_head | apply find_tail | apply find_skip)) (by first  | rfl) | exact keeps_self | exact keeps_left | apply keeps_app | apply keeps_mv | apply keeps_skip)) ?_; exact ⟨rfl, { W with l := l', g := none }, F2, hW0, fun xd xg => bootW_pl0 hg hbp xd xg, hM2, by simp only [WoV.F, WoV.GF]⟩)
    | (refine f_ret1 (F' := F2 ++ ((wb, C (WoV.c { W with l := l', g := some (gb, g'.clr), td := postP W.td g'.out, tp := p6, tc := c6, tE := E6 }) 55) :: (E6 ++ (W.gE ++ (DsF W.ds ++ ((gb, C (GtV.c g'.clr) 127) :: (g'.st.E ++ (g'.qE ++ ((g'.rb, MD (kInt .u32) g'.rl g'.rn) :: ((W.lb, C l'.c 91) :: (l'.d.E ++ Z))))))))))) hl hh rfl rfl (by repeat (first | exact keeps_nil | apply keeps_cons (by repeat (first | exact find_head | apply find_tail | apply find_skip)) (by first  | rfl) | exact keeps_self | exact keeps_left | apply keeps_app | apply keeps_mv | apply keeps_skip)) ?_; refine ⟨rfl, { W with l := l', g := some (gb, g'.clr), td := postP W.td g'.out, tp := p6, tc := c6, tE := E6 }, F2, hW1, fun xd xg => bootW_pl1 hbp p6 c6 E6 xd xg, hM2, ?_⟩; (simp only [WoV.F, WoV.GF, GF, List.append_assoc, List.cons_append, List.nil_append]; rw [show g'.clr.led = W.lb from hgl]; rfl))
  ·
    try simp only [List.cons_append, List.nil_append, List.append_nil] at hh
    try simp only [LdV.F, GtV.F, List.append_assoc, List.cons_append] at hh
    refine wl (wl_val hl rfl trivial (r_move hl rfl) ?_)
    clear hl a; intro a hl
    refine wl (wl_val hl rfl trivial (r_extract hl rfl (by simp only [List.getElem?_toArray, List.getElem?_cons_zero, List.getElem?_cons_succ]; rfl)) ?_)
    clear hl a; intro a hl
    refine wl (wl_val hl rfl trivial (r_extract hl rfl (by simp only [List.getElem?_toArray, List.getElem?_cons_zero, List.getElem?_cons_succ]; rfl)) ?_)
    clear hl a; intro a hl
    refine wl (wl_val hl rfl trivial (r_assign hl rfl) ?_)
    clear hl a; intro a hl
    refine wl (wl_val hl rfl trivial (r_assign hl rfl) ?_)
    clear hl a; intro a hl
    refine w_nil ?_
    have hl2 := hl.add (t := 0) (hl.add (t := 1) (hl.add (t := 5) (hl.add (t := 6) (hl.add (t := 7) (hl.nil) rfl) rfl) rfl) rfl) rfl; clear hl; have hl := hl2; clear hl2
    refine then_normal ?_
    refine c_seq ?_
    refine c_seq ?_
    refine c_region ?_
    refine wl (wl_val hl rfl trivial (r_move hl rfl) ?_)
    clear hl a; intro a hl
    first | refine wl (wl_val hl rfl trivial (r_neq_ifcN hl rfl ifc102) ?_) | refine wl (wl_val hl rfl trivial (r_neq_ifcS hl rfl ifc102) ?_)
    clear hl a; intro a hl
    refine w_nil ?_
    have hl2 := hl.add (t := 0) (hl.add (t := 1) (hl.add (t := 5) (hl.add (t := 6) (hl.add (t := 7) (hl.add (t := 28) (hl.nil) rfl) rfl) rfl) rfl) rfl) rfl; clear hl; have hl := hl2; clear hl2
    refine then_normal ?_
    refine c_condF hl rfl ?_
    refine wp_skip ?_
    refine then_normal ?_
    refine c_seq ?_
    refine c_region ?_
    refine wl (wl_val hl rfl trivial (r_move hl rfl) ?_)
    clear hl a; intro a hl
    refine wl (wl_val hl rfl trivial (r_move hl rfl) ?_)
    clear hl a; intro a hl
    refine wl (wl_val hl rfl trivial (r_nilCheck hl rfl) ?_)
    clear hl a; intro a hl
    refine wl (wl_val hl rfl trivial (r_field hl rfl fld55_1) ?_)
    clear hl a; intro a hl
    refine wl (w_store hl hh trivial one50 rfl rfl (by repeat (first | exact find_head | apply find_tail | apply find_skip)) (by first | (simp; done) | (simp; omega) | (rw [wc_len _ hW.dl]; omega) | (rw [wc_len _ hW.dl]; simp; done)) (by first | rfl | assumption | (apply Row.one; assumption)) (by first | exact wc_sg _ (some (gb, g')) | (simp only [setL, List.getElem?_cons_zero, List.getElem?_cons_succ, Value.cells, List.take_zero, List.take_succ_cons, List.take_nil, List.drop_zero, List.drop_succ_cons, List.drop_nil, List.length_cons, List.length_nil, List.cons_append, List.nil_append, List.append_nil, Nat.zero_add, Nat.add_zero, Nat.reduceAdd, Nat.reduceBEq, Nat.reduceEqDiff, Nat.ble, BEq.rfl, Bool.and_true, Bool.and_self, cond_true, beq_self_eq_true]; rfl)) ?_)
    clear hh w; intro w hh
    refine w_nil ?_
    have hl2 := hl.add (t := 0) (hl.add (t := 1) (hl.add (t := 5) (hl.add (t := 6) (hl.nil) rfl) rfl) rfl) rfl; clear hl; have hl := hl2; clear hl2
    refine then_normal ?_
    refine c_seq ?_
    refine c_region ?_
    refine wl (wl_val hl rfl trivial (r_move hl rfl) ?_)
    clear hl a; intro a hl
    refine wl (w_call hl hh rfl trivial rfl cal16 rfl (outbox_spec gb g') (by repeat (first | exact keeps_nil | apply keeps_cons (by repeat (first | exact find_head | apply find_tail | apply find_skip)) (by first  | rfl) | exact keeps_self | exact keeps_left | apply keeps_app | apply keeps_mv | apply keeps_skip)) trivial ?_)
    clear hl hh a w; intro vc Fc a w hR hl hh
    obtain ⟨rfl, rfl⟩ := hR
    try simp only [List.cons_append, List.nil_append, List.append_assoc, List.append_nil] at hh
    refine wl (wl_val hl rfl trivial (r_assign hl rfl) ?_)
    clear hl a; intro a hl
    refine w_nil ?_
    have hl2 := hl.add (t := 0) (hl.add (t := 1) (hl.add (t := 5) (hl.add (t := 8) (hl.nil) rfl) rfl) rfl) rfl; clear hl; have hl := hl2; clear hl2
    refine then_normal ?_
    refine c_seq ?_
    refine c_region ?_
    refine wl (wl_val hl rfl trivial (r_move hl rfl) ?_)
    clear hl a; intro a hl
    refine wl (wl_val hl rfl trivial (r_nilCheck hl rfl) ?_)
    clear hl a; intro a hl
    refine wl (wl_val hl rfl trivial (r_field hl rfl fld55_3) ?_)
    clear hl a; intro a hl
    refine wl (wl_val hl rfl trivial (r_move hl rfl) ?_)
    clear hl a; intro a hl
    refine wl (w_call hl hh rfl trivial rfl cal17 rfl (post_spec wb (WoV.c { W with g := some (gb, g') }) (0 + 18) W.td W.tp W.tc W.tE hW.t (wc_td { W with g := some (gb, g') } hW.dl) hW.tl g'.out g'.op g'.oc g'.oE hgo.o hgo.ol) (by repeat (first | exact keeps_nil | apply keeps_cons (by repeat (first | exact find_head | apply find_tail | apply find_skip)) (by first  | rfl) | exact keeps_self | exact keeps_left | apply keeps_app | apply keeps_mv | apply keeps_skip)) trivial ?_)
    clear hl hh a w; intro vc Fc a w hR hl hh
    obtain ⟨rfl, p6, c6, E6, hR6, rfl⟩ := hR
    try simp only [List.cons_append, List.nil_append, List.append_assoc, List.append_nil] at hh
    have hw1 : wst (WoV.c { W with g := some (gb, g') }) (0 + 18) (.slice p6 (postP W.td g'.out).length c6) = WoV.c { W with l := l', g := some (gb, g'.clr), td := postP W.td g'.out, tp := p6, tc := c6, tE := E6 } := w1_c { W with g := some (gb, g') } hW.dl rfl g'.clr l' p6 _ c6 E6
    rw [hw1] at hh
    have hbp : bootP W.l.pl = (some g'.pl, l'.pl) := by rw [bp_0 (l := W.l.pl) hr, hgp, hlp]; rfl
    have hW1 : WoV.ok Z { W with l := l', g := some (gb, g'.clr), td := postP W.td g'.out, tp := p6, tc := c6, tE := E6 } := w1_ok hW hlo (clr_ok hgo) hgl rfl rfl hR6 (fun m h9 => ⟨hgo.oo m h9, open_d (s := opS W.l.pl.d) m (by rw [← show g'.pl = openG (opS W.l.pl.d) from hgp]; exact h9)⟩)
    have hsw := L.boot { W with l := l', g := some (gb, g'.clr), td := postP W.td g'.out, tp := p6, tc := c6, tE := E6 } Z x x' Fx s1 true g'.out g'.op g'.oc g'.oE hW1 hMx hs1 (by rw [show s1.ep = W.l.d.ep from congrArg StP.ep hps1]; exact hep) hgo.o hgo.oo hgo.ol (by have h9 := hs; rw [hbp] at h9; rw [hps1]; exact h9)
    simp only [WoV.F, WoV.GF, GF, List.append_assoc, List.cons_append, List.nil_append] at hsw
    rw [show g'.clr.led = W.lb from hgl] at hsw
    refine w_nil ?_
    have hl2 := hl.add (t := 1) (hl.add (t := 5) (hl.add (t := 8) (hl.nil) rfl) rfl) rfl; clear hl; have hl := hl2; clear hl2
    refine then_normal ?_
    refine c_seq ?_
    refine c_region ?_
    refine wl (wl_val hl rfl trivial (r_move hl rfl) ?_)
    clear hl a; intro a hl
    refine wl (w_loadA hl hh rfl trivial agg89 rfl (by repeat (first | exact find_head | apply find_tail | apply find_skip)) (by exact stc_all _) (by exact stc_len _) ?_)
    clear hl a; intro a hl
    refine wl (wl_val hl rfl trivial (r_move hl rfl) ?_)
    clear hl a; intro a hl
    refine wl (w_callP hl hh rfl trivial rfl L.dboot rfl (hsw) (by repeat (first | exact keeps_nil | apply keeps_cons (by repeat (first | exact find_head | apply find_tail | apply find_skip)) (by first  | rfl) | exact keeps_self | exact keeps_left | apply keeps_app | apply keeps_mv | apply keeps_skip)) trivial ?_)
    clear hl hh a w; intro vc Fc a w hR hl hh
    obtain ⟨rfl, F2, hM2, rfl⟩ := hR
    try simp only [List.cons_append, List.nil_append, List.append_assoc, List.append_nil] at hh
    try simp only [List.append_assoc, List.cons_append, List.nil_append] at hh
    refine wl (wl_val hl rfl trivial (r_assign hl rfl) ?_)
    clear hl a; intro a hl
    refine w_nil ?_
    have hl2 := hl.add (t := 4) (hl.nil) rfl; clear hl; have hl := hl2; clear hl2
    refine then_normal ?_
    refine wp_ret ?_
    first
    | (have hq := hW0; refine f_ret1 (F' := F2 ++ ((wb, C (WoV.c { W with l := l', g := none }) 55) :: (W.tE ++ (W.gE ++ (DsF W.ds ++ ((W.lb, C l'.c 91) :: (l'.d.E ++ Z))))))) hl hh rfl rfl (by repeat (first | exact keeps_nil | apply keeps_cons (by repeat (first | exact find_head | apply find_tail | apply find_skip)) (by first  | rfl) | exact keeps_self | exact keeps_left | apply keeps_app | apply keeps_mv | apply keeps_skip)) ?_; exact ⟨rfl, { W with l := l', g := none }, F2, hW0, fun xd xg => bootW_pl0 hg hbp xd xg, hM2, by simp only [WoV.F, WoV.GF]⟩)
    | (refine f_ret1 (F' := F2 ++ ((wb, C (WoV.c { W with l := l', g := some (gb, g'.clr), td := postP W.td g'.out, tp := p6, tc := c6, tE := E6 }) 55) :: (E6 ++ (W.gE ++ (DsF W.ds ++ ((gb, C (GtV.c g'.clr) 127) :: (g'.st.E ++ (g'.qE ++ ((g'.rb, MD (kInt .u32) g'.rl g'.rn) :: ((W.lb, C l'.c 91) :: (l'.d.E ++ Z))))))))))) hl hh rfl rfl (by repeat (first | exact keeps_nil | apply keeps_cons (by repeat (first | exact find_head | apply find_tail | apply find_skip)) (by first  | rfl) | exact keeps_self | exact keeps_left | apply keeps_app | apply keeps_mv | apply keeps_skip)) ?_; refine ⟨rfl, { W with l := l', g := some (gb, g'.clr), td := postP W.td g'.out, tp := p6, tc := c6, tE := E6 }, F2, hW1, fun xd xg => bootW_pl1 hbp p6 c6 E6 xd xg, hM2, ?_⟩; (simp only [WoV.F, WoV.GF, GF, List.append_assoc, List.cons_append, List.nil_append]; rw [show g'.clr.led = W.lb from hgl]; rfl))
end Go.Proofs.Qxb6500908aGreat

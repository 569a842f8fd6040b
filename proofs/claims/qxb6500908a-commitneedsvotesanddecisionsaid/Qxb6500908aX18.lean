import Derived.Test.Qxb6500908aX17
namespace Go.Proofs.Qxb6500908a
open Go.Eng
set_option linter.unusedVariables false
set_option linter.unusedSimpArgs false
theorem fld62_1 : fieldOk Try.prog 62 1 1 = true := by kernel_rfl
theorem fld62_0 : fieldOk Try.prog 62 0 0 = true := by kernel_rfl
theorem fld62_2 : fieldOk Try.prog 62 2 2 = true := by kernel_rfl
theorem cal115 : callable Try.prog 115 = true := by kernel_rfl
theorem fld62_3 : fieldOk Try.prog 62 3 3 = true := by kernel_rfl
theorem fld62_4 : fieldOk Try.prog 62 4 4 = true := by kernel_rfl
structure RgS where
  seen : List Nat
def RgI (l : List (Int × Value)) (s : RgS) : Prop := s.seen.Nodup ∧ ∀ j, j ∈ s.seen → j < l.length
theorem RgI.start (l : List (Int × Value)) : RgI l ⟨[]⟩ := ⟨List.nodup_nil, fun j h => (by cases h)⟩
theorem RgI.next {l : List (Int × Value)} {s : RgS} (h : RgI l s) {j : Nat} {p : Int × Value} (hp : l[j]? = some p) (hj : ¬ j ∈ s.seen) : RgI l ⟨s.seen ++ [j]⟩ := ⟨by
    simp only
    rw [List.nodup_append]
    exact ⟨h.1, by simp, fun a ha b hb e => hj (by rw [← List.mem_singleton.1 hb, ← e]; exact ha)⟩, fun k hk => by
    rcases List.mem_append.1 hk with h9 | h9
    · exact h.2 k h9
    · rw [List.mem_singleton.1 h9]; exact (List.getElem?_eq_some_iff.1 hp).1⟩
def ToV.shut (V : ToV) (ok : Bool) : ToV := { V with op := V.op && !ok }
def toB (x : ToX) (now : StP) (ok : Bool) : ToX := if x.op = true ∧ sameP now.is x.mb = true then { x with iv := x.mb, op := x.op && !ok } else { x with op := x.op && !ok }

attribute [local irreducible] NtV.k StV.c LdV.c StV.E GtV.c GtV.t orB sh1 WoV.c wst postP

set_option maxHeartbeats 16000000 in
theorem tboot_spec (lb wb : Nat) (W : WoV) (Z : List (Nat × Obj)) (hW : W.ok Z) (s : StV) (hs : s.ok Z) (ok : Bool) (sent : List Ms) (q : Option Addr) (cq : Nat) (Es : List (Nat × Obj)) (hR : ROWB q sent cq Es) (hsl : sent.length ≤ 100) (V : ToV) (hV : V.ok) (hil : V.iv.length ≤ 16) (hml : V.mb.length ≤ 17) (hB1 : sameP W.l.pl.d.is (toB V.pl W.l.pl.d ok).iv = true) (hB2 : ∀ b c, V.pl.tl b = some c → W.l.pl.d.vd b = some c) : Sp Try.prog 113 #[.pointer (some ⟨lb, 0, none⟩), .agg ⟨s.c⟩, .bool ok, .slice q sent.length cq] (V.F lb wb ++ (s.E ++ (WoV.F wb W Z ++ Es))) (fun v F' => v = .bool true ∧ ∃ V' : ToV, V'.ok ∧ V'.pl = toB V.pl W.l.pl.d ok ∧ F' = V'.F lb wb ++ (WoV.F wb W Z ++ Es)) := by
  refine f_enter (args := [.pointer (some ⟨lb, 0, none⟩), .agg ⟨s.c⟩, .bool ok, .slice q sent.length cq]) Try.func113 rfl Try.ntmps113 rfl ?_
  intro w0 w a hpre hl hh
  generalize hDD : List.map Prod.fst (V.F lb wb ++ (s.E ++ (WoV.F wb W Z ++ Es))) = D at hh ⊢
  simp only [WoV.F, ToV.F, toC, List.append_assoc, List.cons_append] at hh
  have hcl := wc_led W
  obtain ⟨Ei, hiR, hiZ⟩ := hV.i
  obtain ⟨Em, hmR, hmZ⟩ := hV.m
  simp only [slotsFrom, Nat.reduceAdd] at hl
  refine c_seq ?_
  refine c_region ?_
  refine wl (w_box hl hh rfl trivial rfl rfl ?_)
  clear hl hh a w; intro k5 a w hl hh
  refine wl (wl_val hl rfl trivial (r_assign hl rfl) ?_)
  clear hl a; intro a hl
  refine w_nil ?_
  have hl2 := hl.add (t := 0) (hl.add (t := 2) (hl.nil) rfl) rfl; clear hl; have hl := hl2; clear hl2
  refine then_normal ?_
  refine c_seq ?_
  refine c_region ?_
  refine wl (wl_val hl rfl trivial (r_move hl rfl) ?_)
  clear hl a; intro a hl
  refine wl (wl_val hl rfl trivial (r_nilCheck hl rfl) ?_)
  clear hl a; intro a hl
  refine wl (wl_val hl rfl trivial (r_field hl rfl fld62_0) ?_)
  clear hl a; intro a hl
  refine wl (wl_val hl rfl trivial (r_field hl rfl fld30_0) ?_)
  clear hl a; intro a hl
  refine wl (w_load hl hh rfl trivial one28 rfl (by repeat (first | exact find_head | apply find_tail | apply find_skip)) (by first | exact hcl | exact stc_ph' _ | exact stc_fid' _ | exact stc_vd' _ | exact stc_ep' _ | exact stc_vs' _ | exact stc_is' _ | rfl) ?_)
  clear hl a; intro a hl
  refine wl (wl_val hl rfl trivial (r_nilCheck hl rfl) ?_)
  clear hl a; intro a hl
  refine wl (wl_val hl rfl trivial (r_field hl rfl fld84_0) ?_)
  clear hl a; intro a hl
  refine wl (w_load hl hh rfl trivial one77 rfl (by repeat (first | exact find_head | apply find_tail | apply find_skip)) (by first | exact hcl | exact stc_ph' _ | exact stc_fid' _ | exact stc_vd' _ | exact stc_ep' _ | exact stc_vs' _ | exact stc_is' _ | rfl) ?_)
  clear hl a; intro a hl
  refine wl (w_call hl hh rfl trivial rfl cal16 rfl (durW W Z hW) (by repeat (first | exact keeps_nil | apply keeps_cons (by repeat (first | exact find_head | apply find_tail | apply find_skip)) (by first  | rfl) | exact keeps_self | exact keeps_left | apply keeps_app | apply keeps_mv | apply keeps_skip)) trivial ?_)
  clear hl hh a w; intro vc Fc a w hR hl hh
  obtain ⟨s1, hs1, hps1, rfl, rfl⟩ := hR
  try simp only [List.cons_append, List.nil_append, List.append_assoc, List.append_nil] at hh
  try simp only [List.append_assoc] at hh
  have hphs1 : s1.ph = W.l.pl.d.ph := congrArg StP.ph hps1
  have hisl : s1.is = W.l.pl.d.is := congrArg StP.is hps1
  rw [StV.E_eq s1] at hh
  simp only [List.append_assoc, List.cons_append, List.nil_append] at hh
  refine wl (w_alloc hl hh rfl trivial zero48 rfl ?_)
  clear hl hh a w; intro k9 a w hl hh
  refine wl (w_storeA hl hh trivial agg48 rfl rfl (by repeat (first | exact find_head | apply find_tail | apply find_skip)) (by exact stc_len _) (by exact Nat.le_refl 70) (by exact stc_one _) (by exact setL_all (show 70 = _ from (stc_len _).symm)) ?_)
  clear hh w; intro w hh
  refine w_nil ?_
  have hl2 := hl.add (t := 0) (hl.add (t := 2) (hl.add (t := 9) (hl.nil) rfl) rfl) rfl; clear hl; have hl := hl2; clear hl2
  refine then_normal ?_
  refine c_seq ?_
  refine c_seq ?_
  refine c_draw [(k9, C s1.c 48), (lb, C [.pointer (some ⟨wb, 0, none⟩), .map (some V.tb), .slice V.ip V.iv.length V.ic, .slice V.mp V.mb.length V.mc, .bool V.op] 62)] [11, 12] mixed hh ?_
  clear hh w; intro w hh
  have hM : Mem [(k9, C s1.c 48), (lb, C [.pointer (some ⟨wb, 0, none⟩), .map (some V.tb), .slice V.ip V.iv.length V.ic, .slice V.mp V.mb.length V.mc, .bool V.op] 62)] w := (memK hh (by repeat (first | exact keeps_nil | apply keeps_cons (by repeat (first | exact find_head | apply find_tail | apply find_skip)) (by first  | rfl) | exact keeps_self | exact keeps_left | apply keeps_app | apply keeps_mv | apply keeps_skip)))
  refine d_take (i := 0) hl rfl (by kernel_rfl) (by kernel_rfl) (by kernel_rfl) (by kernel_rfl) (by kernel_rfl) rfl trivial (fun _ _ _ h => h) hM (fun w hC => r_move hl rfl) rfl ?_
  clear hl a; intro a hl
  refine d_take (i := 1) hl rfl (by kernel_rfl) (by kernel_rfl) (by kernel_rfl) (by kernel_rfl) (by kernel_rfl) rfl trivial (fun _ _ _ h => h) hM (fun w hC => r_nilCheck hl rfl) rfl ?_
  clear hl a; intro a hl
  refine d_take (i := 2) hl rfl (by kernel_rfl) (by kernel_rfl) (by kernel_rfl) (by kernel_rfl) (by kernel_rfl) rfl trivial (fun _ _ _ h => h) hM (fun w hC => r_field hl rfl fld62_4) rfl ?_
  clear hl a; intro a hl
  refine d_take (i := 3) hl rfl (by kernel_rfl) (by kernel_rfl) (by kernel_rfl) (by kernel_rfl) (by kernel_rfl) rfl trivial (fun _ _ _ h => h) hM (fun w hC => r_loadC hl rfl one4 hC (by repeat (first | exact find_head | apply find_tail | apply find_skip)) (by first | exact hcl | exact stc_ph' _ | exact stc_fid' _ | exact stc_vd' _ | exact stc_ep' _ | exact stc_vs' _ | exact stc_is' _ | rfl)) rfl ?_
  clear hl a; intro a hl
  refine d_take (i := 4) hl rfl (by kernel_rfl) (by kernel_rfl) (by kernel_rfl) (by kernel_rfl) (by kernel_rfl) rfl trivial (fun _ _ _ h => h) hM (fun w hC => r_move hl rfl) rfl ?_
  clear hl a; intro a hl
  refine sl_split (t := 25) hl rfl ?_ ?_
  · intro hg1; clear hl; intro hl
    try simp only [decide_eq_true_eq, decide_eq_false_iff_not, Bool.not_eq_true', Bool.not_eq_false', Bool.not_eq_true, Bool.not_eq_false, Bool.and_eq_true, Bool.or_eq_true, Bool.and_eq_false_iff, Bool.or_eq_false_iff, Bool.not_not, ne_eq, Int.not_lt, Int.not_le, Decidable.not_not, beq_iff_eq, bne_iff_ne] at hg1
    refine d_take (i := 5) hl rfl (by kernel_rfl) (by kernel_rfl) (by kernel_rfl) (by kernel_rfl) (by kernel_rfl) rfl ⟨_, _, rfl, rfl, rfl⟩ (fun _ _ _ h => h) hM (fun w hC => r_field hl rfl fld48_2) rfl ?_
    clear hl a; intro a hl
    refine d_take (i := 6) hl rfl (by kernel_rfl) (by kernel_rfl) (by kernel_rfl) (by kernel_rfl) (by kernel_rfl) rfl ⟨_, _, rfl, rfl, rfl⟩ (fun _ _ _ h => h) hM (fun w hC => r_loadC hl rfl one33 hC (by repeat (first | exact find_head | apply find_tail | apply find_skip)) (by first | exact hcl | exact stc_ph' _ | exact stc_fid' _ | exact stc_vd' _ | exact stc_ep' _ | exact stc_vs' _ | exact stc_is' _ | rfl)) rfl ?_
    clear hl a; intro a hl
    refine d_take (i := 7) hl rfl (by kernel_rfl) (by kernel_rfl) (by kernel_rfl) (by kernel_rfl) (by kernel_rfl) rfl ⟨_, _, rfl, rfl, rfl⟩ (fun _ _ _ h => h) hM (fun w hC => r_move hl rfl) rfl ?_
    clear hl a; intro a hl
    refine d_take (i := 8) hl rfl (by kernel_rfl) (by kernel_rfl) (by kernel_rfl) (by kernel_rfl) (by kernel_rfl) rfl ⟨_, _, rfl, rfl, rfl⟩ (fun _ _ _ h => h) hM (fun w hC => r_nilCheck hl rfl) rfl ?_
    clear hl a; intro a hl
    refine d_take (i := 9) hl rfl (by kernel_rfl) (by kernel_rfl) (by kernel_rfl) (by kernel_rfl) (by kernel_rfl) rfl ⟨_, _, rfl, rfl, rfl⟩ (fun _ _ _ h => h) hM (fun w hC => r_field hl rfl fld62_3) rfl ?_
    clear hl a; intro a hl
    refine d_take (i := 10) hl rfl (by kernel_rfl) (by kernel_rfl) (by kernel_rfl) (by kernel_rfl) (by kernel_rfl) rfl ⟨_, _, rfl, rfl, rfl⟩ (fun _ _ _ h => h) hM (fun w hC => r_loadC hl rfl one33 hC (by repeat (first | exact find_head | apply find_tail | apply find_skip)) (by first | exact hcl | exact stc_ph' _ | exact stc_fid' _ | exact stc_vd' _ | exact stc_ep' _ | exact stc_vs' _ | exact stc_is' _ | rfl)) rfl ?_
    clear hl a; intro a hl
    refine d_one (i := 11) (by kernel_rfl) rfl ?_
    try clear hM
    refine id (w_call hl hh rfl ⟨_, _, rfl, rfl, rfl⟩ rfl cal115 rfl (same_spec s1.is V.mb s1.ip V.mp s1.ic V.mc s1.iE Em hs1.i hmR hs1.io hV.mo (by have := hs1.il; omega) (by omega)) (by repeat (first | exact keeps_nil | apply keeps_cons (by repeat (first | exact find_head | apply find_tail | apply find_skip)) (by first  | rfl) | exact keeps_self | exact keeps_left | apply keeps_app | apply keeps_mv | apply keeps_skip)) ⟨memK (E := s1.iE) hh (by repeat (first | exact keeps_nil | apply keeps_cons (by repeat (first | exact find_head | apply find_tail | apply find_skip)) (by first  | rfl) | exact keeps_self | exact keeps_left | apply keeps_app | apply keeps_mv | apply keeps_skip)), fun b o m => memK (E := V.B) hh (by repeat (first | exact keeps_nil | apply keeps_cons (by repeat (first | exact find_head | apply find_tail | apply find_skip)) (by first  | rfl) | exact keeps_self | exact keeps_left | apply keeps_app | apply keeps_mv | apply keeps_skip)) b o (hmZ _ m)⟩ ?_)
    clear hl hh a w; intro vc Fc a w hR hl hh
    obtain ⟨rfl, rfl⟩ := hR
    try simp only [List.cons_append, List.nil_append, List.append_assoc, List.append_nil] at hh
    refine d_step (fun h => absurd h (by decide)) ?_
    refine d_takeL (i := 12) hl rfl (by kernel_rfl) (by kernel_rfl) (by kernel_rfl) (by kernel_rfl) (by kernel_rfl) rfl trivial (fun _ _ _ h => h) (fun w => r_pickT hl rfl rfl) rfl ?_
    clear hl a; intro a hl
    refine d_done (by kernel_rfl) ?_
    try clear hM
    have hl2 := hl.add (t := 0) (hl.add (t := 2) (hl.add (t := 9) (hl.add (t := 33) (hl.nil) rfl) rfl) rfl) rfl; clear hl; have hl := hl2; clear hl2
    refine then_normal ?_
    refine c_cond hl rfl ?_ ?_
    · intro hc0
      try simp only [decide_eq_true_eq, decide_eq_false_iff_not, Bool.not_eq_true', Bool.not_eq_false', Bool.not_eq_true, Bool.not_eq_false, Bool.and_eq_true, Bool.or_eq_true, Bool.and_eq_false_iff, Bool.or_eq_false_iff, Bool.not_not, ne_eq, Int.not_lt, Int.not_le, Decidable.not_not, beq_iff_eq, bne_iff_ne] at hc0
      have hop : V.op = true := by first | assumption | (simp_all; done)
      have hsm : sameP W.l.pl.d.is V.mb = true := by rw [← hisl]; first | assumption | (simp_all; done)
      have htb : toB V.pl W.l.pl.d ok = { V.pl with iv := V.mb, op := V.op && !ok } := by unfold toB; rw [if_pos ⟨hop, hsm⟩]; rfl
      obtain ⟨iv9, ip9, ic9, E9, h9v, h9p, h9c, h9R, h9Z, h9o, h9l⟩ : ∃ iv9 ip9 ic9 E9, iv9 = V.mb ∧ ip9 = V.mp ∧ ic9 = V.mc ∧ ROWI ip9 iv9 ic9 E9 ∧ InZ E9 V.B ∧ (∀ x, x ∈ iv9 → x.ok) ∧ iv9.length ≤ 17 := ⟨_, _, _, _, rfl, rfl, rfl, hmR, hmZ, hV.mo, hml⟩
      refine c_region ?_
      refine wl (wl_val hl rfl trivial (r_move hl rfl) ?_)
      clear hl a; intro a hl
      refine wl (wl_val hl rfl trivial (r_move hl rfl) ?_)
      clear hl a; intro a hl
      refine wl (wl_val hl rfl trivial (r_nilCheck hl rfl) ?_)
      clear hl a; intro a hl
      refine wl (wl_val hl rfl trivial (r_field hl rfl fld62_3) ?_)
      clear hl a; intro a hl
      refine wl (w_load hl hh rfl trivial one33 rfl (by repeat (first | exact find_head | apply find_tail | apply find_skip)) (by first | exact hcl | exact stc_ph' _ | exact stc_fid' _ | exact stc_vd' _ | exact stc_ep' _ | exact stc_vs' _ | exact stc_is' _ | rfl) ?_)
      clear hl a; intro a hl
      refine wl (wl_val hl rfl trivial (r_nilCheck hl rfl) ?_)
      clear hl a; intro a hl
      refine wl (wl_val hl rfl trivial (r_field hl rfl fld62_2) ?_)
      clear hl a; intro a hl
      refine wl (w_store hl hh trivial one33 rfl rfl (by repeat (first | exact find_head | apply find_tail | apply find_skip)) (by first | (simp; done) | (simp; omega) | (rw [stc_len]; omega) | (rw [stc_len]; simp; done)) (by first | rfl | assumption | (apply Row.one; assumption)) (by first | (simp only [setL, List.getElem?_cons_zero, List.getElem?_cons_succ, Value.cells, List.take_zero, List.take_succ_cons, List.take_nil, List.drop_zero, List.drop_succ_cons, List.drop_nil, List.length_cons, List.length_nil, List.cons_append, List.nil_append, List.append_nil, Nat.zero_add, Nat.add_zero, Nat.reduceAdd, Nat.reduceBEq, Nat.reduceEqDiff, Nat.ble, BEq.rfl, Bool.and_true, Bool.and_self, cond_true, beq_self_eq_true]; rfl)) ?_)
      clear hh w; intro w hh
      refine w_nil ?_
      have hl2 := hl.add (t := 0) (hl.add (t := 2) (hl.add (t := 9) (hl.nil) rfl) rfl) rfl; clear hl; have hl := hl2; clear hl2
      rw [show Value.slice V.mp V.mb.length V.mc = .slice ip9 iv9.length ic9 by rw [h9v, h9p, h9c]] at hh
      refine then_normal ?_
      refine c_seq ?_
      refine c_seq ?_
      refine c_region ?_
      refine wl (wl_val hl rfl trivial (r_move hl rfl) ?_)
      clear hl a; intro a hl
      refine w_nil ?_
      have hl2 := hl.add (t := 0) (hl.add (t := 9) (hl.add (t := 41) (hl.nil) rfl) rfl) rfl; clear hl; have hl := hl2; clear hl2
      refine then_normal ?_
      refine c_cond hl rfl ?_ ?_
      · intro hc1
        try simp only [decide_eq_true_eq, decide_eq_false_iff_not, Bool.not_eq_true', Bool.not_eq_false', Bool.not_eq_true, Bool.not_eq_false, Bool.and_eq_true, Bool.or_eq_true, Bool.and_eq_false_iff, Bool.or_eq_false_iff, Bool.not_not, ne_eq, Int.not_lt, Int.not_le, Decidable.not_not, beq_iff_eq, bne_iff_ne] at hc1
        have hop9 : (V.op && !ok) = false := by rw [hc1]; simp
        refine c_region ?_
        refine wl (wl_val hl rfl trivial (r_move hl rfl) ?_)
        clear hl a; intro a hl
        refine wl (wl_val hl rfl trivial (r_nilCheck hl rfl) ?_)
        clear hl a; intro a hl
        refine wl (wl_val hl rfl trivial (r_field hl rfl fld62_4) ?_)
        clear hl a; intro a hl
        refine wl (w_store hl hh trivial one4 rfl rfl (by repeat (first | exact find_head | apply find_tail | apply find_skip)) (by first | (simp; done) | (simp; omega) | (rw [stc_len]; omega) | (rw [stc_len]; simp; done)) (by first | rfl | assumption | (apply Row.one; assumption)) (by first | (simp only [setL, List.getElem?_cons_zero, List.getElem?_cons_succ, Value.cells, List.take_zero, List.take_succ_cons, List.take_nil, List.drop_zero, List.drop_succ_cons, List.drop_nil, List.length_cons, List.length_nil, List.cons_append, List.nil_append, List.append_nil, Nat.zero_add, Nat.add_zero, Nat.reduceAdd, Nat.reduceBEq, Nat.reduceEqDiff, Nat.ble, BEq.rfl, Bool.and_true, Bool.and_self, cond_true, beq_self_eq_true]; rfl)) ?_)
        clear hh w; intro w hh
        refine w_nil ?_
        have hl2 := hl.add (t := 0) (hl.add (t := 9) (hl.nil) rfl) rfl; clear hl; have hl := hl2; clear hl2
        rw [show Value.bool false = .bool (V.op && !ok) by rw [hop9]] at hh
        refine then_normal ?_
        refine c_seq ?_
        refine c_seq ?_
        refine c_region ?_
        refine wl (wl_val hl rfl trivial (r_move hl rfl) ?_)
        clear hl a; intro a hl
        refine wl (wl_val hl rfl trivial (r_nilCheck hl rfl) ?_)
        clear hl a; intro a hl
        refine wl (wl_val hl rfl trivial (r_field hl rfl fld62_1) ?_)
        clear hl a; intro a hl
        refine wl (w_load hl hh rfl trivial one46 rfl (by repeat (first | exact find_head | apply find_tail | apply find_skip)) (by first | exact hcl | exact stc_ph' _ | exact stc_fid' _ | exact stc_vd' _ | exact stc_ep' _ | exact stc_vs' _ | exact stc_is' _ | rfl) ?_)
        clear hl a; intro a hl
        refine wl (w_range Try.underlying46 hl hh rfl trivial rfl (by repeat (first | exact find_head | apply find_tail | apply find_skip)) ?_)
        clear hl hh a w; intro k49 a w hl hh
        refine w_nil ?_
        have hl2 := hl.add (t := 0) (hl.add (t := 9) (hl.add (t := 49) (hl.nil) rfl) rfl) rfl; clear hl; have hl := hl2; clear hl2
        refine then_normal ?_
        refine wp_block ?_
        obtain ⟨KS0, hKS0, hk⟩ := (hl.add (t := 0) (hl.add (t := 9) (hl.add (t := 49) (hl.nil) rfl) rfl) rfl).name
        obtain ⟨HS0, hHS0, hh2⟩ := hh.name (keeps_cons (b := k49) (o' := IT V.tb V.tm.length []) (by repeat (first | exact find_head | apply find_tail | apply find_skip)) (by first | rfl) (keeps_nil))
        refine c_loop (α := RgS) (fun y => V.tm.length - y.seen.length) (fun y a w => (RgI V.tm y) ∧ Sl 68 ([] ++ KS0) a ∧ Has _ w0 ([(k49, IT V.tb V.tm.length y.seen)] ++ HS0) w) ⟨[]⟩ ⟨RgI.start _, hk, hh2⟩ ?_
        clear hk hh2 hl hh a w
        intro y a w hI
        obtain ⟨hy, hl, hh⟩ := hI
        subst hKS0; subst hHS0
        simp only [List.cons_append, List.nil_append, List.append_nil, List.append_assoc] at hl hh
        have hyl := nodup_len9 hy.1 hy.2
        refine c_seq ?_
        refine c_region ?_
        refine wl (w_next hl hh rfl trivial rfl (by repeat (first | exact find_head | apply find_tail | apply find_skip)) (by repeat (first | exact find_head | apply find_tail | apply find_skip)) ?_ ?_)
        ·
          intro hall; clear hl a; intro a hl
          refine wl (wl_val hl rfl trivial (r_extract hl rfl (by simp only [List.getElem?_toArray, List.getElem?_cons_zero, List.getElem?_cons_succ]; rfl)) ?_)
          clear hl a; intro a hl
          refine w_nil ?_
          have hl2 := hl.add (t := 0) (hl.add (t := 9) (hl.add (t := 49) (hl.add (t := 51) (hl.nil) rfl) rfl) rfl) rfl; clear hl; have hl := hl2; clear hl2
          refine then_normal ?_
          refine c_seq ?_
          refine c_condF hl rfl ?_
          refine wp_exit ?_
          refine then_exit ?_
          refine then_exit ?_
          refine blk_exit ?_
          refine then_normal ?_
          refine c_seq ?_
          refine c_draw [] [6, 7] mixed hh ?_
          clear hh w; intro w hh
          have hM : Mem [] w := Mem.nil
          refine d_take (i := 0) hl rfl (by kernel_rfl) (by kernel_rfl) (by kernel_rfl) (by kernel_rfl) (by kernel_rfl) rfl trivial (fun _ _ _ h => h) hM (fun w hC => r_field hl rfl fld48_2) rfl ?_
          clear hl a; intro a hl
          refine d_take (i := 2) hl rfl (by kernel_rfl) (by kernel_rfl) (by kernel_rfl) (by kernel_rfl) (by kernel_rfl) rfl trivial (fun _ _ _ h => h) hM (fun w hC => r_move hl rfl) rfl ?_
          clear hl a; intro a hl
          refine d_take (i := 3) hl rfl (by kernel_rfl) (by kernel_rfl) (by kernel_rfl) (by kernel_rfl) (by kernel_rfl) rfl trivial (fun _ _ _ h => h) hM (fun w hC => r_nilCheck hl rfl) rfl ?_
          clear hl a; intro a hl
          refine d_take (i := 4) hl rfl (by kernel_rfl) (by kernel_rfl) (by kernel_rfl) (by kernel_rfl) (by kernel_rfl) rfl trivial (fun _ _ _ h => h) hM (fun w hC => r_field hl rfl fld62_2) rfl ?_
          clear hl a; intro a hl
          refine d_two (i := 1) (j := 5) (by kernel_rfl) rfl rfl ?_ ?_
          ·
            try clear hM
            refine id (w_load hl hh rfl trivial one33 rfl (by repeat (first | exact find_head | apply find_tail | apply find_skip)) (by first | exact hcl | exact stc_ph' _ | exact stc_fid' _ | exact stc_vd' _ | exact stc_ep' _ | exact stc_vs' _ | exact stc_is' _ | rfl) ?_)
            clear hl a; intro a hl
            have hM : Mem [] w := Mem.nil
            refine d_step (fun _ => hM) ?_
            refine d_one (i := 5) (by kernel_rfl) rfl ?_
            try clear hM
            refine id (w_load hl hh rfl trivial one33 rfl (by repeat (first | exact find_head | apply find_tail | apply find_skip)) (by first | exact hcl | exact stc_ph' _ | exact stc_fid' _ | exact stc_vd' _ | exact stc_ep' _ | exact stc_vs' _ | exact stc_is' _ | rfl) ?_)
            clear hl a; intro a hl
            have hM : Mem [] w := Mem.nil
            refine d_step (fun _ => hM) ?_
            refine d_one (i := 6) (by kernel_rfl) rfl ?_
            try clear hM
            refine id (w_call hl hh rfl trivial rfl cal115 rfl (same_spec s1.is iv9 s1.ip ip9 s1.ic ic9 s1.iE E9 hs1.i h9R hs1.io h9o (by have := hs1.il; omega) (by omega)) (by repeat (first | exact keeps_nil | apply keeps_cons (by repeat (first | exact find_head | apply find_tail | apply find_skip)) (by first  | rfl) | exact keeps_self | exact keeps_left | apply keeps_app | apply keeps_mv | apply keeps_skip)) ⟨memK (E := s1.iE) hh (by repeat (first | exact keeps_nil | apply keeps_cons (by repeat (first | exact find_head | apply find_tail | apply find_skip)) (by first  | rfl) | exact keeps_self | exact keeps_left | apply keeps_app | apply keeps_mv | apply keeps_skip)), fun b o m => memK (E := V.B) hh (by repeat (first | exact keeps_nil | apply keeps_cons (by repeat (first | exact find_head | apply find_tail | apply find_skip)) (by first  | rfl) | exact keeps_self | exact keeps_left | apply keeps_app | apply keeps_mv | apply keeps_skip)) b o (h9Z _ m)⟩ ?_)
            clear hl hh a w; intro vc Fc a w hR hl hh
            obtain ⟨rfl, rfl⟩ := hR
            try simp only [List.cons_append, List.nil_append, List.append_assoc, List.append_nil] at hh
            refine d_step (fun h => absurd h (by decide)) ?_
            refine d_takeL (i := 7) hl rfl (by kernel_rfl) (by kernel_rfl) (by kernel_rfl) (by kernel_rfl) (by kernel_rfl) rfl trivial (fun _ _ _ h => h) (fun w => r_assign hl rfl) rfl ?_
            clear hl a; intro a hl
            refine d_done (by kernel_rfl) ?_
            try clear hM
            have hl2 := hl.add (t := 8) (hl.nil) rfl; clear hl; have hl := hl2; clear hl2
            refine then_normal ?_
            refine wp_ret ?_
            refine f_ret1 (F' := (lb, C [.pointer (some ⟨wb, 0, none⟩), .map (some V.tb), .slice ip9 iv9.length ic9, .slice V.mp V.mb.length V.mc, .bool (V.op && !ok)] 62) :: ((V.tb, MO (kInt .u32) V.tm) :: (V.B ++ (((wb, C W.c 84) :: (W.tE ++ (W.gE ++ (DsF W.ds ++ W.GF Z)))) ++ Es)))) hl hh rfl rfl (by repeat (first | exact keeps_nil | apply keeps_cons (by repeat (first | exact find_head | apply find_tail | apply find_skip)) (by first  | (rw [h9v, h9p, h9c]; done) | rfl) | exact keeps_self | exact keeps_left | apply keeps_app | apply keeps_mv | apply keeps_skip)) ?_
            refine ⟨?_, { V with iv := iv9, ip := ip9, ic := ic9, op := V.op && !ok }, ⟨⟨E9, h9R, h9Z⟩, hV.m, h9o, hV.mo, hV.tv, hV.tk⟩, ?_, rfl⟩
            · have h8 := hB1
              rw [htb] at h8
              rw [show sameP s1.is iv9 = true by rw [hisl, h9v]; exact h8]
            · rw [htb, h9v]; rfl
          ·
            try clear hM
            refine id (w_load hl hh rfl trivial one33 rfl (by repeat (first | exact find_head | apply find_tail | apply find_skip)) (by first | exact hcl | exact stc_ph' _ | exact stc_fid' _ | exact stc_vd' _ | exact stc_ep' _ | exact stc_vs' _ | exact stc_is' _ | rfl) ?_)
            clear hl a; intro a hl
            have hM : Mem [] w := Mem.nil
            refine d_step (fun _ => hM) ?_
            refine d_one (i := 1) (by kernel_rfl) rfl ?_
            try clear hM
            refine id (w_load hl hh rfl trivial one33 rfl (by repeat (first | exact find_head | apply find_tail | apply find_skip)) (by first | exact hcl | exact stc_ph' _ | exact stc_fid' _ | exact stc_vd' _ | exact stc_ep' _ | exact stc_vs' _ | exact stc_is' _ | rfl) ?_)
            clear hl a; intro a hl
            have hM : Mem [] w := Mem.nil
            refine d_step (fun _ => hM) ?_
            refine d_one (i := 6) (by kernel_rfl) rfl ?_
            try clear hM
            refine id (w_call hl hh rfl trivial rfl cal115 rfl (same_spec s1.is iv9 s1.ip ip9 s1.ic ic9 s1.iE E9 hs1.i h9R hs1.io h9o (by have := hs1.il; omega) (by omega)) (by repeat (first | exact keeps_nil | apply keeps_cons (by repeat (first | exact find_head | apply find_tail | apply find_skip)) (by first  | rfl) | exact keeps_self | exact keeps_left | apply keeps_app | apply keeps_mv | apply keeps_skip)) ⟨memK (E := s1.iE) hh (by repeat (first | exact keeps_nil | apply keeps_cons (by repeat (first | exact find_head | apply find_tail | apply find_skip)) (by first  | rfl) | exact keeps_self | exact keeps_left | apply keeps_app | apply keeps_mv | apply keeps_skip)), fun b o m => memK (E := V.B) hh (by repeat (first | exact keeps_nil | apply keeps_cons (by repeat (first | exact find_head | apply find_tail | apply find_skip)) (by first  | rfl) | exact keeps_self | exact keeps_left | apply keeps_app | apply keeps_mv | apply keeps_skip)) b o (h9Z _ m)⟩ ?_)
            clear hl hh a w; intro vc Fc a w hR hl hh
            obtain ⟨rfl, rfl⟩ := hR
            try simp only [List.cons_append, List.nil_append, List.append_assoc, List.append_nil] at hh
            refine d_step (fun h => absurd h (by decide)) ?_
            refine d_takeL (i := 7) hl rfl (by kernel_rfl) (by kernel_rfl) (by kernel_rfl) (by kernel_rfl) (by kernel_rfl) rfl trivial (fun _ _ _ h => h) (fun w => r_assign hl rfl) rfl ?_
            clear hl a; intro a hl
            refine d_done (by kernel_rfl) ?_
            try clear hM
            have hl2 := hl.add (t := 8) (hl.nil) rfl; clear hl; have hl := hl2; clear hl2
            refine then_normal ?_
            refine wp_ret ?_
            refine f_ret1 (F' := (lb, C [.pointer (some ⟨wb, 0, none⟩), .map (some V.tb), .slice ip9 iv9.length ic9, .slice V.mp V.mb.length V.mc, .bool (V.op && !ok)] 62) :: ((V.tb, MO (kInt .u32) V.tm) :: (V.B ++ (((wb, C W.c 84) :: (W.tE ++ (W.gE ++ (DsF W.ds ++ W.GF Z)))) ++ Es)))) hl hh rfl rfl (by repeat (first | exact keeps_nil | apply keeps_cons (by repeat (first | exact find_head | apply find_tail | apply find_skip)) (by first  | (rw [h9v, h9p, h9c]; done) | rfl) | exact keeps_self | exact keeps_left | apply keeps_app | apply keeps_mv | apply keeps_skip)) ?_
            refine ⟨?_, { V with iv := iv9, ip := ip9, ic := ic9, op := V.op && !ok }, ⟨⟨E9, h9R, h9Z⟩, hV.m, h9o, hV.mo, hV.tv, hV.tk⟩, ?_, rfl⟩
            · have h8 := hB1
              rw [htb] at h8
              rw [show sameP s1.is iv9 = true by rw [hisl, h9v]; exact h8]
            · rw [htb, h9v]; rfl
        ·
          intro j50 p50 hjn50 hn50; clear hl hh a w; intro a w hl hh
          have hyn := hy.next hjn50 hn50
          obtain ⟨z9, hz9, hz1, hz2⟩ := hV.tv _ _ (mget_at9 hV.tk hjn50)
          have htl : V.pl.tl p50.1 = some z9 := by show vdN (mget V.tm p50.1) = some z9; rw [mget_at9 hV.tk hjn50, hz9]; rfl
          have hlk : mget s1.vd p50.1 = some (.int .u8 z9) := by
            have h8 := hB2 _ _ htl
            rw [← hps1] at h8
            rcases vdx hs1 p50.1 with ⟨c8, h7, _, _, h6⟩ | ⟨h7, h6⟩
            · rw [h6] at h8; injection h8 with h8; rw [h7, h8]
            · rw [h6] at h8; cases h8
          refine wl (wl_val hl rfl trivial (r_extract hl rfl (by simp only [List.getElem?_toArray, List.getElem?_cons_zero, List.getElem?_cons_succ]; rfl)) ?_)
          clear hl a; intro a hl
          refine w_nil ?_
          have hl2 := hl.add (t := 0) (hl.add (t := 9) (hl.add (t := 49) (hl.add (t := 51) (hl.nil) rfl) rfl) rfl) rfl; clear hl; have hl := hl2; clear hl2
          refine then_normal ?_
          refine c_seq ?_
          refine c_condT hl rfl ?_
          refine wp_skip ?_
          refine then_normal ?_
          refine wp_block ?_
          refine c_seq ?_
          refine c_region ?_
          refine wl (w_entry hjn50 hl hh rfl trivial rfl (by repeat (first | exact find_head | apply find_tail | apply find_skip)) (by repeat (first | exact find_head | apply find_tail | apply find_skip)) ?_)
          clear hl a; intro a hl
          refine wl (wl_val hl rfl trivial (r_extract hl rfl (by simp only [List.getElem?_toArray, List.getElem?_cons_zero, List.getElem?_cons_succ]; rfl)) ?_)
          clear hl a; intro a hl
          refine wl (wl_val hl rfl trivial (r_extract hl rfl (by simp only [List.getElem?_toArray, List.getElem?_cons_zero, List.getElem?_cons_succ]; rfl)) ?_)
          clear hl a; intro a hl
          try rw [hz9] at hl
          refine wl (wl_val hl rfl trivial (r_assign hl rfl) ?_)
          clear hl a; intro a hl
          refine wl (wl_val hl rfl trivial (r_assign hl rfl) ?_)
          clear hl a; intro a hl
          refine w_nil ?_
          have hl2 := hl.add (t := 0) (hl.add (t := 9) (hl.add (t := 10) (hl.add (t := 11) (hl.add (t := 49) (hl.nil) rfl) rfl) rfl) rfl) rfl; clear hl; have hl := hl2; clear hl2
          refine then_normal ?_
          refine c_seq ?_
          refine c_region ?_
          refine wl (wl_val hl rfl trivial (r_field hl rfl fld48_4) ?_)
          clear hl a; intro a hl
          refine wl (w_load hl hh rfl trivial one46 rfl (by repeat (first | exact find_head | apply find_tail | apply find_skip)) (by first | exact hcl | exact stc_ph' _ | exact stc_fid' _ | exact stc_vd' _ | exact stc_ep' _ | exact stc_vs' _ | exact stc_is' _ | rfl) ?_)
          clear hl a; intro a hl
          refine wl (wl_val hl rfl trivial (r_move hl rfl) ?_)
          clear hl a; intro a hl
          refine wl (w_lookup (keyInt Try.underlying31) Try.underlying46 zero132 hl hh rfl trivial rfl rfl (by repeat (first | exact find_head | apply find_tail | apply find_skip)) ?_)
          clear hl a; intro a hl
          rw [hlk] at hl
          try simp only [Option.getD_some] at hl
          refine wl (wl_val hl rfl trivial (r_move hl rfl) ?_)
          clear hl a; intro a hl
          refine wl (wl_val hl rfl trivial (r_neq hl rfl rfl) ?_)
          clear hl a; intro a hl
          refine w_nil ?_
          have hl2 := hl.add (t := 0) (hl.add (t := 9) (hl.add (t := 49) (hl.add (t := 60) (hl.nil) rfl) rfl) rfl) rfl; clear hl; have hl := hl2; clear hl2
          refine then_normal ?_
          refine c_cond hl rfl ?_ ?_
          · intro hc3
            try simp only [decide_eq_true_eq, decide_eq_false_iff_not, Bool.not_eq_true', Bool.not_eq_false', Bool.not_eq_true, Bool.not_eq_false, Bool.and_eq_true, Bool.or_eq_true, Bool.and_eq_false_iff, Bool.or_eq_false_iff, Bool.not_not, ne_eq, Int.not_lt, Int.not_le, Decidable.not_not, beq_iff_eq, bne_iff_ne] at hc3
            exfalso; first | contradiction | omega
          · intro hc3
            try simp only [decide_eq_true_eq, decide_eq_false_iff_not, Bool.not_eq_true', Bool.not_eq_false', Bool.not_eq_true, Bool.not_eq_false, Bool.and_eq_true, Bool.or_eq_true, Bool.and_eq_false_iff, Bool.or_eq_false_iff, Bool.not_not, ne_eq, Int.not_lt, Int.not_le, Decidable.not_not, beq_iff_eq, bne_iff_ne] at hc3
            refine wp_skip ?_
            refine blk_normal ?_
            refine then_normal ?_
            refine ⟨⟨y.seen ++ [j50]⟩, (by have := nodup_len9 hyn.1 hyn.2; simp only [List.length_append, List.length_cons, List.length_nil] at this ⊢; omega), hyn, hl.addE (t := 0) (hl.addE (t := 9) (hl.addE (t := 49) (hl.nil) rfl (by first | rfl | (congr 1; omega))) rfl (by first | rfl | (congr 1; omega))) rfl (by first | rfl | (congr 1; omega)), hh.keep (by repeat (first | exact keeps_nil | apply keeps_cons (by repeat (first | exact find_head | apply find_tail | apply find_skip)) (by first  | rfl) | exact keeps_self | exact keeps_left | apply keeps_app | apply keeps_mv | apply keeps_skip))⟩
      · intro hc1
        try simp only [decide_eq_true_eq, decide_eq_false_iff_not, Bool.not_eq_true', Bool.not_eq_false', Bool.not_eq_true, Bool.not_eq_false, Bool.and_eq_true, Bool.or_eq_true, Bool.and_eq_false_iff, Bool.or_eq_false_iff, Bool.not_not, ne_eq, Int.not_lt, Int.not_le, Decidable.not_not, beq_iff_eq, bne_iff_ne] at hc1
        have hop9 : (V.op && !ok) = V.op := by rw [hc1]; simp
        rw [show Value.bool V.op = .bool (V.op && !ok) by rw [hop9]] at hh
        refine wp_skip ?_
        refine then_normal ?_
        refine c_seq ?_
        refine c_seq ?_
        refine c_region ?_
        refine wl (wl_val hl rfl trivial (r_move hl rfl) ?_)
        clear hl a; intro a hl
        refine wl (wl_val hl rfl trivial (r_nilCheck hl rfl) ?_)
        clear hl a; intro a hl
        refine wl (wl_val hl rfl trivial (r_field hl rfl fld62_1) ?_)
        clear hl a; intro a hl
        refine wl (w_load hl hh rfl trivial one46 rfl (by repeat (first | exact find_head | apply find_tail | apply find_skip)) (by first | exact hcl | exact stc_ph' _ | exact stc_fid' _ | exact stc_vd' _ | exact stc_ep' _ | exact stc_vs' _ | exact stc_is' _ | rfl) ?_)
        clear hl a; intro a hl
        refine wl (w_range Try.underlying46 hl hh rfl trivial rfl (by repeat (first | exact find_head | apply find_tail | apply find_skip)) ?_)
        clear hl hh a w; intro k49 a w hl hh
        refine w_nil ?_
        have hl2 := hl.add (t := 0) (hl.add (t := 9) (hl.add (t := 49) (hl.nil) rfl) rfl) rfl; clear hl; have hl := hl2; clear hl2
        refine then_normal ?_
        refine wp_block ?_
        obtain ⟨KS0, hKS0, hk⟩ := (hl.add (t := 0) (hl.add (t := 9) (hl.add (t := 49) (hl.nil) rfl) rfl) rfl).name
        obtain ⟨HS0, hHS0, hh2⟩ := hh.name (keeps_cons (b := k49) (o' := IT V.tb V.tm.length []) (by repeat (first | exact find_head | apply find_tail | apply find_skip)) (by first | rfl) (keeps_nil))
        refine c_loop (α := RgS) (fun y => V.tm.length - y.seen.length) (fun y a w => (RgI V.tm y) ∧ Sl 68 ([] ++ KS0) a ∧ Has _ w0 ([(k49, IT V.tb V.tm.length y.seen)] ++ HS0) w) ⟨[]⟩ ⟨RgI.start _, hk, hh2⟩ ?_
        clear hk hh2 hl hh a w
        intro y a w hI
        obtain ⟨hy, hl, hh⟩ := hI
        subst hKS0; subst hHS0
        simp only [List.cons_append, List.nil_append, List.append_nil, List.append_assoc] at hl hh
        have hyl := nodup_len9 hy.1 hy.2
        refine c_seq ?_
        refine c_region ?_
        refine wl (w_next hl hh rfl trivial rfl (by repeat (first | exact find_head | apply find_tail | apply find_skip)) (by repeat (first | exact find_head | apply find_tail | apply find_skip)) ?_ ?_)
        ·
          intro hall; clear hl a; intro a hl
          refine wl (wl_val hl rfl trivial (r_extract hl rfl (by simp only [List.getElem?_toArray, List.getElem?_cons_zero, List.getElem?_cons_succ]; rfl)) ?_)
          clear hl a; intro a hl
          refine w_nil ?_
          have hl2 := hl.add (t := 0) (hl.add (t := 9) (hl.add (t := 49) (hl.add (t := 51) (hl.nil) rfl) rfl) rfl) rfl; clear hl; have hl := hl2; clear hl2
          refine then_normal ?_
          refine c_seq ?_
          refine c_condF hl rfl ?_
          refine wp_exit ?_
          refine then_exit ?_
          refine then_exit ?_
          refine blk_exit ?_
          refine then_normal ?_
          refine c_seq ?_
          refine c_draw [] [6, 7] mixed hh ?_
          clear hh w; intro w hh
          have hM : Mem [] w := Mem.nil
          refine d_take (i := 0) hl rfl (by kernel_rfl) (by kernel_rfl) (by kernel_rfl) (by kernel_rfl) (by kernel_rfl) rfl trivial (fun _ _ _ h => h) hM (fun w hC => r_field hl rfl fld48_2) rfl ?_
          clear hl a; intro a hl
          refine d_take (i := 2) hl rfl (by kernel_rfl) (by kernel_rfl) (by kernel_rfl) (by kernel_rfl) (by kernel_rfl) rfl trivial (fun _ _ _ h => h) hM (fun w hC => r_move hl rfl) rfl ?_
          clear hl a; intro a hl
          refine d_take (i := 3) hl rfl (by kernel_rfl) (by kernel_rfl) (by kernel_rfl) (by kernel_rfl) (by kernel_rfl) rfl trivial (fun _ _ _ h => h) hM (fun w hC => r_nilCheck hl rfl) rfl ?_
          clear hl a; intro a hl
          refine d_take (i := 4) hl rfl (by kernel_rfl) (by kernel_rfl) (by kernel_rfl) (by kernel_rfl) (by kernel_rfl) rfl trivial (fun _ _ _ h => h) hM (fun w hC => r_field hl rfl fld62_2) rfl ?_
          clear hl a; intro a hl
          refine d_two (i := 1) (j := 5) (by kernel_rfl) rfl rfl ?_ ?_
          ·
            try clear hM
            refine id (w_load hl hh rfl trivial one33 rfl (by repeat (first | exact find_head | apply find_tail | apply find_skip)) (by first | exact hcl | exact stc_ph' _ | exact stc_fid' _ | exact stc_vd' _ | exact stc_ep' _ | exact stc_vs' _ | exact stc_is' _ | rfl) ?_)
            clear hl a; intro a hl
            have hM : Mem [] w := Mem.nil
            refine d_step (fun _ => hM) ?_
            refine d_one (i := 5) (by kernel_rfl) rfl ?_
            try clear hM
            refine id (w_load hl hh rfl trivial one33 rfl (by repeat (first | exact find_head | apply find_tail | apply find_skip)) (by first | exact hcl | exact stc_ph' _ | exact stc_fid' _ | exact stc_vd' _ | exact stc_ep' _ | exact stc_vs' _ | exact stc_is' _ | rfl) ?_)
            clear hl a; intro a hl
            have hM : Mem [] w := Mem.nil
            refine d_step (fun _ => hM) ?_
            refine d_one (i := 6) (by kernel_rfl) rfl ?_
            try clear hM
            refine id (w_call hl hh rfl trivial rfl cal115 rfl (same_spec s1.is iv9 s1.ip ip9 s1.ic ic9 s1.iE E9 hs1.i h9R hs1.io h9o (by have := hs1.il; omega) (by omega)) (by repeat (first | exact keeps_nil | apply keeps_cons (by repeat (first | exact find_head | apply find_tail | apply find_skip)) (by first  | rfl) | exact keeps_self | exact keeps_left | apply keeps_app | apply keeps_mv | apply keeps_skip)) ⟨memK (E := s1.iE) hh (by repeat (first | exact keeps_nil | apply keeps_cons (by repeat (first | exact find_head | apply find_tail | apply find_skip)) (by first  | rfl) | exact keeps_self | exact keeps_left | apply keeps_app | apply keeps_mv | apply keeps_skip)), fun b o m => memK (E := V.B) hh (by repeat (first | exact keeps_nil | apply keeps_cons (by repeat (first | exact find_head | apply find_tail | apply find_skip)) (by first  | rfl) | exact keeps_self | exact keeps_left | apply keeps_app | apply keeps_mv | apply keeps_skip)) b o (h9Z _ m)⟩ ?_)
            clear hl hh a w; intro vc Fc a w hR hl hh
            obtain ⟨rfl, rfl⟩ := hR
            try simp only [List.cons_append, List.nil_append, List.append_assoc, List.append_nil] at hh
            refine d_step (fun h => absurd h (by decide)) ?_
            refine d_takeL (i := 7) hl rfl (by kernel_rfl) (by kernel_rfl) (by kernel_rfl) (by kernel_rfl) (by kernel_rfl) rfl trivial (fun _ _ _ h => h) (fun w => r_assign hl rfl) rfl ?_
            clear hl a; intro a hl
            refine d_done (by kernel_rfl) ?_
            try clear hM
            have hl2 := hl.add (t := 8) (hl.nil) rfl; clear hl; have hl := hl2; clear hl2
            refine then_normal ?_
            refine wp_ret ?_
            refine f_ret1 (F' := (lb, C [.pointer (some ⟨wb, 0, none⟩), .map (some V.tb), .slice ip9 iv9.length ic9, .slice V.mp V.mb.length V.mc, .bool (V.op && !ok)] 62) :: ((V.tb, MO (kInt .u32) V.tm) :: (V.B ++ (((wb, C W.c 84) :: (W.tE ++ (W.gE ++ (DsF W.ds ++ W.GF Z)))) ++ Es)))) hl hh rfl rfl (by repeat (first | exact keeps_nil | apply keeps_cons (by repeat (first | exact find_head | apply find_tail | apply find_skip)) (by first  | (rw [h9v, h9p, h9c]; done) | rfl) | exact keeps_self | exact keeps_left | apply keeps_app | apply keeps_mv | apply keeps_skip)) ?_
            refine ⟨?_, { V with iv := iv9, ip := ip9, ic := ic9, op := V.op && !ok }, ⟨⟨E9, h9R, h9Z⟩, hV.m, h9o, hV.mo, hV.tv, hV.tk⟩, ?_, rfl⟩
            · have h8 := hB1
              rw [htb] at h8
              rw [show sameP s1.is iv9 = true by rw [hisl, h9v]; exact h8]
            · rw [htb, h9v]; rfl
          ·
            try clear hM
            refine id (w_load hl hh rfl trivial one33 rfl (by repeat (first | exact find_head | apply find_tail | apply find_skip)) (by first | exact hcl | exact stc_ph' _ | exact stc_fid' _ | exact stc_vd' _ | exact stc_ep' _ | exact stc_vs' _ | exact stc_is' _ | rfl) ?_)
            clear hl a; intro a hl
            have hM : Mem [] w := Mem.nil
            refine d_step (fun _ => hM) ?_
            refine d_one (i := 1) (by kernel_rfl) rfl ?_
            try clear hM
            refine id (w_load hl hh rfl trivial one33 rfl (by repeat (first | exact find_head | apply find_tail | apply find_skip)) (by first | exact hcl | exact stc_ph' _ | exact stc_fid' _ | exact stc_vd' _ | exact stc_ep' _ | exact stc_vs' _ | exact stc_is' _ | rfl) ?_)
            clear hl a; intro a hl
            have hM : Mem [] w := Mem.nil
            refine d_step (fun _ => hM) ?_
            refine d_one (i := 6) (by kernel_rfl) rfl ?_
            try clear hM
            refine id (w_call hl hh rfl trivial rfl cal115 rfl (same_spec s1.is iv9 s1.ip ip9 s1.ic ic9 s1.iE E9 hs1.i h9R hs1.io h9o (by have := hs1.il; omega) (by omega)) (by repeat (first | exact keeps_nil | apply keeps_cons (by repeat (first | exact find_head | apply find_tail | apply find_skip)) (by first  | rfl) | exact keeps_self | exact keeps_left | apply keeps_app | apply keeps_mv | apply keeps_skip)) ⟨memK (E := s1.iE) hh (by repeat (first | exact keeps_nil | apply keeps_cons (by repeat (first | exact find_head | apply find_tail | apply find_skip)) (by first  | rfl) | exact keeps_self | exact keeps_left | apply keeps_app | apply keeps_mv | apply keeps_skip)), fun b o m => memK (E := V.B) hh (by repeat (first | exact keeps_nil | apply keeps_cons (by repeat (first | exact find_head | apply find_tail | apply find_skip)) (by first  | rfl) | exact keeps_self | exact keeps_left | apply keeps_app | apply keeps_mv | apply keeps_skip)) b o (h9Z _ m)⟩ ?_)
            clear hl hh a w; intro vc Fc a w hR hl hh
            obtain ⟨rfl, rfl⟩ := hR
            try simp only [List.cons_append, List.nil_append, List.append_assoc, List.append_nil] at hh
            refine d_step (fun h => absurd h (by decide)) ?_
            refine d_takeL (i := 7) hl rfl (by kernel_rfl) (by kernel_rfl) (by kernel_rfl) (by kernel_rfl) (by kernel_rfl) rfl trivial (fun _ _ _ h => h) (fun w => r_assign hl rfl) rfl ?_
            clear hl a; intro a hl
            refine d_done (by kernel_rfl) ?_
            try clear hM
            have hl2 := hl.add (t := 8) (hl.nil) rfl; clear hl; have hl := hl2; clear hl2
            refine then_normal ?_
            refine wp_ret ?_
            refine f_ret1 (F' := (lb, C [.pointer (some ⟨wb, 0, none⟩), .map (some V.tb), .slice ip9 iv9.length ic9, .slice V.mp V.mb.length V.mc, .bool (V.op && !ok)] 62) :: ((V.tb, MO (kInt .u32) V.tm) :: (V.B ++ (((wb, C W.c 84) :: (W.tE ++ (W.gE ++ (DsF W.ds ++ W.GF Z)))) ++ Es)))) hl hh rfl rfl (by repeat (first | exact keeps_nil | apply keeps_cons (by repeat (first | exact find_head | apply find_tail | apply find_skip)) (by first  | (rw [h9v, h9p, h9c]; done) | rfl) | exact keeps_self | exact keeps_left | apply keeps_app | apply keeps_mv | apply keeps_skip)) ?_
            refine ⟨?_, { V with iv := iv9, ip := ip9, ic := ic9, op := V.op && !ok }, ⟨⟨E9, h9R, h9Z⟩, hV.m, h9o, hV.mo, hV.tv, hV.tk⟩, ?_, rfl⟩
            · have h8 := hB1
              rw [htb] at h8
              rw [show sameP s1.is iv9 = true by rw [hisl, h9v]; exact h8]
            · rw [htb, h9v]; rfl
        ·
          intro j50 p50 hjn50 hn50; clear hl hh a w; intro a w hl hh
          have hyn := hy.next hjn50 hn50
          obtain ⟨z9, hz9, hz1, hz2⟩ := hV.tv _ _ (mget_at9 hV.tk hjn50)
          have htl : V.pl.tl p50.1 = some z9 := by show vdN (mget V.tm p50.1) = some z9; rw [mget_at9 hV.tk hjn50, hz9]; rfl
          have hlk : mget s1.vd p50.1 = some (.int .u8 z9) := by
            have h8 := hB2 _ _ htl
            rw [← hps1] at h8
            rcases vdx hs1 p50.1 with ⟨c8, h7, _, _, h6⟩ | ⟨h7, h6⟩
            · rw [h6] at h8; injection h8 with h8; rw [h7, h8]
            · rw [h6] at h8; cases h8
          refine wl (wl_val hl rfl trivial (r_extract hl rfl (by simp only [List.getElem?_toArray, List.getElem?_cons_zero, List.getElem?_cons_succ]; rfl)) ?_)
          clear hl a; intro a hl
          refine w_nil ?_
          have hl2 := hl.add (t := 0) (hl.add (t := 9) (hl.add (t := 49) (hl.add (t := 51) (hl.nil) rfl) rfl) rfl) rfl; clear hl; have hl := hl2; clear hl2
          refine then_normal ?_
          refine c_seq ?_
          refine c_condT hl rfl ?_
          refine wp_skip ?_
          refine then_normal ?_
          refine wp_block ?_
          refine c_seq ?_
          refine c_region ?_
          refine wl (w_entry hjn50 hl hh rfl trivial rfl (by repeat (first | exact find_head | apply find_tail | apply find_skip)) (by repeat (first | exact find_head | apply find_tail | apply find_skip)) ?_)
          clear hl a; intro a hl
          refine wl (wl_val hl rfl trivial (r_extract hl rfl (by simp only [List.getElem?_toArray, List.getElem?_cons_zero, List.getElem?_cons_succ]; rfl)) ?_)
          clear hl a; intro a hl
          refine wl (wl_val hl rfl trivial (r_extract hl rfl (by simp only [List.getElem?_toArray, List.getElem?_cons_zero, List.getElem?_cons_succ]; rfl)) ?_)
          clear hl a; intro a hl
          try rw [hz9] at hl
          refine wl (wl_val hl rfl trivial (r_assign hl rfl) ?_)
          clear hl a; intro a hl
          refine wl (wl_val hl rfl trivial (r_assign hl rfl) ?_)
          clear hl a; intro a hl
          refine w_nil ?_
          have hl2 := hl.add (t := 0) (hl.add (t := 9) (hl.add (t := 10) (hl.add (t := 11) (hl.add (t := 49) (hl.nil) rfl) rfl) rfl) rfl) rfl; clear hl; have hl := hl2; clear hl2
          refine then_normal ?_
          refine c_seq ?_
          refine c_region ?_
          refine wl (wl_val hl rfl trivial (r_field hl rfl fld48_4) ?_)
          clear hl a; intro a hl
          refine wl (w_load hl hh rfl trivial one46 rfl (by repeat (first | exact find_head | apply find_tail | apply find_skip)) (by first | exact hcl | exact stc_ph' _ | exact stc_fid' _ | exact stc_vd' _ | exact stc_ep' _ | exact stc_vs' _ | exact stc_is' _ | rfl) ?_)
          clear hl a; intro a hl
          refine wl (wl_val hl rfl trivial (r_move hl rfl) ?_)
          clear hl a; intro a hl
          refine wl (w_lookup (keyInt Try.underlying31) Try.underlying46 zero132 hl hh rfl trivial rfl rfl (by repeat (first | exact find_head | apply find_tail | apply find_skip)) ?_)
          clear hl a; intro a hl
          rw [hlk] at hl
          try simp only [Option.getD_some] at hl
          refine wl (wl_val hl rfl trivial (r_move hl rfl) ?_)
          clear hl a; intro a hl
          refine wl (wl_val hl rfl trivial (r_neq hl rfl rfl) ?_)
          clear hl a; intro a hl
          refine w_nil ?_
          have hl2 := hl.add (t := 0) (hl.add (t := 9) (hl.add (t := 49) (hl.add (t := 60) (hl.nil) rfl) rfl) rfl) rfl; clear hl; have hl := hl2; clear hl2
          refine then_normal ?_
          refine c_cond hl rfl ?_ ?_
          · intro hc3
            try simp only [decide_eq_true_eq, decide_eq_false_iff_not, Bool.not_eq_true', Bool.not_eq_false', Bool.not_eq_true, Bool.not_eq_false, Bool.and_eq_true, Bool.or_eq_true, Bool.and_eq_false_iff, Bool.or_eq_false_iff, Bool.not_not, ne_eq, Int.not_lt, Int.not_le, Decidable.not_not, beq_iff_eq, bne_iff_ne] at hc3
            exfalso; first | contradiction | omega
          · intro hc3
            try simp only [decide_eq_true_eq, decide_eq_false_iff_not, Bool.not_eq_true', Bool.not_eq_false', Bool.not_eq_true, Bool.not_eq_false, Bool.and_eq_true, Bool.or_eq_true, Bool.and_eq_false_iff, Bool.or_eq_false_iff, Bool.not_not, ne_eq, Int.not_lt, Int.not_le, Decidable.not_not, beq_iff_eq, bne_iff_ne] at hc3
            refine wp_skip ?_
            refine blk_normal ?_
            refine then_normal ?_
            refine ⟨⟨y.seen ++ [j50]⟩, (by have := nodup_len9 hyn.1 hyn.2; simp only [List.length_append, List.length_cons, List.length_nil] at this ⊢; omega), hyn, hl.addE (t := 0) (hl.addE (t := 9) (hl.addE (t := 49) (hl.nil) rfl (by first | rfl | (congr 1; omega))) rfl (by first | rfl | (congr 1; omega))) rfl (by first | rfl | (congr 1; omega)), hh.keep (by repeat (first | exact keeps_nil | apply keeps_cons (by repeat (first | exact find_head | apply find_tail | apply find_skip)) (by first  | rfl) | exact keeps_self | exact keeps_left | apply keeps_app | apply keeps_mv | apply keeps_skip))⟩
    · intro hc0
      try simp only [decide_eq_true_eq, decide_eq_false_iff_not, Bool.not_eq_true', Bool.not_eq_false', Bool.not_eq_true, Bool.not_eq_false, Bool.and_eq_true, Bool.or_eq_true, Bool.and_eq_false_iff, Bool.or_eq_false_iff, Bool.not_not, ne_eq, Int.not_lt, Int.not_le, Decidable.not_not, beq_iff_eq, bne_iff_ne] at hc0
      have htb : toB V.pl W.l.pl.d ok = { V.pl with op := V.op && !ok } := by unfold toB; rw [if_neg (fun h9 => by have h8 : V.op = true := h9.1; have h7 : sameP W.l.pl.d.is V.mb = true := h9.2; rw [← hisl] at h7; first | exact Bool.noConfusion (h8.symm.trans (show V.op = false by assumption)) | exact Bool.noConfusion (h7.symm.trans (show sameP s1.is V.mb = false by assumption)))]; rfl
      obtain ⟨iv9, ip9, ic9, E9, h9v, h9p, h9c, h9R, h9Z, h9o, h9l⟩ : ∃ iv9 ip9 ic9 E9, iv9 = V.iv ∧ ip9 = V.ip ∧ ic9 = V.ic ∧ ROWI ip9 iv9 ic9 E9 ∧ InZ E9 V.B ∧ (∀ x, x ∈ iv9 → x.ok) ∧ iv9.length ≤ 17 := ⟨_, _, _, _, rfl, rfl, rfl, hiR, hiZ, hV.io, by omega⟩
      rw [show Value.slice V.ip V.iv.length V.ic = .slice ip9 iv9.length ic9 by rw [h9v, h9p, h9c]] at hh
      refine wp_skip ?_
      refine then_normal ?_
      refine c_seq ?_
      refine c_seq ?_
      refine c_region ?_
      refine wl (wl_val hl rfl trivial (r_move hl rfl) ?_)
      clear hl a; intro a hl
      refine w_nil ?_
      have hl2 := hl.add (t := 0) (hl.add (t := 9) (hl.add (t := 41) (hl.nil) rfl) rfl) rfl; clear hl; have hl := hl2; clear hl2
      refine then_normal ?_
      refine c_cond hl rfl ?_ ?_
      · intro hc1
        try simp only [decide_eq_true_eq, decide_eq_false_iff_not, Bool.not_eq_true', Bool.not_eq_false', Bool.not_eq_true, Bool.not_eq_false, Bool.and_eq_true, Bool.or_eq_true, Bool.and_eq_false_iff, Bool.or_eq_false_iff, Bool.not_not, ne_eq, Int.not_lt, Int.not_le, Decidable.not_not, beq_iff_eq, bne_iff_ne] at hc1
        have hop9 : (V.op && !ok) = false := by rw [hc1]; simp
        refine c_region ?_
        refine wl (wl_val hl rfl trivial (r_move hl rfl) ?_)
        clear hl a; intro a hl
        refine wl (wl_val hl rfl trivial (r_nilCheck hl rfl) ?_)
        clear hl a; intro a hl
        refine wl (wl_val hl rfl trivial (r_field hl rfl fld62_4) ?_)
        clear hl a; intro a hl
        refine wl (w_store hl hh trivial one4 rfl rfl (by repeat (first | exact find_head | apply find_tail | apply find_skip)) (by first | (simp; done) | (simp; omega) | (rw [stc_len]; omega) | (rw [stc_len]; simp; done)) (by first | rfl | assumption | (apply Row.one; assumption)) (by first | (simp only [setL, List.getElem?_cons_zero, List.getElem?_cons_succ, Value.cells, List.take_zero, List.take_succ_cons, List.take_nil, List.drop_zero, List.drop_succ_cons, List.drop_nil, List.length_cons, List.length_nil, List.cons_append, List.nil_append, List.append_nil, Nat.zero_add, Nat.add_zero, Nat.reduceAdd, Nat.reduceBEq, Nat.reduceEqDiff, Nat.ble, BEq.rfl, Bool.and_true, Bool.and_self, cond_true, beq_self_eq_true]; rfl)) ?_)
        clear hh w; intro w hh
        refine w_nil ?_
        have hl2 := hl.add (t := 0) (hl.add (t := 9) (hl.nil) rfl) rfl; clear hl; have hl := hl2; clear hl2
        rw [show Value.bool false = .bool (V.op && !ok) by rw [hop9]] at hh
        refine then_normal ?_
        refine c_seq ?_
        refine c_seq ?_
        refine c_region ?_
        refine wl (wl_val hl rfl trivial (r_move hl rfl) ?_)
        clear hl a; intro a hl
        refine wl (wl_val hl rfl trivial (r_nilCheck hl rfl) ?_)
        clear hl a; intro a hl
        refine wl (wl_val hl rfl trivial (r_field hl rfl fld62_1) ?_)
        clear hl a; intro a hl
        refine wl (w_load hl hh rfl trivial one46 rfl (by repeat (first | exact find_head | apply find_tail | apply find_skip)) (by first | exact hcl | exact stc_ph' _ | exact stc_fid' _ | exact stc_vd' _ | exact stc_ep' _ | exact stc_vs' _ | exact stc_is' _ | rfl) ?_)
        clear hl a; intro a hl
        refine wl (w_range Try.underlying46 hl hh rfl trivial rfl (by repeat (first | exact find_head | apply find_tail | apply find_skip)) ?_)
        clear hl hh a w; intro k49 a w hl hh
        refine w_nil ?_
        have hl2 := hl.add (t := 0) (hl.add (t := 9) (hl.add (t := 49) (hl.nil) rfl) rfl) rfl; clear hl; have hl := hl2; clear hl2
        refine then_normal ?_
        refine wp_block ?_
        obtain ⟨KS0, hKS0, hk⟩ := (hl.add (t := 0) (hl.add (t := 9) (hl.add (t := 49) (hl.nil) rfl) rfl) rfl).name
        obtain ⟨HS0, hHS0, hh2⟩ := hh.name (keeps_cons (b := k49) (o' := IT V.tb V.tm.length []) (by repeat (first | exact find_head | apply find_tail | apply find_skip)) (by first | rfl) (keeps_nil))
        refine c_loop (α := RgS) (fun y => V.tm.length - y.seen.length) (fun y a w => (RgI V.tm y) ∧ Sl 68 ([] ++ KS0) a ∧ Has _ w0 ([(k49, IT V.tb V.tm.length y.seen)] ++ HS0) w) ⟨[]⟩ ⟨RgI.start _, hk, hh2⟩ ?_
        clear hk hh2 hl hh a w
        intro y a w hI
        obtain ⟨hy, hl, hh⟩ := hI
        subst hKS0; subst hHS0
        simp only [List.cons_append, List.nil_append, List.append_nil, List.append_assoc] at hl hh
        have hyl := nodup_len9 hy.1 hy.2
        refine c_seq ?_
        refine c_region ?_
        refine wl (w_next hl hh rfl trivial rfl (by repeat (first | exact find_head | apply find_tail | apply find_skip)) (by repeat (first | exact find_head | apply find_tail | apply find_skip)) ?_ ?_)
        ·
          intro hall; clear hl a; intro a hl
          refine wl (wl_val hl rfl trivial (r_extract hl rfl (by simp only [List.getElem?_toArray, List.getElem?_cons_zero, List.getElem?_cons_succ]; rfl)) ?_)
          clear hl a; intro a hl
          refine w_nil ?_
          have hl2 := hl.add (t := 0) (hl.add (t := 9) (hl.add (t := 49) (hl.add (t := 51) (hl.nil) rfl) rfl) rfl) rfl; clear hl; have hl := hl2; clear hl2
          refine then_normal ?_
          refine c_seq ?_
          refine c_condF hl rfl ?_
          refine wp_exit ?_
          refine then_exit ?_
          refine then_exit ?_
          refine blk_exit ?_
          refine then_normal ?_
          refine c_seq ?_
          refine c_draw [] [6, 7] mixed hh ?_
          clear hh w; intro w hh
          have hM : Mem [] w := Mem.nil
          refine d_take (i := 0) hl rfl (by kernel_rfl) (by kernel_rfl) (by kernel_rfl) (by kernel_rfl) (by kernel_rfl) rfl trivial (fun _ _ _ h => h) hM (fun w hC => r_field hl rfl fld48_2) rfl ?_
          clear hl a; intro a hl
          refine d_take (i := 2) hl rfl (by kernel_rfl) (by kernel_rfl) (by kernel_rfl) (by kernel_rfl) (by kernel_rfl) rfl trivial (fun _ _ _ h => h) hM (fun w hC => r_move hl rfl) rfl ?_
          clear hl a; intro a hl
          refine d_take (i := 3) hl rfl (by kernel_rfl) (by kernel_rfl) (by kernel_rfl) (by kernel_rfl) (by kernel_rfl) rfl trivial (fun _ _ _ h => h) hM (fun w hC => r_nilCheck hl rfl) rfl ?_
          clear hl a; intro a hl
          refine d_take (i := 4) hl rfl (by kernel_rfl) (by kernel_rfl) (by kernel_rfl) (by kernel_rfl) (by kernel_rfl) rfl trivial (fun _ _ _ h => h) hM (fun w hC => r_field hl rfl fld62_2) rfl ?_
          clear hl a; intro a hl
          refine d_two (i := 1) (j := 5) (by kernel_rfl) rfl rfl ?_ ?_
          ·
            try clear hM
            refine id (w_load hl hh rfl trivial one33 rfl (by repeat (first | exact find_head | apply find_tail | apply find_skip)) (by first | exact hcl | exact stc_ph' _ | exact stc_fid' _ | exact stc_vd' _ | exact stc_ep' _ | exact stc_vs' _ | exact stc_is' _ | rfl) ?_)
            clear hl a; intro a hl
            have hM : Mem [] w := Mem.nil
            refine d_step (fun _ => hM) ?_
            refine d_one (i := 5) (by kernel_rfl) rfl ?_
            try clear hM
            refine id (w_load hl hh rfl trivial one33 rfl (by repeat (first | exact find_head | apply find_tail | apply find_skip)) (by first | exact hcl | exact stc_ph' _ | exact stc_fid' _ | exact stc_vd' _ | exact stc_ep' _ | exact stc_vs' _ | exact stc_is' _ | rfl) ?_)
            clear hl a; intro a hl
            have hM : Mem [] w := Mem.nil
            refine d_step (fun _ => hM) ?_
            refine d_one (i := 6) (by kernel_rfl) rfl ?_
            try clear hM
            refine id (w_call hl hh rfl trivial rfl cal115 rfl (same_spec s1.is iv9 s1.ip ip9 s1.ic ic9 s1.iE E9 hs1.i h9R hs1.io h9o (by have := hs1.il; omega) (by omega)) (by repeat (first | exact keeps_nil | apply keeps_cons (by repeat (first | exact find_head | apply find_tail | apply find_skip)) (by first  | rfl) | exact keeps_self | exact keeps_left | apply keeps_app | apply keeps_mv | apply keeps_skip)) ⟨memK (E := s1.iE) hh (by repeat (first | exact keeps_nil | apply keeps_cons (by repeat (first | exact find_head | apply find_tail | apply find_skip)) (by first  | rfl) | exact keeps_self | exact keeps_left | apply keeps_app | apply keeps_mv | apply keeps_skip)), fun b o m => memK (E := V.B) hh (by repeat (first | exact keeps_nil | apply keeps_cons (by repeat (first | exact find_head | apply find_tail | apply find_skip)) (by first  | rfl) | exact keeps_self | exact keeps_left | apply keeps_app | apply keeps_mv | apply keeps_skip)) b o (h9Z _ m)⟩ ?_)
            clear hl hh a w; intro vc Fc a w hR hl hh
            obtain ⟨rfl, rfl⟩ := hR
            try simp only [List.cons_append, List.nil_append, List.append_assoc, List.append_nil] at hh
            refine d_step (fun h => absurd h (by decide)) ?_
            refine d_takeL (i := 7) hl rfl (by kernel_rfl) (by kernel_rfl) (by kernel_rfl) (by kernel_rfl) (by kernel_rfl) rfl trivial (fun _ _ _ h => h) (fun w => r_assign hl rfl) rfl ?_
            clear hl a; intro a hl
            refine d_done (by kernel_rfl) ?_
            try clear hM
            have hl2 := hl.add (t := 8) (hl.nil) rfl; clear hl; have hl := hl2; clear hl2
            refine then_normal ?_
            refine wp_ret ?_
            refine f_ret1 (F' := (lb, C [.pointer (some ⟨wb, 0, none⟩), .map (some V.tb), .slice ip9 iv9.length ic9, .slice V.mp V.mb.length V.mc, .bool (V.op && !ok)] 62) :: ((V.tb, MO (kInt .u32) V.tm) :: (V.B ++ (((wb, C W.c 84) :: (W.tE ++ (W.gE ++ (DsF W.ds ++ W.GF Z)))) ++ Es)))) hl hh rfl rfl (by repeat (first | exact keeps_nil | apply keeps_cons (by repeat (first | exact find_head | apply find_tail | apply find_skip)) (by first  | (rw [h9v, h9p, h9c]; done) | rfl) | exact keeps_self | exact keeps_left | apply keeps_app | apply keeps_mv | apply keeps_skip)) ?_
            refine ⟨?_, { V with iv := iv9, ip := ip9, ic := ic9, op := V.op && !ok }, ⟨⟨E9, h9R, h9Z⟩, hV.m, h9o, hV.mo, hV.tv, hV.tk⟩, ?_, rfl⟩
            · have h8 := hB1
              rw [htb] at h8
              rw [show sameP s1.is iv9 = true by rw [hisl, h9v]; exact h8]
            · rw [htb, h9v]; rfl
          ·
            try clear hM
            refine id (w_load hl hh rfl trivial one33 rfl (by repeat (first | exact find_head | apply find_tail | apply find_skip)) (by first | exact hcl | exact stc_ph' _ | exact stc_fid' _ | exact stc_vd' _ | exact stc_ep' _ | exact stc_vs' _ | exact stc_is' _ | rfl) ?_)
            clear hl a; intro a hl
            have hM : Mem [] w := Mem.nil
            refine d_step (fun _ => hM) ?_
            refine d_one (i := 1) (by kernel_rfl) rfl ?_
            try clear hM
            refine id (w_load hl hh rfl trivial one33 rfl (by repeat (first | exact find_head | apply find_tail | apply find_skip)) (by first | exact hcl | exact stc_ph' _ | exact stc_fid' _ | exact stc_vd' _ | exact stc_ep' _ | exact stc_vs' _ | exact stc_is' _ | rfl) ?_)
            clear hl a; intro a hl
            have hM : Mem [] w := Mem.nil
            refine d_step (fun _ => hM) ?_
            refine d_one (i := 6) (by kernel_rfl) rfl ?_
            try clear hM
            refine id (w_call hl hh rfl trivial rfl cal115 rfl (same_spec s1.is iv9 s1.ip ip9 s1.ic ic9 s1.iE E9 hs1.i h9R hs1.io h9o (by have := hs1.il; omega) (by omega)) (by repeat (first | exact keeps_nil | apply keeps_cons (by repeat (first | exact find_head | apply find_tail | apply find_skip)) (by first  | rfl) | exact keeps_self | exact keeps_left | apply keeps_app | apply keeps_mv | apply keeps_skip)) ⟨memK (E := s1.iE) hh (by repeat (first | exact keeps_nil | apply keeps_cons (by repeat (first | exact find_head | apply find_tail | apply find_skip)) (by first  | rfl) | exact keeps_self | exact keeps_left | apply keeps_app | apply keeps_mv | apply keeps_skip)), fun b o m => memK (E := V.B) hh (by repeat (first | exact keeps_nil | apply keeps_cons (by repeat (first | exact find_head | apply find_tail | apply find_skip)) (by first  | rfl) | exact keeps_self | exact keeps_left | apply keeps_app | apply keeps_mv | apply keeps_skip)) b o (h9Z _ m)⟩ ?_)
            clear hl hh a w; intro vc Fc a w hR hl hh
            obtain ⟨rfl, rfl⟩ := hR
            try simp only [List.cons_append, List.nil_append, List.append_assoc, List.append_nil] at hh
            refine d_step (fun h => absurd h (by decide)) ?_
            refine d_takeL (i := 7) hl rfl (by kernel_rfl) (by kernel_rfl) (by kernel_rfl) (by kernel_rfl) (by kernel_rfl) rfl trivial (fun _ _ _ h => h) (fun w => r_assign hl rfl) rfl ?_
            clear hl a; intro a hl
            refine d_done (by kernel_rfl) ?_
            try clear hM
            have hl2 := hl.add (t := 8) (hl.nil) rfl; clear hl; have hl := hl2; clear hl2
            refine then_normal ?_
            refine wp_ret ?_
            refine f_ret1 (F' := (lb, C [.pointer (some ⟨wb, 0, none⟩), .map (some V.tb), .slice ip9 iv9.length ic9, .slice V.mp V.mb.length V.mc, .bool (V.op && !ok)] 62) :: ((V.tb, MO (kInt .u32) V.tm) :: (V.B ++ (((wb, C W.c 84) :: (W.tE ++ (W.gE ++ (DsF W.ds ++ W.GF Z)))) ++ Es)))) hl hh rfl rfl (by repeat (first | exact keeps_nil | apply keeps_cons (by repeat (first | exact find_head | apply find_tail | apply find_skip)) (by first  | (rw [h9v, h9p, h9c]; done) | rfl) | exact keeps_self | exact keeps_left | apply keeps_app | apply keeps_mv | apply keeps_skip)) ?_
            refine ⟨?_, { V with iv := iv9, ip := ip9, ic := ic9, op := V.op && !ok }, ⟨⟨E9, h9R, h9Z⟩, hV.m, h9o, hV.mo, hV.tv, hV.tk⟩, ?_, rfl⟩
            · have h8 := hB1
              rw [htb] at h8
              rw [show sameP s1.is iv9 = true by rw [hisl, h9v]; exact h8]
            · rw [htb, h9v]; rfl
        ·
          intro j50 p50 hjn50 hn50; clear hl hh a w; intro a w hl hh
          have hyn := hy.next hjn50 hn50
          obtain ⟨z9, hz9, hz1, hz2⟩ := hV.tv _ _ (mget_at9 hV.tk hjn50)
          have htl : V.pl.tl p50.1 = some z9 := by show vdN (mget V.tm p50.1) = some z9; rw [mget_at9 hV.tk hjn50, hz9]; rfl
          have hlk : mget s1.vd p50.1 = some (.int .u8 z9) := by
            have h8 := hB2 _ _ htl
            rw [← hps1] at h8
            rcases vdx hs1 p50.1 with ⟨c8, h7, _, _, h6⟩ | ⟨h7, h6⟩
            · rw [h6] at h8; injection h8 with h8; rw [h7, h8]
            · rw [h6] at h8; cases h8
          refine wl (wl_val hl rfl trivial (r_extract hl rfl (by simp only [List.getElem?_toArray, List.getElem?_cons_zero, List.getElem?_cons_succ]; rfl)) ?_)
          clear hl a; intro a hl
          refine w_nil ?_
          have hl2 := hl.add (t := 0) (hl.add (t := 9) (hl.add (t := 49) (hl.add (t := 51) (hl.nil) rfl) rfl) rfl) rfl; clear hl; have hl := hl2; clear hl2
          refine then_normal ?_
          refine c_seq ?_
          refine c_condT hl rfl ?_
          refine wp_skip ?_
          refine then_normal ?_
          refine wp_block ?_
          refine c_seq ?_
          refine c_region ?_
          refine wl (w_entry hjn50 hl hh rfl trivial rfl (by repeat (first | exact find_head | apply find_tail | apply find_skip)) (by repeat (first | exact find_head | apply find_tail | apply find_skip)) ?_)
          clear hl a; intro a hl
          refine wl (wl_val hl rfl trivial (r_extract hl rfl (by simp only [List.getElem?_toArray, List.getElem?_cons_zero, List.getElem?_cons_succ]; rfl)) ?_)
          clear hl a; intro a hl
          refine wl (wl_val hl rfl trivial (r_extract hl rfl (by simp only [List.getElem?_toArray, List.getElem?_cons_zero, List.getElem?_cons_succ]; rfl)) ?_)
          clear hl a; intro a hl
          try rw [hz9] at hl
          refine wl (wl_val hl rfl trivial (r_assign hl rfl) ?_)
          clear hl a; intro a hl
          refine wl (wl_val hl rfl trivial (r_assign hl rfl) ?_)
          clear hl a; intro a hl
          refine w_nil ?_
          have hl2 := hl.add (t := 0) (hl.add (t := 9) (hl.add (t := 10) (hl.add (t := 11) (hl.add (t := 49) (hl.nil) rfl) rfl) rfl) rfl) rfl; clear hl; have hl := hl2; clear hl2
          refine then_normal ?_
          refine c_seq ?_
          refine c_region ?_
          refine wl (wl_val hl rfl trivial (r_field hl rfl fld48_4) ?_)
          clear hl a; intro a hl
          refine wl (w_load hl hh rfl trivial one46 rfl (by repeat (first | exact find_head | apply find_tail | apply find_skip)) (by first | exact hcl | exact stc_ph' _ | exact stc_fid' _ | exact stc_vd' _ | exact stc_ep' _ | exact stc_vs' _ | exact stc_is' _ | rfl) ?_)
          clear hl a; intro a hl
          refine wl (wl_val hl rfl trivial (r_move hl rfl) ?_)
          clear hl a; intro a hl
          refine wl (w_lookup (keyInt Try.underlying31) Try.underlying46 zero132 hl hh rfl trivial rfl rfl (by repeat (first | exact find_head | apply find_tail | apply find_skip)) ?_)
          clear hl a; intro a hl
          rw [hlk] at hl
          try simp only [Option.getD_some] at hl
          refine wl (wl_val hl rfl trivial (r_move hl rfl) ?_)
          clear hl a; intro a hl
          refine wl (wl_val hl rfl trivial (r_neq hl rfl rfl) ?_)
          clear hl a; intro a hl
          refine w_nil ?_
          have hl2 := hl.add (t := 0) (hl.add (t := 9) (hl.add (t := 49) (hl.add (t := 60) (hl.nil) rfl) rfl) rfl) rfl; clear hl; have hl := hl2; clear hl2
          refine then_normal ?_
          refine c_cond hl rfl ?_ ?_
          · intro hc3
            try simp only [decide_eq_true_eq, decide_eq_false_iff_not, Bool.not_eq_true', Bool.not_eq_false', Bool.not_eq_true, Bool.not_eq_false, Bool.and_eq_true, Bool.or_eq_true, Bool.and_eq_false_iff, Bool.or_eq_false_iff, Bool.not_not, ne_eq, Int.not_lt, Int.not_le, Decidable.not_not, beq_iff_eq, bne_iff_ne] at hc3
            exfalso; first | contradiction | omega
          · intro hc3
            try simp only [decide_eq_true_eq, decide_eq_false_iff_not, Bool.not_eq_true', Bool.not_eq_false', Bool.not_eq_true, Bool.not_eq_false, Bool.and_eq_true, Bool.or_eq_true, Bool.and_eq_false_iff, Bool.or_eq_false_iff, Bool.not_not, ne_eq, Int.not_lt, Int.not_le, Decidable.not_not, beq_iff_eq, bne_iff_ne] at hc3
            refine wp_skip ?_
            refine blk_normal ?_
            refine then_normal ?_
            refine ⟨⟨y.seen ++ [j50]⟩, (by have := nodup_len9 hyn.1 hyn.2; simp only [List.length_append, List.length_cons, List.length_nil] at this ⊢; omega), hyn, hl.addE (t := 0) (hl.addE (t := 9) (hl.addE (t := 49) (hl.nil) rfl (by first | rfl | (congr 1; omega))) rfl (by first | rfl | (congr 1; omega))) rfl (by first | rfl | (congr 1; omega)), hh.keep (by repeat (first | exact keeps_nil | apply keeps_cons (by repeat (first | exact find_head | apply find_tail | apply find_skip)) (by first  | rfl) | exact keeps_self | exact keeps_left | apply keeps_app | apply keeps_mv | apply keeps_skip))⟩
      · intro hc1
        try simp only [decide_eq_true_eq, decide_eq_false_iff_not, Bool.not_eq_true', Bool.not_eq_false', Bool.not_eq_true, Bool.not_eq_false, Bool.and_eq_true, Bool.or_eq_true, Bool.and_eq_false_iff, Bool.or_eq_false_iff, Bool.not_not, ne_eq, Int.not_lt, Int.not_le, Decidable.not_not, beq_iff_eq, bne_iff_ne] at hc1
        have hop9 : (V.op && !ok) = V.op := by rw [hc1]; simp
        rw [show Value.bool V.op = .bool (V.op && !ok) by rw [hop9]] at hh
        refine wp_skip ?_
        refine then_normal ?_
        refine c_seq ?_
        refine c_seq ?_
        refine c_region ?_
        refine wl (wl_val hl rfl trivial (r_move hl rfl) ?_)
        clear hl a; intro a hl
        refine wl (wl_val hl rfl trivial (r_nilCheck hl rfl) ?_)
        clear hl a; intro a hl
        refine wl (wl_val hl rfl trivial (r_field hl rfl fld62_1) ?_)
        clear hl a; intro a hl
        refine wl (w_load hl hh rfl trivial one46 rfl (by repeat (first | exact find_head | apply find_tail | apply find_skip)) (by first | exact hcl | exact stc_ph' _ | exact stc_fid' _ | exact stc_vd' _ | exact stc_ep' _ | exact stc_vs' _ | exact stc_is' _ | rfl) ?_)
        clear hl a; intro a hl
        refine wl (w_range Try.underlying46 hl hh rfl trivial rfl (by repeat (first | exact find_head | apply find_tail | apply find_skip)) ?_)
        clear hl hh a w; intro k49 a w hl hh
        refine w_nil ?_
        have hl2 := hl.add (t := 0) (hl.add (t := 9) (hl.add (t := 49) (hl.nil) rfl) rfl) rfl; clear hl; have hl := hl2; clear hl2
        refine then_normal ?_
        refine wp_block ?_
        obtain ⟨KS0, hKS0, hk⟩ := (hl.add (t := 0) (hl.add (t := 9) (hl.add (t := 49) (hl.nil) rfl) rfl) rfl).name
        obtain ⟨HS0, hHS0, hh2⟩ := hh.name (keeps_cons (b := k49) (o' := IT V.tb V.tm.length []) (by repeat (first | exact find_head | apply find_tail | apply find_skip)) (by first | rfl) (keeps_nil))
        refine c_loop (α := RgS) (fun y => V.tm.length - y.seen.length) (fun y a w => (RgI V.tm y) ∧ Sl 68 ([] ++ KS0) a ∧ Has _ w0 ([(k49, IT V.tb V.tm.length y.seen)] ++ HS0) w) ⟨[]⟩ ⟨RgI.start _, hk, hh2⟩ ?_
        clear hk hh2 hl hh a w
        intro y a w hI
        obtain ⟨hy, hl, hh⟩ := hI
        subst hKS0; subst hHS0
        simp only [List.cons_append, List.nil_append, List.append_nil, List.append_assoc] at hl hh
        have hyl := nodup_len9 hy.1 hy.2
        refine c_seq ?_
        refine c_region ?_
        refine wl (w_next hl hh rfl trivial rfl (by repeat (first | exact find_head | apply find_tail | apply find_skip)) (by repeat (first | exact find_head | apply find_tail | apply find_skip)) ?_ ?_)
        ·
          intro hall; clear hl a; intro a hl
          refine wl (wl_val hl rfl trivial (r_extract hl rfl (by simp only [List.getElem?_toArray, List.getElem?_cons_zero, List.getElem?_cons_succ]; rfl)) ?_)
          clear hl a; intro a hl
          refine w_nil ?_
          have hl2 := hl.add (t := 0) (hl.add (t := 9) (hl.add (t := 49) (hl.add (t := 51) (hl.nil) rfl) rfl) rfl) rfl; clear hl; have hl := hl2; clear hl2
          refine then_normal ?_
          refine c_seq ?_
          refine c_condF hl rfl ?_
          refine wp_exit ?_
          refine then_exit ?_
          refine then_exit ?_
          refine blk_exit ?_
          refine then_normal ?_
          refine c_seq ?_
          refine c_draw [] [6, 7] mixed hh ?_
          clear hh w; intro w hh
          have hM : Mem [] w := Mem.nil
          refine d_take (i := 0) hl rfl (by kernel_rfl) (by kernel_rfl) (by kernel_rfl) (by kernel_rfl) (by kernel_rfl) rfl trivial (fun _ _ _ h => h) hM (fun w hC => r_field hl rfl fld48_2) rfl ?_
          clear hl a; intro a hl
          refine d_take (i := 2) hl rfl (by kernel_rfl) (by kernel_rfl) (by kernel_rfl) (by kernel_rfl) (by kernel_rfl) rfl trivial (fun _ _ _ h => h) hM (fun w hC => r_move hl rfl) rfl ?_
          clear hl a; intro a hl
          refine d_take (i := 3) hl rfl (by kernel_rfl) (by kernel_rfl) (by kernel_rfl) (by kernel_rfl) (by kernel_rfl) rfl trivial (fun _ _ _ h => h) hM (fun w hC => r_nilCheck hl rfl) rfl ?_
          clear hl a; intro a hl
          refine d_take (i := 4) hl rfl (by kernel_rfl) (by kernel_rfl) (by kernel_rfl) (by kernel_rfl) (by kernel_rfl) rfl trivial (fun _ _ _ h => h) hM (fun w hC => r_field hl rfl fld62_2) rfl ?_
          clear hl a; intro a hl
          refine d_two (i := 1) (j := 5) (by kernel_rfl) rfl rfl ?_ ?_
          ·
            try clear hM
            refine id (w_load hl hh rfl trivial one33 rfl (by repeat (first | exact find_head | apply find_tail | apply find_skip)) (by first | exact hcl | exact stc_ph' _ | exact stc_fid' _ | exact stc_vd' _ | exact stc_ep' _ | exact stc_vs' _ | exact stc_is' _ | rfl) ?_)
            clear hl a; intro a hl
            have hM : Mem [] w := Mem.nil
            refine d_step (fun _ => hM) ?_
            refine d_one (i := 5) (by kernel_rfl) rfl ?_
            try clear hM
            refine id (w_load hl hh rfl trivial one33 rfl (by repeat (first | exact find_head | apply find_tail | apply find_skip)) (by first | exact hcl | exact stc_ph' _ | exact stc_fid' _ | exact stc_vd' _ | exact stc_ep' _ | exact stc_vs' _ | exact stc_is' _ | rfl) ?_)
            clear hl a; intro a hl
            have hM : Mem [] w := Mem.nil
            refine d_step (fun _ => hM) ?_
            refine d_one (i := 6) (by kernel_rfl) rfl ?_
            try clear hM
            refine id (w_call hl hh rfl trivial rfl cal115 rfl (same_spec s1.is iv9 s1.ip ip9 s1.ic ic9 s1.iE E9 hs1.i h9R hs1.io h9o (by have := hs1.il; omega) (by omega)) (by repeat (first | exact keeps_nil | apply keeps_cons (by repeat (first | exact find_head | apply find_tail | apply find_skip)) (by first  | rfl) | exact keeps_self | exact keeps_left | apply keeps_app | apply keeps_mv | apply keeps_skip)) ⟨memK (E := s1.iE) hh (by repeat (first | exact keeps_nil | apply keeps_cons (by repeat (first | exact find_head | apply find_tail | apply find_skip)) (by first  | rfl) | exact keeps_self | exact keeps_left | apply keeps_app | apply keeps_mv | apply keeps_skip)), fun b o m => memK (E := V.B) hh (by repeat (first | exact keeps_nil | apply keeps_cons (by repeat (first | exact find_head | apply find_tail | apply find_skip)) (by first  | rfl) | exact keeps_self | exact keeps_left | apply keeps_app | apply keeps_mv | apply keeps_skip)) b o (h9Z _ m)⟩ ?_)
            clear hl hh a w; intro vc Fc a w hR hl hh
            obtain ⟨rfl, rfl⟩ := hR
            try simp only [List.cons_append, List.nil_append, List.append_assoc, List.append_nil] at hh
            refine d_step (fun h => absurd h (by decide)) ?_
            refine d_takeL (i := 7) hl rfl (by kernel_rfl) (by kernel_rfl) (by kernel_rfl) (by kernel_rfl) (by kernel_rfl) rfl trivial (fun _ _ _ h => h) (fun w => r_assign hl rfl) rfl ?_
            clear hl a; intro a hl
            refine d_done (by kernel_rfl) ?_
            try clear hM
            have hl2 := hl.add (t := 8) (hl.nil) rfl; clear hl; have hl := hl2; clear hl2
            refine then_normal ?_
            refine wp_ret ?_
            refine f_ret1 (F' := (lb, C [.pointer (some ⟨wb, 0, none⟩), .map (some V.tb), .slice ip9 iv9.length ic9, .slice V.mp V.mb.length V.mc, .bool (V.op && !ok)] 62) :: ((V.tb, MO (kInt .u32) V.tm) :: (V.B ++ (((wb, C W.c 84) :: (W.tE ++ (W.gE ++ (DsF W.ds ++ W.GF Z)))) ++ Es)))) hl hh rfl rfl (by repeat (first | exact keeps_nil | apply keeps_cons (by repeat (first | exact find_head | apply find_tail | apply find_skip)) (by first  | (rw [h9v, h9p, h9c]; done) | rfl) | exact keeps_self | exact keeps_left | apply keeps_app | apply keeps_mv | apply keeps_skip)) ?_
            refine ⟨?_, { V with iv := iv9, ip := ip9, ic := ic9, op := V.op && !ok }, ⟨⟨E9, h9R, h9Z⟩, hV.m, h9o, hV.mo, hV.tv, hV.tk⟩, ?_, rfl⟩
            · have h8 := hB1
              rw [htb] at h8
              rw [show sameP s1.is iv9 = true by rw [hisl, h9v]; exact h8]
            · rw [htb, h9v]; rfl
          ·
            try clear hM
            refine id (w_load hl hh rfl trivial one33 rfl (by repeat (first | exact find_head | apply find_tail | apply find_skip)) (by first | exact hcl | exact stc_ph' _ | exact stc_fid' _ | exact stc_vd' _ | exact stc_ep' _ | exact stc_vs' _ | exact stc_is' _ | rfl) ?_)
            clear hl a; intro a hl
            have hM : Mem [] w := Mem.nil
            refine d_step (fun _ => hM) ?_
            refine d_one (i := 1) (by kernel_rfl) rfl ?_
            try clear hM
            refine id (w_load hl hh rfl trivial one33 rfl (by repeat (first | exact find_head | apply find_tail | apply find_skip)) (by first | exact hcl | exact stc_ph' _ | exact stc_fid' _ | exact stc_vd' _ | exact stc_ep' _ | exact stc_vs' _ | exact stc_is' _ | rfl) ?_)
            clear hl a; intro a hl
            have hM : Mem [] w := Mem.nil
            refine d_step (fun _ => hM) ?_
            refine d_one (i := 6) (by kernel_rfl) rfl ?_
            try clear hM
            refine id (w_call hl hh rfl trivial rfl cal115 rfl (same_spec s1.is iv9 s1.ip ip9 s1.ic ic9 s1.iE E9 hs1.i h9R hs1.io h9o (by have := hs1.il; omega) (by omega)) (by repeat (first | exact keeps_nil | apply keeps_cons (by repeat (first | exact find_head | apply find_tail | apply find_skip)) (by first  | rfl) | exact keeps_self | exact keeps_left | apply keeps_app | apply keeps_mv | apply keeps_skip)) ⟨memK (E := s1.iE) hh (by repeat (first | exact keeps_nil | apply keeps_cons (by repeat (first | exact find_head | apply find_tail | apply find_skip)) (by first  | rfl) | exact keeps_self | exact keeps_left | apply keeps_app | apply keeps_mv | apply keeps_skip)), fun b o m => memK (E := V.B) hh (by repeat (first | exact keeps_nil | apply keeps_cons (by repeat (first | exact find_head | apply find_tail | apply find_skip)) (by first  | rfl) | exact keeps_self | exact keeps_left | apply keeps_app | apply keeps_mv | apply keeps_skip)) b o (h9Z _ m)⟩ ?_)
            clear hl hh a w; intro vc Fc a w hR hl hh
            obtain ⟨rfl, rfl⟩ := hR
            try simp only [List.cons_append, List.nil_append, List.append_assoc, List.append_nil] at hh
            refine d_step (fun h => absurd h (by decide)) ?_
            refine d_takeL (i := 7) hl rfl (by kernel_rfl) (by kernel_rfl) (by kernel_rfl) (by kernel_rfl) (by kernel_rfl) rfl trivial (fun _ _ _ h => h) (fun w => r_assign hl rfl) rfl ?_
            clear hl a; intro a hl
            refine d_done (by kernel_rfl) ?_
            try clear hM
            have hl2 := hl.add (t := 8) (hl.nil) rfl; clear hl; have hl := hl2; clear hl2
            refine then_normal ?_
            refine wp_ret ?_
            refine f_ret1 (F' := (lb, C [.pointer (some ⟨wb, 0, none⟩), .map (some V.tb), .slice ip9 iv9.length ic9, .slice V.mp V.mb.length V.mc, .bool (V.op && !ok)] 62) :: ((V.tb, MO (kInt .u32) V.tm) :: (V.B ++ (((wb, C W.c 84) :: (W.tE ++ (W.gE ++ (DsF W.ds ++ W.GF Z)))) ++ Es)))) hl hh rfl rfl (by repeat (first | exact keeps_nil | apply keeps_cons (by repeat (first | exact find_head | apply find_tail | apply find_skip)) (by first  | (rw [h9v, h9p, h9c]; done) | rfl) | exact keeps_self | exact keeps_left | apply keeps_app | apply keeps_mv | apply keeps_skip)) ?_
            refine ⟨?_, { V with iv := iv9, ip := ip9, ic := ic9, op := V.op && !ok }, ⟨⟨E9, h9R, h9Z⟩, hV.m, h9o, hV.mo, hV.tv, hV.tk⟩, ?_, rfl⟩
            · have h8 := hB1
              rw [htb] at h8
              rw [show sameP s1.is iv9 = true by rw [hisl, h9v]; exact h8]
            · rw [htb, h9v]; rfl
        ·
          intro j50 p50 hjn50 hn50; clear hl hh a w; intro a w hl hh
          have hyn := hy.next hjn50 hn50
          obtain ⟨z9, hz9, hz1, hz2⟩ := hV.tv _ _ (mget_at9 hV.tk hjn50)
          have htl : V.pl.tl p50.1 = some z9 := by show vdN (mget V.tm p50.1) = some z9; rw [mget_at9 hV.tk hjn50, hz9]; rfl
          have hlk : mget s1.vd p50.1 = some (.int .u8 z9) := by
            have h8 := hB2 _ _ htl
            rw [← hps1] at h8
            rcases vdx hs1 p50.1 with ⟨c8, h7, _, _, h6⟩ | ⟨h7, h6⟩
            · rw [h6] at h8; injection h8 with h8; rw [h7, h8]
            · rw [h6] at h8; cases h8
          refine wl (wl_val hl rfl trivial (r_extract hl rfl (by simp only [List.getElem?_toArray, List.getElem?_cons_zero, List.getElem?_cons_succ]; rfl)) ?_)
          clear hl a; intro a hl
          refine w_nil ?_
          have hl2 := hl.add (t := 0) (hl.add (t := 9) (hl.add (t := 49) (hl.add (t := 51) (hl.nil) rfl) rfl) rfl) rfl; clear hl; have hl := hl2; clear hl2
          refine then_normal ?_
          refine c_seq ?_
          refine c_condT hl rfl ?_
          refine wp_skip ?_
          refine then_normal ?_
          refine wp_block ?_
          refine c_seq ?_
          refine c_region ?_
          refine wl (w_entry hjn50 hl hh rfl trivial rfl (by repeat (first | exact find_head | apply find_tail | apply find_skip)) (by repeat (first | exact find_head | apply find_tail | apply find_skip)) ?_)
          clear hl a; intro a hl
          refine wl (wl_val hl rfl trivial (r_extract hl rfl (by simp only [List.getElem?_toArray, List.getElem?_cons_zero, List.getElem?_cons_succ]; rfl)) ?_)
          clear hl a; intro a hl
          refine wl (wl_val hl rfl trivial (r_extract hl rfl (by simp only [List.getElem?_toArray, List.getElem?_cons_zero, List.getElem?_cons_succ]; rfl)) ?_)
          clear hl a; intro a hl
          try rw [hz9] at hl
          refine wl (wl_val hl rfl trivial (r_assign hl rfl) ?_)
          clear hl a; intro a hl
          refine wl (wl_val hl rfl trivial (r_assign hl rfl) ?_)
          clear hl a; intro a hl
          refine w_nil ?_
          have hl2 := hl.add (t := 0) (hl.add (t := 9) (hl.add (t := 10) (hl.add (t := 11) (hl.add (t := 49) (hl.nil) rfl) rfl) rfl) rfl) rfl; clear hl; have hl := hl2; clear hl2
          refine then_normal ?_
          refine c_seq ?_
          refine c_region ?_
          refine wl (wl_val hl rfl trivial (r_field hl rfl fld48_4) ?_)
          clear hl a; intro a hl
          refine wl (w_load hl hh rfl trivial one46 rfl (by repeat (first | exact find_head | apply find_tail | apply find_skip)) (by first | exact hcl | exact stc_ph' _ | exact stc_fid' _ | exact stc_vd' _ | exact stc_ep' _ | exact stc_vs' _ | exact stc_is' _ | rfl) ?_)
          clear hl a; intro a hl
          refine wl (wl_val hl rfl trivial (r_move hl rfl) ?_)
          clear hl a; intro a hl
          refine wl (w_lookup (keyInt Try.underlying31) Try.underlying46 zero132 hl hh rfl trivial rfl rfl (by repeat (first | exact find_head | apply find_tail | apply find_skip)) ?_)
          clear hl a; intro a hl
          rw [hlk] at hl
          try simp only [Option.getD_some] at hl
          refine wl (wl_val hl rfl trivial (r_move hl rfl) ?_)
          clear hl a; intro a hl
          refine wl (wl_val hl rfl trivial (r_neq hl rfl rfl) ?_)
          clear hl a; intro a hl
          refine w_nil ?_
          have hl2 := hl.add (t := 0) (hl.add (t := 9) (hl.add (t := 49) (hl.add (t := 60) (hl.nil) rfl) rfl) rfl) rfl; clear hl; have hl := hl2; clear hl2
          refine then_normal ?_
          refine c_cond hl rfl ?_ ?_
          · intro hc3
            try simp only [decide_eq_true_eq, decide_eq_false_iff_not, Bool.not_eq_true', Bool.not_eq_false', Bool.not_eq_true, Bool.not_eq_false, Bool.and_eq_true, Bool.or_eq_true, Bool.and_eq_false_iff, Bool.or_eq_false_iff, Bool.not_not, ne_eq, Int.not_lt, Int.not_le, Decidable.not_not, beq_iff_eq, bne_iff_ne] at hc3
            exfalso; first | contradiction | omega
          · intro hc3
            try simp only [decide_eq_true_eq, decide_eq_false_iff_not, Bool.not_eq_true', Bool.not_eq_false', Bool.not_eq_true, Bool.not_eq_false, Bool.and_eq_true, Bool.or_eq_true, Bool.and_eq_false_iff, Bool.or_eq_false_iff, Bool.not_not, ne_eq, Int.not_lt, Int.not_le, Decidable.not_not, beq_iff_eq, bne_iff_ne] at hc3
            refine wp_skip ?_
            refine blk_normal ?_
            refine then_normal ?_
            refine ⟨⟨y.seen ++ [j50]⟩, (by have := nodup_len9 hyn.1 hyn.2; simp only [List.length_append, List.length_cons, List.length_nil] at this ⊢; omega), hyn, hl.addE (t := 0) (hl.addE (t := 9) (hl.addE (t := 49) (hl.nil) rfl (by first | rfl | (congr 1; omega))) rfl (by first | rfl | (congr 1; omega))) rfl (by first | rfl | (congr 1; omega)), hh.keep (by repeat (first | exact keeps_nil | apply keeps_cons (by repeat (first | exact find_head | apply find_tail | apply find_skip)) (by first  | rfl) | exact keeps_self | exact keeps_left | apply keeps_app | apply keeps_mv | apply keeps_skip))⟩
  · intro hg1; clear hl; intro hl
    try simp only [decide_eq_true_eq, decide_eq_false_iff_not, Bool.not_eq_true', Bool.not_eq_false', Bool.not_eq_true, Bool.not_eq_false, Bool.and_eq_true, Bool.or_eq_true, Bool.and_eq_false_iff, Bool.or_eq_false_iff, Bool.not_not, ne_eq, Int.not_lt, Int.not_le, Decidable.not_not, beq_iff_eq, bne_iff_ne] at hg1
    refine d_skip (i := 5) hl rfl (by kernel_rfl) (by kernel_rfl) (by kernel_rfl) (by kernel_rfl) (by kernel_rfl) rfl ⟨_, _, rfl, rfl, rfl⟩ (fun _ _ _ h => h) hM ?_
    clear hl a; intro a hl
    refine d_skip (i := 6) hl rfl (by kernel_rfl) (by kernel_rfl) (by kernel_rfl) (by kernel_rfl) (by kernel_rfl) rfl ⟨_, _, rfl, rfl, rfl⟩ (fun _ _ _ h => h) hM ?_
    clear hl a; intro a hl
    refine d_skip (i := 7) hl rfl (by kernel_rfl) (by kernel_rfl) (by kernel_rfl) (by kernel_rfl) (by kernel_rfl) rfl ⟨_, _, rfl, rfl, rfl⟩ (fun _ _ _ h => h) hM ?_
    clear hl a; intro a hl
    refine d_skip (i := 8) hl rfl (by kernel_rfl) (by kernel_rfl) (by kernel_rfl) (by kernel_rfl) (by kernel_rfl) rfl ⟨_, _, rfl, rfl, rfl⟩ (fun _ _ _ h => h) hM ?_
    clear hl a; intro a hl
    refine d_skip (i := 9) hl rfl (by kernel_rfl) (by kernel_rfl) (by kernel_rfl) (by kernel_rfl) (by kernel_rfl) rfl ⟨_, _, rfl, rfl, rfl⟩ (fun _ _ _ h => h) hM ?_
    clear hl a; intro a hl
    refine d_skip (i := 10) hl rfl (by kernel_rfl) (by kernel_rfl) (by kernel_rfl) (by kernel_rfl) (by kernel_rfl) rfl ⟨_, _, rfl, rfl, rfl⟩ (fun _ _ _ h => h) hM ?_
    clear hl a; intro a hl
    refine d_skip (i := 11) hl rfl (by kernel_rfl) (by kernel_rfl) (by kernel_rfl) (by kernel_rfl) (by kernel_rfl) rfl ⟨_, _, rfl, rfl, rfl⟩ (fun _ _ _ h => h) hM ?_
    clear hl a; intro a hl
    refine d_takeL (i := 12) hl rfl (by kernel_rfl) (by kernel_rfl) (by kernel_rfl) (by kernel_rfl) (by kernel_rfl) rfl trivial (fun _ _ _ h => h) (fun w => r_pickF hl rfl rfl) rfl ?_
    clear hl a; intro a hl
    refine d_done (by kernel_rfl) ?_
    try clear hM
    have hl2 := hl.add (t := 0) (hl.add (t := 2) (hl.add (t := 9) (hl.add (t := 33) (hl.nil) rfl) rfl) rfl) rfl; clear hl; have hl := hl2; clear hl2
    refine then_normal ?_
    refine c_condF hl rfl ?_
    have htb : toB V.pl W.l.pl.d ok = { V.pl with op := V.op && !ok } := by unfold toB; rw [if_neg (fun h9 => by have h8 : V.op = true := h9.1; have h7 : sameP W.l.pl.d.is V.mb = true := h9.2; rw [← hisl] at h7; first | exact Bool.noConfusion (h8.symm.trans (show V.op = false by assumption)) | exact Bool.noConfusion (h7.symm.trans (show sameP s1.is V.mb = false by assumption)))]; rfl
    obtain ⟨iv9, ip9, ic9, E9, h9v, h9p, h9c, h9R, h9Z, h9o, h9l⟩ : ∃ iv9 ip9 ic9 E9, iv9 = V.iv ∧ ip9 = V.ip ∧ ic9 = V.ic ∧ ROWI ip9 iv9 ic9 E9 ∧ InZ E9 V.B ∧ (∀ x, x ∈ iv9 → x.ok) ∧ iv9.length ≤ 17 := ⟨_, _, _, _, rfl, rfl, rfl, hiR, hiZ, hV.io, by omega⟩
    rw [show Value.slice V.ip V.iv.length V.ic = .slice ip9 iv9.length ic9 by rw [h9v, h9p, h9c]] at hh
    refine wp_skip ?_
    refine then_normal ?_
    refine c_seq ?_
    refine c_seq ?_
    refine c_region ?_
    refine wl (wl_val hl rfl trivial (r_move hl rfl) ?_)
    clear hl a; intro a hl
    refine w_nil ?_
    have hl2 := hl.add (t := 0) (hl.add (t := 9) (hl.add (t := 41) (hl.nil) rfl) rfl) rfl; clear hl; have hl := hl2; clear hl2
    refine then_normal ?_
    refine c_cond hl rfl ?_ ?_
    · intro hc1
      try simp only [decide_eq_true_eq, decide_eq_false_iff_not, Bool.not_eq_true', Bool.not_eq_false', Bool.not_eq_true, Bool.not_eq_false, Bool.and_eq_true, Bool.or_eq_true, Bool.and_eq_false_iff, Bool.or_eq_false_iff, Bool.not_not, ne_eq, Int.not_lt, Int.not_le, Decidable.not_not, beq_iff_eq, bne_iff_ne] at hc1
      have hop9 : (V.op && !ok) = false := by rw [hc1]; simp
      refine c_region ?_
      refine wl (wl_val hl rfl trivial (r_move hl rfl) ?_)
      clear hl a; intro a hl
      refine wl (wl_val hl rfl trivial (r_nilCheck hl rfl) ?_)
      clear hl a; intro a hl
      refine wl (wl_val hl rfl trivial (r_field hl rfl fld62_4) ?_)
      clear hl a; intro a hl
      refine wl (w_store hl hh trivial one4 rfl rfl (by repeat (first | exact find_head | apply find_tail | apply find_skip)) (by first | (simp; done) | (simp; omega) | (rw [stc_len]; omega) | (rw [stc_len]; simp; done)) (by first | rfl | assumption | (apply Row.one; assumption)) (by first | (simp only [setL, List.getElem?_cons_zero, List.getElem?_cons_succ, Value.cells, List.take_zero, List.take_succ_cons, List.take_nil, List.drop_zero, List.drop_succ_cons, List.drop_nil, List.length_cons, List.length_nil, List.cons_append, List.nil_append, List.append_nil, Nat.zero_add, Nat.add_zero, Nat.reduceAdd, Nat.reduceBEq, Nat.reduceEqDiff, Nat.ble, BEq.rfl, Bool.and_true, Bool.and_self, cond_true, beq_self_eq_true]; rfl)) ?_)
      clear hh w; intro w hh
      refine w_nil ?_
      have hl2 := hl.add (t := 0) (hl.add (t := 9) (hl.nil) rfl) rfl; clear hl; have hl := hl2; clear hl2
      rw [show Value.bool false = .bool (V.op && !ok) by rw [hop9]] at hh
      refine then_normal ?_
      refine c_seq ?_
      refine c_seq ?_
      refine c_region ?_
      refine wl (wl_val hl rfl trivial (r_move hl rfl) ?_)
      clear hl a; intro a hl
      refine wl (wl_val hl rfl trivial (r_nilCheck hl rfl) ?_)
      clear hl a; intro a hl
      refine wl (wl_val hl rfl trivial (r_field hl rfl fld62_1) ?_)
      clear hl a; intro a hl
      refine wl (w_load hl hh rfl trivial one46 rfl (by repeat (first | exact find_head | apply find_tail | apply find_skip)) (by first | exact hcl | exact stc_ph' _ | exact stc_fid' _ | exact stc_vd' _ | exact stc_ep' _ | exact stc_vs' _ | exact stc_is' _ | rfl) ?_)
      clear hl a; intro a hl
      refine wl (w_range Try.underlying46 hl hh rfl trivial rfl (by repeat (first | exact find_head | apply find_tail | apply find_skip)) ?_)
      clear hl hh a w; intro k49 a w hl hh
      refine w_nil ?_
      have hl2 := hl.add (t := 0) (hl.add (t := 9) (hl.add (t := 49) (hl.nil) rfl) rfl) rfl; clear hl; have hl := hl2; clear hl2
      refine then_normal ?_
      refine wp_block ?_
      obtain ⟨KS0, hKS0, hk⟩ := (hl.add (t := 0) (hl.add (t := 9) (hl.add (t := 49) (hl.nil) rfl) rfl) rfl).name
      obtain ⟨HS0, hHS0, hh2⟩ := hh.name (keeps_cons (b := k49) (o' := IT V.tb V.tm.length []) (by repeat (first | exact find_head | apply find_tail | apply find_skip)) (by first | rfl) (keeps_nil))
      refine c_loop (α := RgS) (fun y => V.tm.length - y.seen.length) (fun y a w => (RgI V.tm y) ∧ Sl 68 ([] ++ KS0) a ∧ Has _ w0 ([(k49, IT V.tb V.tm.length y.seen)] ++ HS0) w) ⟨[]⟩ ⟨RgI.start _, hk, hh2⟩ ?_
      clear hk hh2 hl hh a w
      intro y a w hI
      obtain ⟨hy, hl, hh⟩ := hI
      subst hKS0; subst hHS0
      simp only [List.cons_append, List.nil_append, List.append_nil, List.append_assoc] at hl hh
      have hyl := nodup_len9 hy.1 hy.2
      refine c_seq ?_
      refine c_region ?_
      refine wl (w_next hl hh rfl trivial rfl (by repeat (first | exact find_head | apply find_tail | apply find_skip)) (by repeat (first | exact find_head | apply find_tail | apply find_skip)) ?_ ?_)
      ·
        intro hall; clear hl a; intro a hl
        refine wl (wl_val hl rfl trivial (r_extract hl rfl (by simp only [List.getElem?_toArray, List.getElem?_cons_zero, List.getElem?_cons_succ]; rfl)) ?_)
        clear hl a; intro a hl
        refine w_nil ?_
        have hl2 := hl.add (t := 0) (hl.add (t := 9) (hl.add (t := 49) (hl.add (t := 51) (hl.nil) rfl) rfl) rfl) rfl; clear hl; have hl := hl2; clear hl2
        refine then_normal ?_
        refine c_seq ?_
        refine c_condF hl rfl ?_
        refine wp_exit ?_
        refine then_exit ?_
        refine then_exit ?_
        refine blk_exit ?_
        refine then_normal ?_
        refine c_seq ?_
        refine c_draw [] [6, 7] mixed hh ?_
        clear hh w; intro w hh
        have hM : Mem [] w := Mem.nil
        refine d_take (i := 0) hl rfl (by kernel_rfl) (by kernel_rfl) (by kernel_rfl) (by kernel_rfl) (by kernel_rfl) rfl trivial (fun _ _ _ h => h) hM (fun w hC => r_field hl rfl fld48_2) rfl ?_
        clear hl a; intro a hl
        refine d_take (i := 2) hl rfl (by kernel_rfl) (by kernel_rfl) (by kernel_rfl) (by kernel_rfl) (by kernel_rfl) rfl trivial (fun _ _ _ h => h) hM (fun w hC => r_move hl rfl) rfl ?_
        clear hl a; intro a hl
        refine d_take (i := 3) hl rfl (by kernel_rfl) (by kernel_rfl) (by kernel_rfl) (by kernel_rfl) (by kernel_rfl) rfl trivial (fun _ _ _ h => h) hM (fun w hC => r_nilCheck hl rfl) rfl ?_
        clear hl a; intro a hl
        refine d_take (i := 4) hl rfl (by kernel_rfl) (by kernel_rfl) (by kernel_rfl) (by kernel_rfl) (by kernel_rfl) rfl trivial (fun _ _ _ h => h) hM (fun w hC => r_field hl rfl fld62_2) rfl ?_
        clear hl a; intro a hl
        refine d_two (i := 1) (j := 5) (by kernel_rfl) rfl rfl ?_ ?_
        ·
          try clear hM
          refine id (w_load hl hh rfl trivial one33 rfl (by repeat (first | exact find_head | apply find_tail | apply find_skip)) (by first | exact hcl | exact stc_ph' _ | exact stc_fid' _ | exact stc_vd' _ | exact stc_ep' _ | exact stc_vs' _ | exact stc_is' _ | rfl) ?_)
          clear hl a; intro a hl
          have hM : Mem [] w := Mem.nil
          refine d_step (fun _ => hM) ?_
          refine d_one (i := 5) (by kernel_rfl) rfl ?_
          try clear hM
          refine id (w_load hl hh rfl trivial one33 rfl (by repeat (first | exact find_head | apply find_tail | apply find_skip)) (by first | exact hcl | exact stc_ph' _ | exact stc_fid' _ | exact stc_vd' _ | exact stc_ep' _ | exact stc_vs' _ | exact stc_is' _ | rfl) ?_)
          clear hl a; intro a hl
          have hM : Mem [] w := Mem.nil
          refine d_step (fun _ => hM) ?_
          refine d_one (i := 6) (by kernel_rfl) rfl ?_
          try clear hM
          refine id (w_call hl hh rfl trivial rfl cal115 rfl (same_spec s1.is iv9 s1.ip ip9 s1.ic ic9 s1.iE E9 hs1.i h9R hs1.io h9o (by have := hs1.il; omega) (by omega)) (by repeat (first | exact keeps_nil | apply keeps_cons (by repeat (first | exact find_head | apply find_tail | apply find_skip)) (by first  | rfl) | exact keeps_self | exact keeps_left | apply keeps_app | apply keeps_mv | apply keeps_skip)) ⟨memK (E := s1.iE) hh (by repeat (first | exact keeps_nil | apply keeps_cons (by repeat (first | exact find_head | apply find_tail | apply find_skip)) (by first  | rfl) | exact keeps_self | exact keeps_left | apply keeps_app | apply keeps_mv | apply keeps_skip)), fun b o m => memK (E := V.B) hh (by repeat (first | exact keeps_nil | apply keeps_cons (by repeat (first | exact find_head | apply find_tail | apply find_skip)) (by first  | rfl) | exact keeps_self | exact keeps_left | apply keeps_app | apply keeps_mv | apply keeps_skip)) b o (h9Z _ m)⟩ ?_)
          clear hl hh a w; intro vc Fc a w hR hl hh
          obtain ⟨rfl, rfl⟩ := hR
          try simp only [List.cons_append, List.nil_append, List.append_assoc, List.append_nil] at hh
          refine d_step (fun h => absurd h (by decide)) ?_
          refine d_takeL (i := 7) hl rfl (by kernel_rfl) (by kernel_rfl) (by kernel_rfl) (by kernel_rfl) (by kernel_rfl) rfl trivial (fun _ _ _ h => h) (fun w => r_assign hl rfl) rfl ?_
          clear hl a; intro a hl
          refine d_done (by kernel_rfl) ?_
          try clear hM
          have hl2 := hl.add (t := 8) (hl.nil) rfl; clear hl; have hl := hl2; clear hl2
          refine then_normal ?_
          refine wp_ret ?_
          refine f_ret1 (F' := (lb, C [.pointer (some ⟨wb, 0, none⟩), .map (some V.tb), .slice ip9 iv9.length ic9, .slice V.mp V.mb.length V.mc, .bool (V.op && !ok)] 62) :: ((V.tb, MO (kInt .u32) V.tm) :: (V.B ++ (((wb, C W.c 84) :: (W.tE ++ (W.gE ++ (DsF W.ds ++ W.GF Z)))) ++ Es)))) hl hh rfl rfl (by repeat (first | exact keeps_nil | apply keeps_cons (by repeat (first | exact find_head | apply find_tail | apply find_skip)) (by first  | (rw [h9v, h9p, h9c]; done) | rfl) | exact keeps_self | exact keeps_left | apply keeps_app | apply keeps_mv | apply keeps_skip)) ?_
          refine ⟨?_, { V with iv := iv9, ip := ip9, ic := ic9, op := V.op && !ok }, ⟨⟨E9, h9R, h9Z⟩, hV.m, h9o, hV.mo, hV.tv, hV.tk⟩, ?_, rfl⟩
          · have h8 := hB1
            rw [htb] at h8
            rw [show sameP s1.is iv9 = true by rw [hisl, h9v]; exact h8]
          · rw [htb, h9v]; rfl
        ·
          try clear hM
          refine id (w_load hl hh rfl trivial one33 rfl (by repeat (first | exact find_head | apply find_tail | apply find_skip)) (by first | exact hcl | exact stc_ph' _ | exact stc_fid' _ | exact stc_vd' _ | exact stc_ep' _ | exact stc_vs' _ | exact stc_is' _ | rfl) ?_)
          clear hl a; intro a hl
          have hM : Mem [] w := Mem.nil
          refine d_step (fun _ => hM) ?_
          refine d_one (i := 1) (by kernel_rfl) rfl ?_
          try clear hM
          refine id (w_load hl hh rfl trivial one33 rfl (by repeat (first | exact find_head | apply find_tail | apply find_skip)) (by first | exact hcl | exact stc_ph' _ | exact stc_fid' _ | exact stc_vd' _ | exact stc_ep' _ | exact stc_vs' _ | exact stc_is' _ | rfl) ?_)
          clear hl a; intro a hl
          have hM : Mem [] w := Mem.nil
          refine d_step (fun _ => hM) ?_
          refine d_one (i := 6) (by kernel_rfl) rfl ?_
          try clear hM
          refine id (w_call hl hh rfl trivial rfl cal115 rfl (same_spec s1.is iv9 s1.ip ip9 s1.ic ic9 s1.iE E9 hs1.i h9R hs1.io h9o (by have := hs1.il; omega) (by omega)) (by repeat (first | exact keeps_nil | apply keeps_cons (by repeat (first | exact find_head | apply find_tail | apply find_skip)) (by first  | rfl) | exact keeps_self | exact keeps_left | apply keeps_app | apply keeps_mv | apply keeps_skip)) ⟨memK (E := s1.iE) hh (by repeat (first | exact keeps_nil | apply keeps_cons (by repeat (first | exact find_head | apply find_tail | apply find_skip)) (by first  | rfl) | exact keeps_self | exact keeps_left | apply keeps_app | apply keeps_mv | apply keeps_skip)), fun b o m => memK (E := V.B) hh (by repeat (first | exact keeps_nil | apply keeps_cons (by repeat (first | exact find_head | apply find_tail | apply find_skip)) (by first  | rfl) | exact keeps_self | exact keeps_left | apply keeps_app | apply keeps_mv | apply keeps_skip)) b o (h9Z _ m)⟩ ?_)
          clear hl hh a w; intro vc Fc a w hR hl hh
          obtain ⟨rfl, rfl⟩ := hR
          try simp only [List.cons_append, List.nil_append, List.append_assoc, List.append_nil] at hh
          refine d_step (fun h => absurd h (by decide)) ?_
          refine d_takeL (i := 7) hl rfl (by kernel_rfl) (by kernel_rfl) (by kernel_rfl) (by kernel_rfl) (by kernel_rfl) rfl trivial (fun _ _ _ h => h) (fun w => r_assign hl rfl) rfl ?_
          clear hl a; intro a hl
          refine d_done (by kernel_rfl) ?_
          try clear hM
          have hl2 := hl.add (t := 8) (hl.nil) rfl; clear hl; have hl := hl2; clear hl2
          refine then_normal ?_
          refine wp_ret ?_
          refine f_ret1 (F' := (lb, C [.pointer (some ⟨wb, 0, none⟩), .map (some V.tb), .slice ip9 iv9.length ic9, .slice V.mp V.mb.length V.mc, .bool (V.op && !ok)] 62) :: ((V.tb, MO (kInt .u32) V.tm) :: (V.B ++ (((wb, C W.c 84) :: (W.tE ++ (W.gE ++ (DsF W.ds ++ W.GF Z)))) ++ Es)))) hl hh rfl rfl (by repeat (first | exact keeps_nil | apply keeps_cons (by repeat (first | exact find_head | apply find_tail | apply find_skip)) (by first  | (rw [h9v, h9p, h9c]; done) | rfl) | exact keeps_self | exact keeps_left | apply keeps_app | apply keeps_mv | apply keeps_skip)) ?_
          refine ⟨?_, { V with iv := iv9, ip := ip9, ic := ic9, op := V.op && !ok }, ⟨⟨E9, h9R, h9Z⟩, hV.m, h9o, hV.mo, hV.tv, hV.tk⟩, ?_, rfl⟩
          · have h8 := hB1
            rw [htb] at h8
            rw [show sameP s1.is iv9 = true by rw [hisl, h9v]; exact h8]
          · rw [htb, h9v]; rfl
      ·
        intro j50 p50 hjn50 hn50; clear hl hh a w; intro a w hl hh
        have hyn := hy.next hjn50 hn50
        obtain ⟨z9, hz9, hz1, hz2⟩ := hV.tv _ _ (mget_at9 hV.tk hjn50)
        have htl : V.pl.tl p50.1 = some z9 := by show vdN (mget V.tm p50.1) = some z9; rw [mget_at9 hV.tk hjn50, hz9]; rfl
        have hlk : mget s1.vd p50.1 = some (.int .u8 z9) := by
          have h8 := hB2 _ _ htl
          rw [← hps1] at h8
          rcases vdx hs1 p50.1 with ⟨c8, h7, _, _, h6⟩ | ⟨h7, h6⟩
          · rw [h6] at h8; injection h8 with h8; rw [h7, h8]
          · rw [h6] at h8; cases h8
        refine wl (wl_val hl rfl trivial (r_extract hl rfl (by simp only [List.getElem?_toArray, List.getElem?_cons_zero, List.getElem?_cons_succ]; rfl)) ?_)
        clear hl a; intro a hl
        refine w_nil ?_
        have hl2 := hl.add (t := 0) (hl.add (t := 9) (hl.add (t := 49) (hl.add (t := 51) (hl.nil) rfl) rfl) rfl) rfl; clear hl; have hl := hl2; clear hl2
        refine then_normal ?_
        refine c_seq ?_
        refine c_condT hl rfl ?_
        refine wp_skip ?_
        refine then_normal ?_
        refine wp_block ?_
        refine c_seq ?_
        refine c_region ?_
        refine wl (w_entry hjn50 hl hh rfl trivial rfl (by repeat (first | exact find_head | apply find_tail | apply find_skip)) (by repeat (first | exact find_head | apply find_tail | apply find_skip)) ?_)
        clear hl a; intro a hl
        refine wl (wl_val hl rfl trivial (r_extract hl rfl (by simp only [List.getElem?_toArray, List.getElem?_cons_zero, List.getElem?_cons_succ]; rfl)) ?_)
        clear hl a; intro a hl
        refine wl (wl_val hl rfl trivial (r_extract hl rfl (by simp only [List.getElem?_toArray, List.getElem?_cons_zero, List.getElem?_cons_succ]; rfl)) ?_)
        clear hl a; intro a hl
        try rw [hz9] at hl
        refine wl (wl_val hl rfl trivial (r_assign hl rfl) ?_)
        clear hl a; intro a hl
        refine wl (wl_val hl rfl trivial (r_assign hl rfl) ?_)
        clear hl a; intro a hl
        refine w_nil ?_
        have hl2 := hl.add (t := 0) (hl.add (t := 9) (hl.add (t := 10) (hl.add (t := 11) (hl.add (t := 49) (hl.nil) rfl) rfl) rfl) rfl) rfl; clear hl; have hl := hl2; clear hl2
        refine then_normal ?_
        refine c_seq ?_
        refine c_region ?_
        refine wl (wl_val hl rfl trivial (r_field hl rfl fld48_4) ?_)
        clear hl a; intro a hl
        refine wl (w_load hl hh rfl trivial one46 rfl (by repeat (first | exact find_head | apply find_tail | apply find_skip)) (by first | exact hcl | exact stc_ph' _ | exact stc_fid' _ | exact stc_vd' _ | exact stc_ep' _ | exact stc_vs' _ | exact stc_is' _ | rfl) ?_)
        clear hl a; intro a hl
        refine wl (wl_val hl rfl trivial (r_move hl rfl) ?_)
        clear hl a; intro a hl
        refine wl (w_lookup (keyInt Try.underlying31) Try.underlying46 zero132 hl hh rfl trivial rfl rfl (by repeat (first | exact find_head | apply find_tail | apply find_skip)) ?_)
        clear hl a; intro a hl
        rw [hlk] at hl
        try simp only [Option.getD_some] at hl
        refine wl (wl_val hl rfl trivial (r_move hl rfl) ?_)
        clear hl a; intro a hl
        refine wl (wl_val hl rfl trivial (r_neq hl rfl rfl) ?_)
        clear hl a; intro a hl
        refine w_nil ?_
        have hl2 := hl.add (t := 0) (hl.add (t := 9) (hl.add (t := 49) (hl.add (t := 60) (hl.nil) rfl) rfl) rfl) rfl; clear hl; have hl := hl2; clear hl2
        refine then_normal ?_
        refine c_cond hl rfl ?_ ?_
        · intro hc3
          try simp only [decide_eq_true_eq, decide_eq_false_iff_not, Bool.not_eq_true', Bool.not_eq_false', Bool.not_eq_true, Bool.not_eq_false, Bool.and_eq_true, Bool.or_eq_true, Bool.and_eq_false_iff, Bool.or_eq_false_iff, Bool.not_not, ne_eq, Int.not_lt, Int.not_le, Decidable.not_not, beq_iff_eq, bne_iff_ne] at hc3
          exfalso; first | contradiction | omega
        · intro hc3
          try simp only [decide_eq_true_eq, decide_eq_false_iff_not, Bool.not_eq_true', Bool.not_eq_false', Bool.not_eq_true, Bool.not_eq_false, Bool.and_eq_true, Bool.or_eq_true, Bool.and_eq_false_iff, Bool.or_eq_false_iff, Bool.not_not, ne_eq, Int.not_lt, Int.not_le, Decidable.not_not, beq_iff_eq, bne_iff_ne] at hc3
          refine wp_skip ?_
          refine blk_normal ?_
          refine then_normal ?_
          refine ⟨⟨y.seen ++ [j50]⟩, (by have := nodup_len9 hyn.1 hyn.2; simp only [List.length_append, List.length_cons, List.length_nil] at this ⊢; omega), hyn, hl.addE (t := 0) (hl.addE (t := 9) (hl.addE (t := 49) (hl.nil) rfl (by first | rfl | (congr 1; omega))) rfl (by first | rfl | (congr 1; omega))) rfl (by first | rfl | (congr 1; omega)), hh.keep (by repeat (first | exact keeps_nil | apply keeps_cons (by repeat (first | exact find_head | apply find_tail | apply find_skip)) (by first  | rfl) | exact keeps_self | exact keeps_left | apply keeps_app | apply keeps_mv | apply keeps_skip))⟩
    · intro hc1
      try simp only [decide_eq_true_eq, decide_eq_false_iff_not, Bool.not_eq_true', Bool.not_eq_false', Bool.not_eq_true, Bool.not_eq_false, Bool.and_eq_true, Bool.or_eq_true, Bool.and_eq_false_iff, Bool.or_eq_false_iff, Bool.not_not, ne_eq, Int.not_lt, Int.not_le, Decidable.not_not, beq_iff_eq, bne_iff_ne] at hc1
      have hop9 : (V.op && !ok) = V.op := by rw [hc1]; simp
      rw [show Value.bool V.op = .bool (V.op && !ok) by rw [hop9]] at hh
      refine wp_skip ?_
      refine then_normal ?_
      refine c_seq ?_
      refine c_seq ?_
      refine c_region ?_
      refine wl (wl_val hl rfl trivial (r_move hl rfl) ?_)
      clear hl a; intro a hl
      refine wl (wl_val hl rfl trivial (r_nilCheck hl rfl) ?_)
      clear hl a; intro a hl
      refine wl (wl_val hl rfl trivial (r_field hl rfl fld62_1) ?_)
      clear hl a; intro a hl
      refine wl (w_load hl hh rfl trivial one46 rfl (by repeat (first | exact find_head | apply find_tail | apply find_skip)) (by first | exact hcl | exact stc_ph' _ | exact stc_fid' _ | exact stc_vd' _ | exact stc_ep' _ | exact stc_vs' _ | exact stc_is' _ | rfl) ?_)
      clear hl a; intro a hl
      refine wl (w_range Try.underlying46 hl hh rfl trivial rfl (by repeat (first | exact find_head | apply find_tail | apply find_skip)) ?_)
      clear hl hh a w; intro k49 a w hl hh
      refine w_nil ?_
      have hl2 := hl.add (t := 0) (hl.add (t := 9) (hl.add (t := 49) (hl.nil) rfl) rfl) rfl; clear hl; have hl := hl2; clear hl2
      refine then_normal ?_
      refine wp_block ?_
      obtain ⟨KS0, hKS0, hk⟩ := (hl.add (t := 0) (hl.add (t := 9) (hl.add (t := 49) (hl.nil) rfl) rfl) rfl).name
      obtain ⟨HS0, hHS0, hh2⟩ := hh.name (keeps_cons (b := k49) (o' := IT V.tb V.tm.length []) (by repeat (first | exact find_head | apply find_tail | apply find_skip)) (by first | rfl) (keeps_nil))
      refine c_loop (α := RgS) (fun y => V.tm.length - y.seen.length) (fun y a w => (RgI V.tm y) ∧ Sl 68 ([] ++ KS0) a ∧ Has _ w0 ([(k49, IT V.tb V.tm.length y.seen)] ++ HS0) w) ⟨[]⟩ ⟨RgI.start _, hk, hh2⟩ ?_
      clear hk hh2 hl hh a w
      intro y a w hI
      obtain ⟨hy, hl, hh⟩ := hI
      subst hKS0; subst hHS0
      simp only [List.cons_append, List.nil_append, List.append_nil, List.append_assoc] at hl hh
      have hyl := nodup_len9 hy.1 hy.2
      refine c_seq ?_
      refine c_region ?_
      refine wl (w_next hl hh rfl trivial rfl (by repeat (first | exact find_head | apply find_tail | apply find_skip)) (by repeat (first | exact find_head | apply find_tail | apply find_skip)) ?_ ?_)
      ·
        intro hall; clear hl a; intro a hl
        refine wl (wl_val hl rfl trivial (r_extract hl rfl (by simp only [List.getElem?_toArray, List.getElem?_cons_zero, List.getElem?_cons_succ]; rfl)) ?_)
        clear hl a; intro a hl
        refine w_nil ?_
        have hl2 := hl.add (t := 0) (hl.add (t := 9) (hl.add (t := 49) (hl.add (t := 51) (hl.nil) rfl) rfl) rfl) rfl; clear hl; have hl := hl2; clear hl2
        refine then_normal ?_
        refine c_seq ?_
        refine c_condF hl rfl ?_
        refine wp_exit ?_
        refine then_exit ?_
        refine then_exit ?_
        refine blk_exit ?_
        refine then_normal ?_
        refine c_seq ?_
        refine c_draw [] [6, 7] mixed hh ?_
        clear hh w; intro w hh
        have hM : Mem [] w := Mem.nil
        refine d_take (i := 0) hl rfl (by kernel_rfl) (by kernel_rfl) (by kernel_rfl) (by kernel_rfl) (by kernel_rfl) rfl trivial (fun _ _ _ h => h) hM (fun w hC => r_field hl rfl fld48_2) rfl ?_
        clear hl a; intro a hl
        refine d_take (i := 2) hl rfl (by kernel_rfl) (by kernel_rfl) (by kernel_rfl) (by kernel_rfl) (by kernel_rfl) rfl trivial (fun _ _ _ h => h) hM (fun w hC => r_move hl rfl) rfl ?_
        clear hl a; intro a hl
        refine d_take (i := 3) hl rfl (by kernel_rfl) (by kernel_rfl) (by kernel_rfl) (by kernel_rfl) (by kernel_rfl) rfl trivial (fun _ _ _ h => h) hM (fun w hC => r_nilCheck hl rfl) rfl ?_
        clear hl a; intro a hl
        refine d_take (i := 4) hl rfl (by kernel_rfl) (by kernel_rfl) (by kernel_rfl) (by kernel_rfl) (by kernel_rfl) rfl trivial (fun _ _ _ h => h) hM (fun w hC => r_field hl rfl fld62_2) rfl ?_
        clear hl a; intro a hl
        refine d_two (i := 1) (j := 5) (by kernel_rfl) rfl rfl ?_ ?_
        ·
          try clear hM
          refine id (w_load hl hh rfl trivial one33 rfl (by repeat (first | exact find_head | apply find_tail | apply find_skip)) (by first | exact hcl | exact stc_ph' _ | exact stc_fid' _ | exact stc_vd' _ | exact stc_ep' _ | exact stc_vs' _ | exact stc_is' _ | rfl) ?_)
          clear hl a; intro a hl
          have hM : Mem [] w := Mem.nil
          refine d_step (fun _ => hM) ?_
          refine d_one (i := 5) (by kernel_rfl) rfl ?_
          try clear hM
          refine id (w_load hl hh rfl trivial one33 rfl (by repeat (first | exact find_head | apply find_tail | apply find_skip)) (by first | exact hcl | exact stc_ph' _ | exact stc_fid' _ | exact stc_vd' _ | exact stc_ep' _ | exact stc_vs' _ | exact stc_is' _ | rfl) ?_)
          clear hl a; intro a hl
          have hM : Mem [] w := Mem.nil
          refine d_step (fun _ => hM) ?_
          refine d_one (i := 6) (by kernel_rfl) rfl ?_
          try clear hM
          refine id (w_call hl hh rfl trivial rfl cal115 rfl (same_spec s1.is iv9 s1.ip ip9 s1.ic ic9 s1.iE E9 hs1.i h9R hs1.io h9o (by have := hs1.il; omega) (by omega)) (by repeat (first | exact keeps_nil | apply keeps_cons (by repeat (first | exact find_head | apply find_tail | apply find_skip)) (by first  | rfl) | exact keeps_self | exact keeps_left | apply keeps_app | apply keeps_mv | apply keeps_skip)) ⟨memK (E := s1.iE) hh (by repeat (first | exact keeps_nil | apply keeps_cons (by repeat (first | exact find_head | apply find_tail | apply find_skip)) (by first  | rfl) | exact keeps_self | exact keeps_left | apply keeps_app | apply keeps_mv | apply keeps_skip)), fun b o m => memK (E := V.B) hh (by repeat (first | exact keeps_nil | apply keeps_cons (by repeat (first | exact find_head | apply find_tail | apply find_skip)) (by first  | rfl) | exact keeps_self | exact keeps_left | apply keeps_app | apply keeps_mv | apply keeps_skip)) b o (h9Z _ m)⟩ ?_)
          clear hl hh a w; intro vc Fc a w hR hl hh
          obtain ⟨rfl, rfl⟩ := hR
          try simp only [List.cons_append, List.nil_append, List.append_assoc, List.append_nil] at hh
          refine d_step (fun h => absurd h (by decide)) ?_
          refine d_takeL (i := 7) hl rfl (by kernel_rfl) (by kernel_rfl) (by kernel_rfl) (by kernel_rfl) (by kernel_rfl) rfl trivial (fun _ _ _ h => h) (fun w => r_assign hl rfl) rfl ?_
          clear hl a; intro a hl
          refine d_done (by kernel_rfl) ?_
          try clear hM
          have hl2 := hl.add (t := 8) (hl.nil) rfl; clear hl; have hl := hl2; clear hl2
          refine then_normal ?_
          refine wp_ret ?_
          refine f_ret1 (F' := (lb, C [.pointer (some ⟨wb, 0, none⟩), .map (some V.tb), .slice ip9 iv9.length ic9, .slice V.mp V.mb.length V.mc, .bool (V.op && !ok)] 62) :: ((V.tb, MO (kInt .u32) V.tm) :: (V.B ++ (((wb, C W.c 84) :: (W.tE ++ (W.gE ++ (DsF W.ds ++ W.GF Z)))) ++ Es)))) hl hh rfl rfl (by repeat (first | exact keeps_nil | apply keeps_cons (by repeat (first | exact find_head | apply find_tail | apply find_skip)) (by first  | (rw [h9v, h9p, h9c]; done) | rfl) | exact keeps_self | exact keeps_left | apply keeps_app | apply keeps_mv | apply keeps_skip)) ?_
          refine ⟨?_, { V with iv := iv9, ip := ip9, ic := ic9, op := V.op && !ok }, ⟨⟨E9, h9R, h9Z⟩, hV.m, h9o, hV.mo, hV.tv, hV.tk⟩, ?_, rfl⟩
          · have h8 := hB1
            rw [htb] at h8
            rw [show sameP s1.is iv9 = true by rw [hisl, h9v]; exact h8]
          · rw [htb, h9v]; rfl
        ·
          try clear hM
          refine id (w_load hl hh rfl trivial one33 rfl (by repeat (first | exact find_head | apply find_tail | apply find_skip)) (by first | exact hcl | exact stc_ph' _ | exact stc_fid' _ | exact stc_vd' _ | exact stc_ep' _ | exact stc_vs' _ | exact stc_is' _ | rfl) ?_)
          clear hl a; intro a hl
          have hM : Mem [] w := Mem.nil
          refine d_step (fun _ => hM) ?_
          refine d_one (i := 1) (by kernel_rfl) rfl ?_
          try clear hM
          refine id (w_load hl hh rfl trivial one33 rfl (by repeat (first | exact find_head | apply find_tail | apply find_skip)) (by first | exact hcl | exact stc_ph' _ | exact stc_fid' _ | exact stc_vd' _ | exact stc_ep' _ | exact stc_vs' _ | exact stc_is' _ | rfl) ?_)
          clear hl a; intro a hl
          have hM : Mem [] w := Mem.nil
          refine d_step (fun _ => hM) ?_
          refine d_one (i := 6) (by kernel_rfl) rfl ?_
          try clear hM
          refine id (w_call hl hh rfl trivial rfl cal115 rfl (same_spec s1.is iv9 s1.ip ip9 s1.ic ic9 s1.iE E9 hs1.i h9R hs1.io h9o (by have := hs1.il; omega) (by omega)) (by repeat (first | exact keeps_nil | apply keeps_cons (by repeat (first | exact find_head | apply find_tail | apply find_skip)) (by first  | rfl) | exact keeps_self | exact keeps_left | apply keeps_app | apply keeps_mv | apply keeps_skip)) ⟨memK (E := s1.iE) hh (by repeat (first | exact keeps_nil | apply keeps_cons (by repeat (first | exact find_head | apply find_tail | apply find_skip)) (by first  | rfl) | exact keeps_self | exact keeps_left | apply keeps_app | apply keeps_mv | apply keeps_skip)), fun b o m => memK (E := V.B) hh (by repeat (first | exact keeps_nil | apply keeps_cons (by repeat (first | exact find_head | apply find_tail | apply find_skip)) (by first  | rfl) | exact keeps_self | exact keeps_left | apply keeps_app | apply keeps_mv | apply keeps_skip)) b o (h9Z _ m)⟩ ?_)
          clear hl hh a w; intro vc Fc a w hR hl hh
          obtain ⟨rfl, rfl⟩ := hR
          try simp only [List.cons_append, List.nil_append, List.append_assoc, List.append_nil] at hh
          refine d_step (fun h => absurd h (by decide)) ?_
          refine d_takeL (i := 7) hl rfl (by kernel_rfl) (by kernel_rfl) (by kernel_rfl) (by kernel_rfl) (by kernel_rfl) rfl trivial (fun _ _ _ h => h) (fun w => r_assign hl rfl) rfl ?_
          clear hl a; intro a hl
          refine d_done (by kernel_rfl) ?_
          try clear hM
          have hl2 := hl.add (t := 8) (hl.nil) rfl; clear hl; have hl := hl2; clear hl2
          refine then_normal ?_
          refine wp_ret ?_
          refine f_ret1 (F' := (lb, C [.pointer (some ⟨wb, 0, none⟩), .map (some V.tb), .slice ip9 iv9.length ic9, .slice V.mp V.mb.length V.mc, .bool (V.op && !ok)] 62) :: ((V.tb, MO (kInt .u32) V.tm) :: (V.B ++ (((wb, C W.c 84) :: (W.tE ++ (W.gE ++ (DsF W.ds ++ W.GF Z)))) ++ Es)))) hl hh rfl rfl (by repeat (first | exact keeps_nil | apply keeps_cons (by repeat (first | exact find_head | apply find_tail | apply find_skip)) (by first  | (rw [h9v, h9p, h9c]; done) | rfl) | exact keeps_self | exact keeps_left | apply keeps_app | apply keeps_mv | apply keeps_skip)) ?_
          refine ⟨?_, { V with iv := iv9, ip := ip9, ic := ic9, op := V.op && !ok }, ⟨⟨E9, h9R, h9Z⟩, hV.m, h9o, hV.mo, hV.tv, hV.tk⟩, ?_, rfl⟩
          · have h8 := hB1
            rw [htb] at h8
            rw [show sameP s1.is iv9 = true by rw [hisl, h9v]; exact h8]
          · rw [htb, h9v]; rfl
      ·
        intro j50 p50 hjn50 hn50; clear hl hh a w; intro a w hl hh
        have hyn := hy.next hjn50 hn50
        obtain ⟨z9, hz9, hz1, hz2⟩ := hV.tv _ _ (mget_at9 hV.tk hjn50)
        have htl : V.pl.tl p50.1 = some z9 := by show vdN (mget V.tm p50.1) = some z9; rw [mget_at9 hV.tk hjn50, hz9]; rfl
        have hlk : mget s1.vd p50.1 = some (.int .u8 z9) := by
          have h8 := hB2 _ _ htl
          rw [← hps1] at h8
          rcases vdx hs1 p50.1 with ⟨c8, h7, _, _, h6⟩ | ⟨h7, h6⟩
          · rw [h6] at h8; injection h8 with h8; rw [h7, h8]
          · rw [h6] at h8; cases h8
        refine wl (wl_val hl rfl trivial (r_extract hl rfl (by simp only [List.getElem?_toArray, List.getElem?_cons_zero, List.getElem?_cons_succ]; rfl)) ?_)
        clear hl a; intro a hl
        refine w_nil ?_
        have hl2 := hl.add (t := 0) (hl.add (t := 9) (hl.add (t := 49) (hl.add (t := 51) (hl.nil) rfl) rfl) rfl) rfl; clear hl; have hl := hl2; clear hl2
        refine then_normal ?_
        refine c_seq ?_
        refine c_condT hl rfl ?_
        refine wp_skip ?_
        refine then_normal ?_
        refine wp_block ?_
        refine c_seq ?_
        refine c_region ?_
        refine wl (w_entry hjn50 hl hh rfl trivial rfl (by repeat (first | exact find_head | apply find_tail | apply find_skip)) (by repeat (first | exact find_head | apply find_tail | apply find_skip)) ?_)
        clear hl a; intro a hl
        refine wl (wl_val hl rfl trivial (r_extract hl rfl (by simp only [List.getElem?_toArray, List.getElem?_cons_zero, List.getElem?_cons_succ]; rfl)) ?_)
        clear hl a; intro a hl
        refine wl (wl_val hl rfl trivial (r_extract hl rfl (by simp only [List.getElem?_toArray, List.getElem?_cons_zero, List.getElem?_cons_succ]; rfl)) ?_)
        clear hl a; intro a hl
        try rw [hz9] at hl
        refine wl (wl_val hl rfl trivial (r_assign hl rfl) ?_)
        clear hl a; intro a hl
        refine wl (wl_val hl rfl trivial (r_assign hl rfl) ?_)
        clear hl a; intro a hl
        refine w_nil ?_
        have hl2 := hl.add (t := 0) (hl.add (t := 9) (hl.add (t := 10) (hl.add (t := 11) (hl.add (t := 49) (hl.nil) rfl) rfl) rfl) rfl) rfl; clear hl; have hl := hl2; clear hl2
        refine then_normal ?_
        refine c_seq ?_
        refine c_region ?_
        refine wl (wl_val hl rfl trivial (r_field hl rfl fld48_4) ?_)
        clear hl a; intro a hl
        refine wl (w_load hl hh rfl trivial one46 rfl (by repeat (first | exact find_head | apply find_tail | apply find_skip)) (by first | exact hcl | exact stc_ph' _ | exact stc_fid' _ | exact stc_vd' _ | exact stc_ep' _ | exact stc_vs' _ | exact stc_is' _ | rfl) ?_)
        clear hl a; intro a hl
        refine wl (wl_val hl rfl trivial (r_move hl rfl) ?_)
        clear hl a; intro a hl
        refine wl (w_lookup (keyInt Try.underlying31) Try.underlying46 zero132 hl hh rfl trivial rfl rfl (by repeat (first | exact find_head | apply find_tail | apply find_skip)) ?_)
        clear hl a; intro a hl
        rw [hlk] at hl
        try simp only [Option.getD_some] at hl
        refine wl (wl_val hl rfl trivial (r_move hl rfl) ?_)
        clear hl a; intro a hl
        refine wl (wl_val hl rfl trivial (r_neq hl rfl rfl) ?_)
        clear hl a; intro a hl
        refine w_nil ?_
        have hl2 := hl.add (t := 0) (hl.add (t := 9) (hl.add (t := 49) (hl.add (t := 60) (hl.nil) rfl) rfl) rfl) rfl; clear hl; have hl := hl2; clear hl2
        refine then_normal ?_
        refine c_cond hl rfl ?_ ?_
        · intro hc3
          try simp only [decide_eq_true_eq, decide_eq_false_iff_not, Bool.not_eq_true', Bool.not_eq_false', Bool.not_eq_true, Bool.not_eq_false, Bool.and_eq_true, Bool.or_eq_true, Bool.and_eq_false_iff, Bool.or_eq_false_iff, Bool.not_not, ne_eq, Int.not_lt, Int.not_le, Decidable.not_not, beq_iff_eq, bne_iff_ne] at hc3
          exfalso; first | contradiction | omega
        · intro hc3
          try simp only [decide_eq_true_eq, decide_eq_false_iff_not, Bool.not_eq_true', Bool.not_eq_false', Bool.not_eq_true, Bool.not_eq_false, Bool.and_eq_true, Bool.or_eq_true, Bool.and_eq_false_iff, Bool.or_eq_false_iff, Bool.not_not, ne_eq, Int.not_lt, Int.not_le, Decidable.not_not, beq_iff_eq, bne_iff_ne] at hc3
          refine wp_skip ?_
          refine blk_normal ?_
          refine then_normal ?_
          refine ⟨⟨y.seen ++ [j50]⟩, (by have := nodup_len9 hyn.1 hyn.2; simp only [List.length_append, List.length_cons, List.length_nil] at this ⊢; omega), hyn, hl.addE (t := 0) (hl.addE (t := 9) (hl.addE (t := 49) (hl.nil) rfl (by first | rfl | (congr 1; omega))) rfl (by first | rfl | (congr 1; omega))) rfl (by first | rfl | (congr 1; omega)), hh.keep (by repeat (first | exact keeps_nil | apply keeps_cons (by repeat (first | exact find_head | apply find_tail | apply find_skip)) (by first  | rfl) | exact keeps_self | exact keeps_left | apply keeps_app | apply keeps_mv | apply keeps_skip))⟩
end Go.Proofs.Qxb6500908a

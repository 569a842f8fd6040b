import Derived.Test.Qxb6500908aX31
import Derived.Test.Qxb6500908aX25
namespace Go.Proofs.Qxb6500908a
open Go.Eng
set_option linter.unusedVariables false
set_option linter.unusedSimpArgs false
theorem cal112 : callable Try.prog 112 = true := by kernel_rfl
theorem fld59_0 : fieldOk Try.prog 59 0 0 = true := by kernel_rfl
theorem bld74 : buildOk Try.prog 74 [(0, 1), (1, 1), (2, 1), (3, 1), (4, 8), (12, 6)] = true := by kernel_rfl
theorem conc57 : concT Try.prog 57 = true := by kernel_rfl
theorem src0 : SrcL (.slice none 0 0) [] [] := ⟨none, 0, rfl, Nat.le_refl _, by simp, .inl ⟨rfl, rfl⟩⟩
theorem op0_ok (Z : List (Nat × Obj)) (k : Int) (hk : 0 ≤ k ∧ k ≤ 255) : OpOk Z ⟨k, 0, 0, [], ms0, iv0⟩ none 0 := ⟨hk, by simp, by simp, iv0_ok, ms0_ok, ⟨[], src0, fun x hx => (by cases hx)⟩, by simp⟩
theorem arm0_ok {Z : List (Nat × Obj)} {W : WoV} (hW : W.ok Z) : WoV.ok Z { W with l := W.l.arm0 } := led_ok hW ⟨hW.l.d, by simp [LdV.arm0]⟩
theorem FLI.start {Z : List (Nat × Obj)} {W : WoV} (hW : W.ok Z) {n : Nat} (hn : WI n (W.pl [] [])) {gb : Nat} {g : GtV} (hg : W.g = some (gb, g)) (h : HI (W.pl [] [])) : FLI Z n (40 * (g.q.length + 1)) g.q.length ⟨40 * (g.q.length + 1), { W with l := W.l.arm0 }, Z⟩ := by
  refine ⟨arm0_ok hW, ⟨[], by simp⟩, (hn.led (l' := W.l.arm0.pl) rfl rfl).mono (by omega), Nat.le_refl _, gb, g, hg, ⟨h.led (l' := W.l.arm0.pl) rfl, by show (if (0 : Int) < 0 then (0 : Int) else 0) ≤ 0; simp, by show W.g.map _ = _; rw [hg]; rfl⟩, .inl ⟨rfl, ?_⟩⟩
  unfold Phi
  have := phV_le (WoV.pl { W with l := W.l.arm0 } [] []).l.d.ph
  have e : g.pl.q.length = g.q.length := List.length_map _
  simp only
  omega

attribute [local irreducible] NtV.k StV.c LdV.c StV.E GtV.c GtV.t orB sh1 WoV.c wst postP

set_option maxHeartbeats 16000000 in
theorem fin_spec (lb wb : Nat) (W : WoV) (Z : List (Nat × Obj)) (hW : W.ok Z) (n : Nat) (hn : WI n (W.pl [] [])) (hn9 : n ≤ 20000000) (gb : Nat) (g : GtV) (hg : W.g = some (gb, g)) (hH : HI (W.pl [] [])) : Sp Try.prog 111 #[.pointer (some ⟨lb, 0, none⟩)] ((lb, C [.pointer (some ⟨wb, 0, none⟩)] 59) :: WoV.F wb W Z) (fun v F' => v = .bool true ∧ ∃ (F2 : List (Nat × Obj)) (W' : WoV) (G : List (Nat × Obj)), F' = F2 ++ WoV.F wb W' (Z ++ G)) := by
  refine f_enter (args := [.pointer (some ⟨lb, 0, none⟩)]) Try.func111 rfl Try.ntmps111 rfl ?_
  intro w0 w a hpre hl hh
  generalize hDD : List.map Prod.fst ((lb, C [.pointer (some ⟨wb, 0, none⟩)] 59) :: WoV.F wb W Z) = D at hh ⊢
  simp only [WoV.F, List.append_assoc, List.cons_append] at hh
  have hcl := wc_led W
  have hcg : W.c[0 + 1]? = some (.pointer (some ⟨gb, 0, none⟩)) := by rw [wc_g, hg]; rfl
  have hql : g.q.length ≤ 8 := by have h9 := (WI.up hn hg).1.ql; rw [show g.pl.q.length = g.q.length from List.length_map _] at h9; exact h9
  have hcg0 : (WoV.c { W with l := W.l.arm0 })[0 + 1]? = some (.pointer (some ⟨gb, 0, none⟩)) := by rw [wc_same (W := W) (W' := { W with l := W.l.arm0 }) rfl rfl rfl rfl]; exact hcg
  simp only [slotsFrom, Nat.reduceAdd] at hl
  refine c_seq ?_
  refine c_region ?_
  refine wl (wl_val hl rfl trivial (r_assign hl rfl) ?_)
  clear hl a; intro a hl
  refine w_nil ?_
  have hl2 := hl.add (t := 0) (hl.nil) rfl; clear hl; have hl := hl2; clear hl2
  refine then_normal ?_
  refine c_seq ?_
  refine c_region ?_
  refine wl (wl_val hl rfl trivial (r_move hl rfl) ?_)
  clear hl a; intro a hl
  refine wl (wl_val hl rfl trivial (r_nilCheck hl rfl) ?_)
  clear hl a; intro a hl
  refine wl (wl_val hl rfl trivial (r_field hl rfl fld59_0) ?_)
  clear hl a; intro a hl
  refine wl (wl_val hl rfl trivial (r_field hl rfl fld30_0) ?_)
  clear hl a; intro a hl
  refine wl (w_load hl hh rfl trivial one28 rfl (by repeat (first | exact find_head | apply find_tail | apply find_skip)) (by first | exact hcl | exact hcg | exact hcg0 | exact wc_led s.W | exact hcg2 | exact vrc_id x | exact stc_ph' _ | exact stc_fid' _ | exact stc_vd' _ | exact stc_ep' _ | exact stc_vs' _ | exact stc_is' _ | rfl) ?_)
  clear hl a; intro a hl
  refine wl (wl_val hl rfl trivial (r_assign hl rfl) ?_)
  clear hl a; intro a hl
  refine w_nil ?_
  have hl2 := hl.add (t := 0) (hl.add (t := 3) (hl.nil) rfl) rfl; clear hl; have hl := hl2; clear hl2
  refine then_normal ?_
  refine c_seq ?_
  refine c_region ?_
  refine wl (wl_val hl rfl trivial (r_move hl rfl) ?_)
  clear hl a; intro a hl
  refine wl (wl_val hl rfl trivial (r_nilCheck hl rfl) ?_)
  clear hl a; intro a hl
  refine wl (wl_val hl rfl trivial (r_field hl rfl fld84_0) ?_)
  clear hl a; intro a hl
  refine wl (w_load hl hh rfl trivial one77 rfl (by repeat (first | exact find_head | apply find_tail | apply find_skip)) (by first | exact hcl | exact hcg | exact hcg0 | exact wc_led s.W | exact hcg2 | exact vrc_id x | exact stc_ph' _ | exact stc_fid' _ | exact stc_vd' _ | exact stc_ep' _ | exact stc_vs' _ | exact stc_is' _ | rfl) ?_)
  clear hl a; intro a hl
  refine wl (w_call hl hh rfl trivial rfl cal27 rfl (armW W Z hW) (by repeat (first | exact keeps_nil | apply keeps_cons (by repeat (first | exact find_head | apply find_tail | apply find_skip)) (by first  | rfl) | exact keeps_self | exact keeps_left | apply keeps_app | apply keeps_mv | apply keeps_skip)) trivial ?_)
  clear hl hh a w; intro vc Fc a w hR hl hh
  obtain ⟨rfl, rfl⟩ := hR
  try simp only [List.cons_append, List.nil_append, List.append_assoc, List.append_nil] at hh
  rw [show C W.c 84 = C (WoV.c { W with l := W.l.arm0 }) 84 from congrArg (fun c => C c 84) (wc_same (W := W) (W' := { W with l := W.l.arm0 }) rfl rfl rfl rfl).symm] at hh
  refine w_nil ?_
  have hl2 := hl.add (t := 0) (hl.add (t := 3) (hl.nil) rfl) rfl; clear hl; have hl := hl2; clear hl2
  refine then_normal ?_
  refine c_seq ?_
  refine c_seq ?_
  refine c_region ?_
  refine wl (wl_val hl rfl trivial (r_move hl rfl) ?_)
  clear hl a; intro a hl
  refine wl (wl_val hl rfl trivial (r_nilCheck hl rfl) ?_)
  clear hl a; intro a hl
  refine wl (wl_val hl rfl trivial (r_field hl rfl fld84_1) ?_)
  clear hl a; intro a hl
  refine wl (w_load hl hh rfl trivial one79 rfl (by repeat (first | exact find_head | apply find_tail | apply find_skip)) (by first | exact hcl | exact hcg | exact hcg0 | exact wc_led s.W | exact hcg2 | exact vrc_id x | exact stc_ph' _ | exact stc_fid' _ | exact stc_vd' _ | exact stc_ep' _ | exact stc_vs' _ | exact stc_is' _ | rfl) ?_)
  clear hl a; intro a hl
  refine wl (w_call hl hh rfl trivial rfl cal112 rfl (waitW { W with l := W.l.arm0 } Z hg) (by repeat (first | exact keeps_nil | apply keeps_cons (by repeat (first | exact find_head | apply find_tail | apply find_skip)) (by first  | rfl) | exact keeps_self | exact keeps_left | apply keeps_app | apply keeps_mv | apply keeps_skip)) trivial ?_)
  clear hl hh a w; intro vc Fc a w hR hl hh
  obtain ⟨rfl, rfl⟩ := hR
  try simp only [List.cons_append, List.nil_append, List.append_assoc, List.append_nil] at hh
  first | refine wl (wl_val hl rfl trivial (r_add hl rfl rfl (by simp only [Fits]; omega)) ?_) | refine wl (wl_val hl rfl trivial (r_addW hl rfl rfl) ?_)
  clear hl a; intro a hl
  first | refine wl (wl_val hl rfl trivial (r_mul hl rfl rfl (by simp only [Fits]; omega)) ?_) | refine wl (wl_val hl rfl trivial (r_mulW hl rfl rfl) ?_)
  clear hl a; intro a hl
  rw [show (40 : Int) * ((g.q.length : Int) + 1) = (((40 * (g.q.length + 1)) : Nat) : Int) by omega] at hl
  refine wl (wl_val hl rfl trivial (r_assign hl rfl) ?_)
  clear hl a; intro a hl
  refine w_nil ?_
  have hl2 := hl.add (t := 0) (hl.add (t := 3) (hl.add (t := 4) (hl.nil) rfl) rfl) rfl; clear hl; have hl := hl2; clear hl2
  refine then_normal ?_
  refine wp_block ?_
  obtain ⟨KS0, hKS0, hk⟩ := (hl.add (t := 0) (hl.add (t := 3) (hl.nil) rfl) rfl).name
  obtain ⟨HS0, hHS0, hh2⟩ := hh.nameT (A := []) (U := ((lb, C [.pointer (some ⟨wb, 0, none⟩)] 59) :: ((wb, C (WoV.c { W with l := W.l.arm0 }) 84) :: (WoV.tE { W with l := W.l.arm0 } ++ (WoV.gE { W with l := W.l.arm0 } ++ (DsF (WoV.ds { W with l := W.l.arm0 }) ++ WoV.GF { W with l := W.l.arm0 } Z)))))) ((by repeat (first | exact keeps_nil | apply keeps_cons (by repeat (first | exact find_head | apply find_tail | apply find_skip)) (by first  | rfl) | exact keeps_self | exact keeps_left | apply keeps_app | apply keeps_mv | apply keeps_skip)))
  refine c_loop (α := FLS) (fun s => s.r) (fun s a w => (FLI Z n (40 * (g.q.length + 1)) g.q.length s) ∧ Sl 110 ([(4, .int .i64 (s.r : Int))] ++ KS0) a ∧ Has _ w0 ([] ++ (HS0 ++ ((lb, C [.pointer (some ⟨wb, 0, none⟩)] 59) :: ((wb, C (WoV.c s.W) 84) :: (WoV.tE s.W ++ (WoV.gE s.W ++ (DsF (WoV.ds s.W) ++ WoV.GF s.W s.Zp))))))) w) ⟨(40 * (g.q.length + 1)), { W with l := W.l.arm0 }, Z⟩ ⟨FLI.start hW hn hg hH, hl.addE (t := 4) (hk) rfl (by first | rfl), hh2⟩ ?_
  clear hk hh2 hl hh a w
  intro s a w hI
  obtain ⟨hs, hl, hh⟩ := hI
  subst hKS0; subst hHS0
  simp only [List.cons_append, List.nil_append, List.append_nil, List.append_assoc] at hl hh
  have hsr := hs.rr
  refine c_seq ?_
  refine c_seq ?_
  refine c_region ?_
  refine wl (wl_val hl rfl trivial (r_move hl rfl) ?_)
  clear hl a; intro a hl
  refine wl (wl_val hl rfl trivial (r_gtr hl rfl rfl) ?_)
  clear hl a; intro a hl
  refine w_nil ?_
  have hl2 := hl.add (t := 0) (hl.add (t := 3) (hl.add (t := 4) (hl.add (t := 27) (hl.nil) rfl) rfl) rfl) rfl; clear hl; have hl := hl2; clear hl2
  refine then_normal ?_
  refine c_cond hl rfl ?_ ?_
  · intro hc0
    try simp only [decide_eq_true_eq, decide_eq_false_iff_not, Bool.not_eq_true', Bool.not_eq_false', Bool.not_eq_true, Bool.not_eq_false, Bool.and_eq_true, Bool.or_eq_true, Bool.and_eq_false_iff, Bool.or_eq_false_iff, Bool.not_not, ne_eq, Int.not_lt, Int.not_le, Decidable.not_not, beq_iff_eq, bne_iff_ne] at hc0
    obtain ⟨B, gb1, g1, hg1, hK0, hBn⟩ := hs.rd rfl (by omega)
    have hst := step_tickX (wb := wb) (faL lb wb) s.Zp s.W hs.ok (n + 320 * ((40 * (g.q.length + 1)) - s.r)) (by omega) () [(lb, C [.pointer (some ⟨wb, 0, none⟩)] 59)] rfl hs.w ⟨5, 0, 0, [], ms0, iv0⟩ none 0 (op0_ok _ 5 (by decide)) rfl (R := fun W' _ => FK0 B W') hg1 ⟨(), trivial, hK0⟩
    simp only [WoV.F] at hst
    refine wp_skip ?_
    refine then_normal ?_
    refine c_seq ?_
    refine wp_block ?_
    refine c_seq ?_
    refine c_region ?_
    refine wl (wl_val hl rfl trivial (r_move hl rfl) ?_)
    clear hl a; intro a hl
    refine wl (wl_val hl rfl trivial (r_build hl rfl zero74 bld74 (by simp only [fillL, setL, List.getElem?_cons_zero, List.getElem?_cons_succ, Value.cells, List.take_zero, List.take_succ_cons, List.take_nil, List.drop_zero, List.drop_succ_cons, List.drop_nil, List.length_cons, List.length_nil, List.cons_append, List.nil_append, List.append_nil, Nat.zero_add, Nat.add_zero, Nat.reduceAdd, Nat.reduceBEq, Nat.reduceEqDiff, Nat.ble, BEq.rfl, Bool.and_true, Bool.and_self, cond_true, beq_self_eq_true]; rfl)) ?_)
    clear hl a; intro a hl
    refine wl (wl_val hl rfl trivial (r_move hl rfl) ?_)
    clear hl a; intro a hl
    refine wl (wl_val hl rfl trivial (r_makeInterface hl rfl conc57) ?_)
    clear hl a; intro a hl
    refine wl (w_call hl hh rfl trivial rfl cal15 rfl (hst) (by repeat (first | exact keeps_nil | apply keeps_cons (by repeat (first | exact find_head | apply find_tail | apply find_skip)) (by first  | rfl) | exact keeps_self | exact keeps_left | apply keeps_app | apply keeps_mv | apply keeps_skip)) trivial ?_)
    clear hl hh a w; intro vc Fc a w hR hl hh
    rcases hR with ⟨rfl, W1, G1, F1, x1, hok1, hK1, hw1, hM1, rfl⟩
    ·
      try simp only [List.cons_append, List.nil_append, List.append_nil] at hh
      have hM1 : F1 = [(lb, C [.pointer (some ⟨wb, 0, none⟩)] 59)] := hM1
      subst hM1
      simp only [WoV.F, List.append_assoc, List.cons_append, List.nil_append] at hh
      have hpm := step_pumpX (wb := wb) (faL lb wb) (s.Zp ++ G1) W1 hok1 ((n + 320 * ((40 * (g.q.length + 1)) - s.r)) + 160) (by omega) () [(lb, C [.pointer (some ⟨wb, 0, none⟩)] 59)] rfl hw1 ⟨10, 0, 0, [], ms0, iv0⟩ none 0 (op0_ok _ 10 (by decide)) rfl (faP lb wb B) hK1
      simp only [WoV.F] at hpm
      refine wl (wl_val hl rfl trivial (r_not hl rfl) ?_)
      clear hl a; intro a hl
      refine wl (wl_val hl rfl trivial (r_move hl rfl) ?_)
      clear hl a; intro a hl
      refine wl (wl_val hl rfl ⟨_, _, rfl, rfl, rfl⟩ (r_move hl rfl) ?_)
      clear hl a; intro a hl
      refine wl (wl_val hl rfl ⟨_, _, rfl, rfl, rfl⟩ (r_build hl rfl zero74 bld74 (by simp only [fillL, setL, List.getElem?_cons_zero, List.getElem?_cons_succ, Value.cells, List.take_zero, List.take_succ_cons, List.take_nil, List.drop_zero, List.drop_succ_cons, List.drop_nil, List.length_cons, List.length_nil, List.cons_append, List.nil_append, List.append_nil, Nat.zero_add, Nat.add_zero, Nat.reduceAdd, Nat.reduceBEq, Nat.reduceEqDiff, Nat.ble, BEq.rfl, Bool.and_true, Bool.and_self, cond_true, beq_self_eq_true]; rfl)) ?_)
      clear hl a; intro a hl
      refine wl (wl_val hl rfl ⟨_, _, rfl, rfl, rfl⟩ (r_move hl rfl) ?_)
      clear hl a; intro a hl
      refine wl (wl_val hl rfl ⟨_, _, rfl, rfl, rfl⟩ (r_makeInterface hl rfl conc57) ?_)
      clear hl a; intro a hl
      refine wl (w_call hl hh rfl ⟨_, _, rfl, rfl, rfl⟩ rfl cal15 rfl (hpm) (by repeat (first | exact keeps_nil | apply keeps_cons (by repeat (first | exact find_head | apply find_tail | apply find_skip)) (by first  | rfl) | exact keeps_self | exact keeps_left | apply keeps_app | apply keeps_mv | apply keeps_skip)) trivial ?_)
      clear hl hh a w; intro vc Fc a w hR hl hh
      rcases hR with ⟨rfl, W2, G2, F2, x2, hok2, hK2, hw2, hM2, rfl⟩
      ·
        try simp only [List.cons_append, List.nil_append, List.append_nil] at hh
        have hM2 : F2 = [(lb, C [.pointer (some ⟨wb, 0, none⟩)] 59)] := hM2
        subst hM2
        simp only [WoV.F, List.append_assoc, List.cons_append, List.nil_append] at hh
        rw [← List.append_assoc s.Zp G1 G2] at hh
        refine wl (wl_val hl rfl ⟨_, _, rfl, rfl, rfl⟩ (r_not hl rfl) ?_)
        clear hl a; intro a hl
        refine wl (wl_val hl rfl trivial (r_pickF hl rfl rfl) ?_)
        clear hl a; intro a hl
        refine w_nil ?_
        have hl2 := hl.add (t := 0) (hl.add (t := 3) (hl.add (t := 4) (hl.add (t := 43) (hl.nil) rfl) rfl) rfl) rfl; clear hl; have hl := hl2; clear hl2
        refine then_normal ?_
        refine c_condF hl rfl ?_
        refine wp_skip ?_
        refine blk_normal ?_
        refine then_normal ?_
        refine c_region ?_
        refine wl (wl_val hl rfl trivial (r_move hl rfl) ?_)
        clear hl a; intro a hl
        first | refine wl (wl_val hl rfl trivial (r_sub hl rfl rfl (by simp only [Fits]; omega)) ?_) | refine wl (wl_val hl rfl trivial (r_subW hl rfl rfl) ?_)
        clear hl a; intro a hl
        refine wl (wl_val hl rfl trivial (r_assign hl rfl) ?_)
        clear hl a; intro a hl
        refine w_nil ?_
        have hl2 := hl.add (t := 0) (hl.add (t := 3) (hl.add (t := 4) (hl.nil) rfl) rfl) rfl; clear hl; have hl := hl2; clear hl2
        refine then_normal ?_
        refine ⟨⟨s.r - 1, W2, (s.Zp ++ G1) ++ G2⟩, (by simp only; omega), hs.next (by omega) hBn hok2 hK2 hw2, hl.addE (t := 4) (hl.addE (t := 0) (hl.addE (t := 3) (hl.nil) rfl (by first | rfl | exact congrArg (Value.int .i64) (show (s.r : Int) - 1 = ((s.r - 1 : Nat) : Int) by omega))) rfl (by first | rfl | exact congrArg (Value.int .i64) (show (s.r : Int) - 1 = ((s.r - 1 : Nat) : Int) by omega))) rfl (by first | rfl | exact congrArg (Value.int .i64) (show (s.r : Int) - 1 = ((s.r - 1 : Nat) : Int) by omega)), hh.keep (by repeat (first | exact keeps_nil | apply keeps_cons (by repeat (first | exact find_head | apply find_tail | apply find_skip)) (by first  | rfl) | exact keeps_self | exact keeps_left | apply keeps_app | apply keeps_mv | apply keeps_skip))⟩
  · intro hc0
    try simp only [decide_eq_true_eq, decide_eq_false_iff_not, Bool.not_eq_true', Bool.not_eq_false', Bool.not_eq_true, Bool.not_eq_false, Bool.and_eq_true, Bool.or_eq_true, Bool.and_eq_false_iff, Bool.or_eq_false_iff, Bool.not_not, ne_eq, Int.not_lt, Int.not_le, Decidable.not_not, beq_iff_eq, bne_iff_ne] at hc0
    have hr0 : s.r = 0 := by omega
    obtain ⟨gb2, g2, hg2, hq2, hph2, hHI⟩ := hs.fin rfl hr0
    have hcg2 : (WoV.c s.W)[0 + 1]? = some (.pointer (some ⟨gb2, 0, none⟩)) := by rw [wc_g, hg2]; rfl
    refine wp_exit ?_
    refine then_exit ?_
    refine then_exit ?_
    refine blk_exit ?_
    refine then_normal ?_
    refine c_seq ?_
    refine c_region ?_
    refine wl (wl_val hl rfl trivial (r_move hl rfl) ?_)
    clear hl a; intro a hl
    refine wl (wl_val hl rfl trivial (r_nilCheck hl rfl) ?_)
    clear hl a; intro a hl
    refine wl (wl_val hl rfl trivial (r_field hl rfl fld84_0) ?_)
    clear hl a; intro a hl
    refine wl (w_load hl hh rfl trivial one77 rfl (by repeat (first | exact find_head | apply find_tail | apply find_skip)) (by first | exact hcl | exact hcg | exact hcg0 | exact wc_led s.W | exact hcg2 | exact vrc_id x | exact stc_ph' _ | exact stc_fid' _ | exact stc_vd' _ | exact stc_ep' _ | exact stc_vs' _ | exact stc_is' _ | rfl) ?_)
    clear hl a; intro a hl
    refine wl (w_call hl hh rfl trivial rfl cal16 rfl (durW s.W s.Zp hs.ok) (by repeat (first | exact keeps_nil | apply keeps_cons (by repeat (first | exact find_head | apply find_tail | apply find_skip)) (by first  | rfl) | exact keeps_self | exact keeps_left | apply keeps_app | apply keeps_mv | apply keeps_skip)) trivial ?_)
    clear hl hh a w; intro vc Fc a w hR hl hh
    obtain ⟨s1, hs1, hps1, rfl, rfl⟩ := hR
    try simp only [List.cons_append, List.nil_append, List.append_assoc, List.append_nil] at hh
    try simp only [List.append_assoc] at hh
    have hv1 := hs1.v1; have hvl := hs1.vl
    obtain ⟨x, hx⟩ : ∃ x, s1.vs[s1.vs.length - 1]? = some x := ⟨_, List.getElem?_eq_getElem (by omega)⟩
    have hxo := hs1.vo x (List.mem_of_getElem? hx)
    obtain ⟨b1, j1, hq1, hjl1, hjc1, hE1⟩ := row_pos hs1.v (by omega)
    have hmem1 : (b1, C (fl vrc s1.vs ++ j1) 93) ∈ s1.E := inE_v (by rw [hE1]; exact List.mem_singleton.2 rfl)
    have hd1 := fl_at vrc_len hx j1
    have hd2 := vr_id hx j1
    have hld := ldV_at hx
    rw [hps1] at hld
    have hph1 : s1.ph = 0 := (congrArg StP.ph hps1).trans hph2
    refine wl (w_alloc hl hh rfl trivial zero48 rfl ?_)
    clear hl hh a w; intro k5 a w hl hh
    refine wl (w_storeA hl hh trivial agg48 rfl rfl (by repeat (first | exact find_head | apply find_tail | apply find_skip)) (by exact stc_len _) (by exact Nat.le_refl 70) (by exact stc_one _) (by exact setL_all (show 70 = _ from (stc_len _).symm)) ?_)
    clear hh w; intro w hh
    refine w_nil ?_
    have hl2 := hl.add (t := 3) (hl.add (t := 5) (hl.nil) rfl) rfl; clear hl; have hl := hl2; clear hl2
    refine then_normal ?_
    refine c_seq ?_
    refine c_region ?_
    refine wl (wl_val hl rfl trivial (r_field hl rfl fld48_1) ?_)
    clear hl a; intro a hl
    refine wl (w_load hl hh rfl trivial one32 rfl (by repeat (first | exact find_head | apply find_tail | apply find_skip)) (by first | exact hcl | exact hcg | exact hcg0 | exact wc_led s.W | exact hcg2 | exact vrc_id x | exact stc_ph' _ | exact stc_fid' _ | exact stc_vd' _ | exact stc_ep' _ | exact stc_vs' _ | exact stc_is' _ | rfl) ?_)
    clear hl a; intro a hl
    rw [hq1] at hl
    refine wl (wl_val hl rfl trivial (r_field hl rfl fld48_1) ?_)
    clear hl a; intro a hl
    refine wl (w_load hl hh rfl trivial one32 rfl (by repeat (first | exact find_head | apply find_tail | apply find_skip)) (by first | exact hcl | exact hcg | exact hcg0 | exact wc_led s.W | exact hcg2 | exact vrc_id x | exact stc_ph' _ | exact stc_fid' _ | exact stc_vd' _ | exact stc_ep' _ | exact stc_vs' _ | exact stc_is' _ | rfl) ?_)
    clear hl a; intro a hl
    rw [hq1] at hl
    refine wl (wl_val hl rfl trivial (r_lenS hl rfl slc32) ?_)
    clear hl a; intro a hl
    first | refine wl (wl_val hl rfl trivial (r_sub hl rfl rfl (by simp only [Fits]; omega)) ?_) | refine wl (wl_val hl rfl trivial (r_subW hl rfl rfl) ?_)
    clear hl a; intro a hl
    rw [show (s1.vs.length : Int) - 1 = ((s1.vs.length - 1 : Nat) : Int) by omega] at hl
    refine wl (wl_val hl rfl trivial (r_indexS hl rfl rfl slc32 (by omega) (by omega) (by first | (simp only [Int.reduceToNat]; rfl) | exact toNat_add1 _ | exact toNat_add2 _ _ | exact toNat_emod _ _ | exact Int.toNat_natCast _ | rfl)) ?_)
    clear hl a; intro a hl
    first | refine wl (w_loadA hl hh rfl trivial agg93 rfl (by repeat (first | exact find_head | apply find_tail | apply find_skip)) (by exact hd1) (by exact vrc_len _) ?_) | refine wl (wl_val hl rfl trivial (r_loadA hl rfl agg93 (hh.mem _ _ (by repeat (first | exact hmem1 | exact List.mem_append_left _ hmem1 | apply List.mem_cons_of_mem | apply List.mem_append_right))) hd1 (vrc_len _)) ?_)
    clear hl a; intro a hl
    refine wl (w_alloc hl hh rfl trivial zero93 rfl ?_)
    clear hl hh a w; intro k6 a w hl hh
    refine wl (w_storeA hl hh trivial agg93 rfl rfl (by repeat (first | exact find_head | apply find_tail | apply find_skip)) (by exact vrc_len _) (by exact Nat.le_refl 65) (by exact vrc_one _) (by exact setL_all (show 65 = _ from (vrc_len _).symm)) ?_)
    clear hh w; intro w hh
    refine w_nil ?_
    have hl2 := hl.add (t := 3) (hl.add (t := 5) (hl.add (t := 6) (hl.nil) rfl) rfl) rfl; clear hl; have hl := hl2; clear hl2
    refine then_normal ?_
    refine c_seq ?_
    refine c_seq ?_
    refine c_region ?_
    refine wl (wl_val hl rfl trivial (r_move hl rfl) ?_)
    clear hl a; intro a hl
    refine wl (wl_val hl rfl trivial (r_nilCheck hl rfl) ?_)
    clear hl a; intro a hl
    refine wl (wl_val hl rfl trivial (r_field hl rfl fld84_1) ?_)
    clear hl a; intro a hl
    refine wl (w_load hl hh rfl trivial one79 rfl (by repeat (first | exact find_head | apply find_tail | apply find_skip)) (by first | exact hcl | exact hcg | exact hcg0 | exact wc_led s.W | exact hcg2 | exact vrc_id x | exact stc_ph' _ | exact stc_fid' _ | exact stc_vd' _ | exact stc_ep' _ | exact stc_vs' _ | exact stc_is' _ | rfl) ?_)
    clear hl a; intro a hl
    refine wl (wl_val hl rfl trivial (r_eql_pointer hl rfl rfl ptr79) ?_)
    clear hl a; intro a hl
    refine wl (wl_val hl rfl trivial (r_move hl rfl) ?_)
    clear hl a; intro a hl
    refine wl (wl_val hl rfl ⟨_, _, rfl, rfl, rfl⟩ (r_move hl rfl) ?_)
    clear hl a; intro a hl
    refine wl (wl_val hl rfl ⟨_, _, rfl, rfl, rfl⟩ (r_nilCheck hl rfl) ?_)
    clear hl a; intro a hl
    refine wl (wl_val hl rfl ⟨_, _, rfl, rfl, rfl⟩ (r_field hl rfl fld84_1) ?_)
    clear hl a; intro a hl
    refine wl (w_load hl hh rfl ⟨_, _, rfl, rfl, rfl⟩ one79 rfl (by repeat (first | exact find_head | apply find_tail | apply find_skip)) (by first | exact hcl | exact hcg | exact hcg0 | exact wc_led s.W | exact hcg2 | exact vrc_id x | exact stc_ph' _ | exact stc_fid' _ | exact stc_vd' _ | exact stc_ep' _ | exact stc_vs' _ | exact stc_is' _ | rfl) ?_)
    clear hl a; intro a hl
    refine wl (w_call hl hh rfl ⟨_, _, rfl, rfl, rfl⟩ rfl cal112 rfl (waitW s.W s.Zp hg2) (by repeat (first | exact keeps_nil | apply keeps_cons (by repeat (first | exact find_head | apply find_tail | apply find_skip)) (by first  | rfl) | exact keeps_self | exact keeps_left | apply keeps_app | apply keeps_mv | apply keeps_skip)) trivial ?_)
    clear hl hh a w; intro vc Fc a w hR hl hh
    obtain ⟨rfl, rfl⟩ := hR
    try simp only [List.cons_append, List.nil_append, List.append_assoc, List.append_nil] at hh
    refine wl (wl_val hl rfl ⟨_, _, rfl, rfl, rfl⟩ (r_neq hl rfl rfl) ?_)
    clear hl a; intro a hl
    rw [decide_eq_false (show ¬ ((g2.q.length : Int) ≠ 0) by omega)] at hl
    refine wl (wl_val hl rfl trivial (r_pickF hl rfl rfl) ?_)
    clear hl a; intro a hl
    refine wl (wl_val hl rfl trivial (r_move hl rfl) ?_)
    clear hl a; intro a hl
    refine wl (wl_val hl rfl ⟨_, _, rfl, rfl, rfl⟩ (r_field hl rfl fld48_3) ?_)
    clear hl a; intro a hl
    refine wl (wl_val hl rfl ⟨_, _, rfl, rfl, rfl⟩ (r_field hl rfl fld45_1) ?_)
    clear hl a; intro a hl
    refine wl (w_load hl hh rfl ⟨_, _, rfl, rfl, rfl⟩ one34 rfl (by repeat (first | exact find_head | apply find_tail | apply find_skip)) (by first | exact hcl | exact hcg | exact hcg0 | exact wc_led s.W | exact hcg2 | exact vrc_id x | exact stc_ph' _ | exact stc_fid' _ | exact stc_vd' _ | exact stc_ep' _ | exact stc_vs' _ | exact stc_is' _ | rfl) ?_)
    clear hl a; intro a hl
    refine wl (wl_val hl rfl ⟨_, _, rfl, rfl, rfl⟩ (r_neq hl rfl rfl) ?_)
    clear hl a; intro a hl
    rw [decide_eq_false (show ¬ (s1.ph ≠ 0) by omega)] at hl
    refine wl (wl_val hl rfl trivial (r_pickF hl rfl rfl) ?_)
    clear hl a; intro a hl
    refine w_nil ?_
    have hl2 := hl.add (t := 3) (hl.add (t := 6) (hl.add (t := 75) (hl.nil) rfl) rfl) rfl; clear hl; have hl := hl2; clear hl2
    refine then_normal ?_
    refine c_condF hl rfl ?_
    refine wp_skip ?_
    refine then_normal ?_
    refine c_seq ?_
    refine c_seq ?_
    refine c_region ?_
    refine wl (wl_val hl rfl trivial (r_move hl rfl) ?_)
    clear hl a; intro a hl
    refine wl (wl_val hl rfl trivial (r_nilCheck hl rfl) ?_)
    clear hl a; intro a hl
    refine wl (wl_val hl rfl trivial (r_field hl rfl fld84_2) ?_)
    clear hl a; intro a hl
    first | refine wl (w_loadA hl hh rfl trivial agg81 rfl (by repeat (first | exact find_head | apply find_tail | apply find_skip)) (by exact wc_ds s.W hs.ok.dl) (by (unfold dsC; rw [List.length_map, hs.ok.dl])) ?_) | refine wl (wl_val hl rfl trivial (r_loadA hl rfl agg81 (hh.mem _ _ (by repeat (first | exact hmem1 | exact List.mem_append_left _ hmem1 | apply List.mem_cons_of_mem | apply List.mem_append_right))) hd1 (vrc_len _)) ?_)
    clear hl a; intro a hl
    refine wl (wl_val hl rfl trivial (r_move hl rfl) ?_)
    clear hl a; intro a hl
    refine w_nil ?_
    have hl2 := hl.add (t := 6) (hl.add (t := 79) (hl.add (t := 80) (hl.nil) rfl) rfl) rfl; clear hl; have hl := hl2; clear hl2
    refine then_normal ?_
    refine wp_block ?_
    obtain ⟨KS1, hKS1, hk⟩ := (hl.add (t := 6) (hl.add (t := 79) (hl.nil) rfl) rfl).name
    obtain ⟨HS1, hHS1, hh2⟩ := hh.name (keeps_nil)
    refine c_loop (α := Nat) (fun i => 16 - i) (fun i a w => (i ≤ 16) ∧ Sl 110 ([(80, .int .i64 (i : Int))] ++ KS1) a ∧ Has _ w0 ([] ++ HS1) w) 0 ⟨Nat.zero_le _, hl.addE (t := 80) (hk) rfl (by first | rfl), hh2⟩ ?_
    clear hk hh2 hl hh a w
    intro i a w hI
    obtain ⟨hi, hl, hh⟩ := hI
    subst hKS1; subst hHS1
    simp only [List.cons_append, List.nil_append, List.append_nil, List.append_assoc] at hl hh
    refine c_seq ?_
    refine c_region ?_
    refine wl (wl_val hl rfl trivial (r_lss hl rfl rfl) ?_)
    clear hl a; intro a hl
    refine w_nil ?_
    have hl2 := hl.add (t := 6) (hl.add (t := 79) (hl.add (t := 80) (hl.add (t := 81) (hl.nil) rfl) rfl) rfl) rfl; clear hl; have hl := hl2; clear hl2
    refine then_normal ?_
    refine c_seq ?_
    refine c_cond hl rfl ?_ ?_
    · intro hc3
      try simp only [decide_eq_true_eq, decide_eq_false_iff_not, Bool.not_eq_true', Bool.not_eq_false', Bool.not_eq_true, Bool.not_eq_false, Bool.and_eq_true, Bool.or_eq_true, Bool.and_eq_false_iff, Bool.or_eq_false_iff, Bool.not_not, ne_eq, Int.not_lt, Int.not_le, Decidable.not_not, beq_iff_eq, bne_iff_ne] at hc3
      obtain ⟨⟨db, d9⟩, hx9⟩ : ∃ x9, s.W.ds[i]? = some x9 := ⟨_, List.getElem?_eq_getElem (by have := hs.ok.dl; omega)⟩
      have hmD := dsF_in hx9
      have hdv := hHI.h.dev i d9.pl (by show (s.W.ds.map (fun x => x.2.pl))[i]? = _; rw [List.getElem?_map, hx9]; rfl)
      have hsg : d9.sg = 0 := hdv.sg.resolve_right (fun h9 => h9.1 hph2)
      have hrn := hdv.rn.resolve_right (fun h9 => by have h8 : s.W.l.pl.d.ph = 2 := h9.1; omega)
      rw [show ldV (s.W.pl [] []).l.d = _ from hld] at hrn
      have hr1 : d9.rn = x.id := hrn.1
      have hr2 : d9.rs = slP x.n.pl i := hrn.2
      refine wp_skip ?_
      refine then_normal ?_
      refine c_seq ?_
      refine wp_block ?_
      refine c_seq ?_
      refine c_region ?_
      refine wl (wl_val hl rfl trivial (r_move hl rfl) ?_)
      clear hl a; intro a hl
      refine wl (wl_val hl rfl trivial (r_indexAgg hl rfl rfl arrT81 one80 (by omega) (by omega) (by first | (simp only [Int.reduceToNat]; rfl) | exact toNat_add1 _ | exact toNat_add2 _ _ | exact toNat_emod _ _ | exact Int.toNat_natCast _ | rfl) (by exact dsC_at hx9)) ?_)
      clear hl a; intro a hl
      refine wl (wl_val hl rfl trivial (r_assign hl rfl) ?_)
      clear hl a; intro a hl
      refine wl (wl_val hl rfl trivial (r_assign hl rfl) ?_)
      clear hl a; intro a hl
      refine w_nil ?_
      have hl2 := hl.add (t := 6) (hl.add (t := 7) (hl.add (t := 8) (hl.add (t := 79) (hl.add (t := 80) (hl.nil) rfl) rfl) rfl) rfl) rfl; clear hl; have hl := hl2; clear hl2
      refine then_normal ?_
      refine c_seq ?_
      refine c_draw [(k6, C (vrc x) 93), (db, C (DeV.c d9) 97)] [23, 24] mixed hh ?_
      clear hh w; intro w hh
      have hM : Mem [(k6, C (vrc x) 93), (db, C (DeV.c d9) 97)] w := (fun b o m => by rcases List.mem_append.1 (show (b, o) ∈ [(k6, C (vrc x) 93)] ++ [(db, C (DeV.c d9) 97)] from m) with m | m; exact memK (E := [(k6, C (vrc x) 93)]) hh (by repeat (first | exact keeps_nil | apply keeps_cons (by repeat (first | exact find_head | apply find_tail | apply find_skip)) (by first  | rfl) | exact keeps_self | exact keeps_left | apply keeps_app | apply keeps_mv | apply keeps_skip)) b o m; exact memK (E := DsF s.W.ds) hh (by repeat (first | exact keeps_nil | apply keeps_cons (by repeat (first | exact find_head | apply find_tail | apply find_skip)) (by first  | rfl) | exact keeps_self | exact keeps_left | apply keeps_app | apply keeps_mv | apply keeps_skip)) b o (by rw [List.mem_singleton.1 m]; exact hmD))
      refine d_take (i := 0) hl rfl (by kernel_rfl) (by kernel_rfl) (by kernel_rfl) (by kernel_rfl) (by kernel_rfl) rfl trivial (fun _ _ _ h => h) hM (fun w hC => r_move hl rfl) rfl ?_
      clear hl a; intro a hl
      refine d_take (i := 1) hl rfl (by kernel_rfl) (by kernel_rfl) (by kernel_rfl) (by kernel_rfl) (by kernel_rfl) rfl trivial (fun _ _ _ h => h) hM (fun w hC => r_nilCheck hl rfl) rfl ?_
      clear hl a; intro a hl
      refine d_take (i := 2) hl rfl (by kernel_rfl) (by kernel_rfl) (by kernel_rfl) (by kernel_rfl) (by kernel_rfl) rfl trivial (fun _ _ _ h => h) hM (fun w hC => r_field hl rfl fld97_4) rfl ?_
      clear hl a; intro a hl
      refine d_take (i := 3) hl rfl (by kernel_rfl) (by kernel_rfl) (by kernel_rfl) (by kernel_rfl) (by kernel_rfl) rfl trivial (fun _ _ _ h => h) hM (fun w hC => r_loadC hl rfl one31 hC (by repeat (first | exact find_head | apply find_tail | apply find_skip)) (by first | exact hcl | exact hcg | exact hcg0 | exact wc_led s.W | exact hcg2 | exact vrc_id x | exact stc_ph' _ | exact stc_fid' _ | exact stc_vd' _ | exact stc_ep' _ | exact stc_vs' _ | exact stc_is' _ | rfl)) rfl ?_
      clear hl a; intro a hl
      refine d_take (i := 4) hl rfl (by kernel_rfl) (by kernel_rfl) (by kernel_rfl) (by kernel_rfl) (by kernel_rfl) rfl trivial (fun _ _ _ h => h) hM (fun w hC => r_neq hl rfl rfl) rfl ?_
      clear hl a; intro a hl
      rw [decide_eq_false (show ¬ (d9.sg ≠ 0) by omega)] at hl
      refine d_take (i := 5) hl rfl (by kernel_rfl) (by kernel_rfl) (by kernel_rfl) (by kernel_rfl) (by kernel_rfl) rfl trivial (fun _ _ _ h => h) hM (fun w hC => r_move hl rfl) rfl ?_
      clear hl a; intro a hl
      refine d_take (i := 6) hl rfl (by kernel_rfl) (by kernel_rfl) (by kernel_rfl) (by kernel_rfl) (by kernel_rfl) rfl ⟨_, _, rfl, rfl, rfl⟩ (fun _ _ _ h => h) hM (fun w hC => r_move hl rfl) rfl ?_
      clear hl a; intro a hl
      refine d_take (i := 7) hl rfl (by kernel_rfl) (by kernel_rfl) (by kernel_rfl) (by kernel_rfl) (by kernel_rfl) rfl ⟨_, _, rfl, rfl, rfl⟩ (fun _ _ _ h => h) hM (fun w hC => r_nilCheck hl rfl) rfl ?_
      clear hl a; intro a hl
      refine d_take (i := 8) hl rfl (by kernel_rfl) (by kernel_rfl) (by kernel_rfl) (by kernel_rfl) (by kernel_rfl) rfl ⟨_, _, rfl, rfl, rfl⟩ (fun _ _ _ h => h) hM (fun w hC => r_field hl rfl fld97_2) rfl ?_
      clear hl a; intro a hl
      refine d_take (i := 9) hl rfl (by kernel_rfl) (by kernel_rfl) (by kernel_rfl) (by kernel_rfl) (by kernel_rfl) rfl ⟨_, _, rfl, rfl, rfl⟩ (fun _ _ _ h => h) hM (fun w hC => r_loadC hl rfl one31 hC (by repeat (first | exact find_head | apply find_tail | apply find_skip)) (by first | exact hcl | exact hcg | exact hcg0 | exact wc_led s.W | exact hcg2 | exact vrc_id x | exact stc_ph' _ | exact stc_fid' _ | exact stc_vd' _ | exact stc_ep' _ | exact stc_vs' _ | exact stc_is' _ | rfl)) rfl ?_
      clear hl a; intro a hl
      refine d_take (i := 10) hl rfl (by kernel_rfl) (by kernel_rfl) (by kernel_rfl) (by kernel_rfl) (by kernel_rfl) rfl ⟨_, _, rfl, rfl, rfl⟩ (fun _ _ _ h => h) hM (fun w hC => r_field hl rfl fld93_0) rfl ?_
      clear hl a; intro a hl
      refine d_take (i := 11) hl rfl (by kernel_rfl) (by kernel_rfl) (by kernel_rfl) (by kernel_rfl) (by kernel_rfl) rfl ⟨_, _, rfl, rfl, rfl⟩ (fun _ _ _ h => h) hM (fun w hC => r_loadC hl rfl one31 hC (by repeat (first | exact find_head | apply find_tail | apply find_skip)) (by first | exact hcl | exact hcg | exact hcg0 | exact wc_led s.W | exact hcg2 | exact vrc_id x | exact stc_ph' _ | exact stc_fid' _ | exact stc_vd' _ | exact stc_ep' _ | exact stc_vs' _ | exact stc_is' _ | rfl)) rfl ?_
      clear hl a; intro a hl
      refine d_take (i := 12) hl rfl (by kernel_rfl) (by kernel_rfl) (by kernel_rfl) (by kernel_rfl) (by kernel_rfl) rfl ⟨_, _, rfl, rfl, rfl⟩ (fun _ _ _ h => h) hM (fun w hC => r_neq hl rfl rfl) rfl ?_
      clear hl a; intro a hl
      rw [decide_eq_false (show ¬ (d9.rn ≠ x.id) by omega)] at hl
      refine d_take (i := 13) hl rfl (by kernel_rfl) (by kernel_rfl) (by kernel_rfl) (by kernel_rfl) (by kernel_rfl) rfl trivial (fun _ _ _ h => h) hM (fun w hC => r_pickF hl rfl rfl) rfl ?_
      clear hl a; intro a hl
      refine d_take (i := 14) hl rfl (by kernel_rfl) (by kernel_rfl) (by kernel_rfl) (by kernel_rfl) (by kernel_rfl) rfl trivial (fun _ _ _ h => h) hM (fun w hC => r_move hl rfl) rfl ?_
      clear hl a; intro a hl
      refine d_take (i := 15) hl rfl (by kernel_rfl) (by kernel_rfl) (by kernel_rfl) (by kernel_rfl) (by kernel_rfl) rfl ⟨_, _, rfl, rfl, rfl⟩ (fun _ _ _ h => h) hM (fun w hC => r_move hl rfl) rfl ?_
      clear hl a; intro a hl
      refine d_take (i := 16) hl rfl (by kernel_rfl) (by kernel_rfl) (by kernel_rfl) (by kernel_rfl) (by kernel_rfl) rfl ⟨_, _, rfl, rfl, rfl⟩ (fun _ _ _ h => h) hM (fun w hC => r_nilCheck hl rfl) rfl ?_
      clear hl a; intro a hl
      refine d_take (i := 17) hl rfl (by kernel_rfl) (by kernel_rfl) (by kernel_rfl) (by kernel_rfl) (by kernel_rfl) rfl ⟨_, _, rfl, rfl, rfl⟩ (fun _ _ _ h => h) hM (fun w hC => r_field hl rfl fld97_3) rfl ?_
      clear hl a; intro a hl
      refine d_take (i := 18) hl rfl (by kernel_rfl) (by kernel_rfl) (by kernel_rfl) (by kernel_rfl) (by kernel_rfl) rfl ⟨_, _, rfl, rfl, rfl⟩ (fun _ _ _ h => h) hM (fun w hC => r_loadC hl rfl one9 hC (by repeat (first | exact find_head | apply find_tail | apply find_skip)) (by first | exact hcl | exact hcg | exact hcg0 | exact wc_led s.W | exact hcg2 | exact vrc_id x | exact stc_ph' _ | exact stc_fid' _ | exact stc_vd' _ | exact stc_ep' _ | exact stc_vs' _ | exact stc_is' _ | rfl)) rfl ?_
      clear hl a; intro a hl
      refine d_take (i := 19) hl rfl (by kernel_rfl) (by kernel_rfl) (by kernel_rfl) (by kernel_rfl) (by kernel_rfl) rfl ⟨_, _, rfl, rfl, rfl⟩ (fun _ _ _ h => h) hM (fun w hC => r_field hl rfl fld93_1) rfl ?_
      clear hl a; intro a hl
      refine d_take (i := 20) hl rfl (by kernel_rfl) (by kernel_rfl) (by kernel_rfl) (by kernel_rfl) (by kernel_rfl) rfl ⟨_, _, rfl, rfl, rfl⟩ (fun _ _ _ h => h) hM (fun w hC => r_loadCA hl rfl agg43 hC (by repeat (first | exact find_head | apply find_tail | apply find_skip)) (by exact vrc_nt x) (by exact ntk_len _)) rfl ?_
      clear hl a; intro a hl
      rw [ntk_eq hxo.1] at hl
      refine d_take (i := 21) hl rfl (by kernel_rfl) (by kernel_rfl) (by kernel_rfl) (by kernel_rfl) (by kernel_rfl) rfl ⟨_, _, rfl, rfl, rfl⟩ (fun _ _ _ h => h) hM (fun w hC => r_move hl rfl) rfl ?_
      clear hl a; intro a hl
      refine d_one (i := 22) (by kernel_rfl) rfl ?_
      try clear hM
      refine id (w_call hl hh rfl ⟨_, _, rfl, rfl, rfl⟩ rfl cal12 rfl (slice_spec s.Zp x.n hxo.1 i (by omega)) (by repeat (first | exact keeps_nil | apply keeps_cons (by repeat (first | exact find_head | apply find_tail | apply find_skip)) (by first  | rfl) | exact keeps_self | exact keeps_left | apply keeps_app | apply keeps_mv | apply keeps_skip)) (fun b o m => memK (E := WoV.GF s.W s.Zp) hh (by repeat (first | exact keeps_nil | apply keeps_cons (by repeat (first | exact find_head | apply find_tail | apply find_skip)) (by first  | rfl) | exact keeps_self | exact keeps_left | apply keeps_app | apply keeps_mv | apply keeps_skip)) b o (gf_mem m)) ?_)
      clear hl hh a w; intro vc Fc a w hR hl hh
      obtain ⟨rfl, rfl⟩ := hR
      try simp only [List.cons_append, List.nil_append, List.append_assoc, List.append_nil] at hh
      have hM : Mem [(k6, C (vrc x) 93), (db, C (DeV.c d9) 97)] w := (fun b o m => by rcases List.mem_append.1 (show (b, o) ∈ [(k6, C (vrc x) 93)] ++ [(db, C (DeV.c d9) 97)] from m) with m | m; exact memK (E := [(k6, C (vrc x) 93)]) hh (by repeat (first | exact keeps_nil | apply keeps_cons (by repeat (first | exact find_head | apply find_tail | apply find_skip)) (by first  | rfl) | exact keeps_self | exact keeps_left | apply keeps_app | apply keeps_mv | apply keeps_skip)) b o m; exact memK (E := DsF s.W.ds) hh (by repeat (first | exact keeps_nil | apply keeps_cons (by repeat (first | exact find_head | apply find_tail | apply find_skip)) (by first  | rfl) | exact keeps_self | exact keeps_left | apply keeps_app | apply keeps_mv | apply keeps_skip)) b o (by rw [List.mem_singleton.1 m]; exact hmD))
      refine d_step (fun _ => hM) ?_
      refine d_takeL (i := 23) hl rfl (by kernel_rfl) (by kernel_rfl) (by kernel_rfl) (by kernel_rfl) (by kernel_rfl) rfl ⟨_, _, rfl, rfl, rfl⟩ (fun _ _ _ h => h) (fun w => r_neq_string hl rfl rfl) rfl ?_
      clear hl a; intro a hl
      refine d_takeL (i := 24) hl rfl (by kernel_rfl) (by kernel_rfl) (by kernel_rfl) (by kernel_rfl) (by kernel_rfl) rfl trivial (fun _ _ _ h => h) (fun w => r_pickF hl rfl rfl) rfl ?_
      clear hl a; intro a hl
      refine d_done (by kernel_rfl) ?_
      try clear hM
      have hl2 := hl.add (t := 6) (hl.add (t := 79) (hl.add (t := 80) (hl.add (t := 108) (hl.nil) rfl) rfl) rfl) rfl; clear hl; have hl := hl2; clear hl2
      refine then_normal ?_
      refine c_cond hl rfl ?_ ?_
      · intro hc4
        try simp only [decide_eq_true_eq, decide_eq_false_iff_not, Bool.not_eq_true', Bool.not_eq_false', Bool.not_eq_true, Bool.not_eq_false, Bool.and_eq_true, Bool.or_eq_true, Bool.and_eq_false_iff, Bool.or_eq_false_iff, Bool.not_not, ne_eq, Int.not_lt, Int.not_le, Decidable.not_not, beq_iff_eq, bne_iff_ne] at hc4
        exfalso; rw [hr2] at hc4; simp at hc4
      · intro hc4
        try simp only [decide_eq_true_eq, decide_eq_false_iff_not, Bool.not_eq_true', Bool.not_eq_false', Bool.not_eq_true, Bool.not_eq_false, Bool.and_eq_true, Bool.or_eq_true, Bool.and_eq_false_iff, Bool.or_eq_false_iff, Bool.not_not, ne_eq, Int.not_lt, Int.not_le, Decidable.not_not, beq_iff_eq, bne_iff_ne] at hc4
        refine wp_skip ?_
        refine blk_normal ?_
        refine then_normal ?_
        refine c_region ?_
        first | refine wl (wl_val hl rfl trivial (r_add hl rfl rfl (by simp only [Fits]; omega)) ?_) | refine wl (wl_val hl rfl trivial (r_addW hl rfl rfl) ?_)
        clear hl a; intro a hl
        refine wl (wl_val hl rfl trivial (r_move hl rfl) ?_)
        clear hl a; intro a hl
        refine w_nil ?_
        have hl2 := hl.add (t := 6) (hl.add (t := 79) (hl.add (t := 80) (hl.nil) rfl) rfl) rfl; clear hl; have hl := hl2; clear hl2
        refine then_normal ?_
        refine ⟨i + 1, (by omega), (by omega), hl.addE (t := 80) (hl.addE (t := 6) (hl.addE (t := 79) (hl.nil) rfl (by first | rfl | exact congrArg (Value.int .i64) (show (i : Int) + 1 = ((i + 1 : Nat) : Int) by omega))) rfl (by first | rfl | exact congrArg (Value.int .i64) (show (i : Int) + 1 = ((i + 1 : Nat) : Int) by omega))) rfl (by first | rfl | exact congrArg (Value.int .i64) (show (i : Int) + 1 = ((i + 1 : Nat) : Int) by omega)), hh.keep (by repeat (first | exact keeps_nil | apply keeps_cons (by repeat (first | exact find_head | apply find_tail | apply find_skip)) (by first  | rfl) | exact keeps_self | exact keeps_left | apply keeps_app | apply keeps_mv | apply keeps_skip))⟩
    · intro hc3
      try simp only [decide_eq_true_eq, decide_eq_false_iff_not, Bool.not_eq_true', Bool.not_eq_false', Bool.not_eq_true, Bool.not_eq_false, Bool.and_eq_true, Bool.or_eq_true, Bool.and_eq_false_iff, Bool.or_eq_false_iff, Bool.not_not, ne_eq, Int.not_lt, Int.not_le, Decidable.not_not, beq_iff_eq, bne_iff_ne] at hc3
      refine wp_exit ?_
      refine then_exit ?_
      refine then_exit ?_
      refine blk_exit ?_
      refine then_normal ?_
      refine c_seq ?_
      refine c_region ?_
      refine wl (wl_val hl rfl trivial (r_assign hl rfl) ?_)
      clear hl a; intro a hl
      refine w_nil ?_
      have hl2 := hl.add (t := 2) (hl.nil) rfl; clear hl; have hl := hl2; clear hl2
      refine then_normal ?_
      refine wp_ret ?_
      obtain ⟨G9, hz9⟩ := hs.z
      refine f_ret1 (F' := ((lb, C [.pointer (some ⟨wb, 0, none⟩)] 59) :: ((wb, C (WoV.c s.W) 84) :: (WoV.tE s.W ++ (WoV.gE s.W ++ (DsF (WoV.ds s.W) ++ WoV.GF s.W s.Zp)))))) hl hh rfl rfl (by repeat (first | exact keeps_nil | apply keeps_cons (by repeat (first | exact find_head | apply find_tail | apply find_skip)) (by first  | rfl) | exact keeps_self | exact keeps_left | apply keeps_app | apply keeps_mv | apply keeps_skip)) ?_
      exact ⟨rfl, [(lb, C [.pointer (some ⟨wb, 0, none⟩)] 59)], s.W, G9, by rw [← hz9]; rfl⟩
end Go.Proofs.Qxb6500908a

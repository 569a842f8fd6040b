import Derived.Test.Qxb6500908aGreatW10
namespace Go.Proofs.Qxb6500908aGreat
open Go.Eng
set_option linter.unusedVariables false
set_option linter.unusedSimpArgs false
theorem cal67 : callable Tryz.prog 67 = true := by kernel_rfl
theorem cal66 : callable Tryz.prog 66 = true := by kernel_rfl
theorem apply2 (Z : List (Nat × Obj)) (n : NtV) (hn : n.ok Z) (x : Bt) (hx : x.ok Z) : SpK Tryz.prog 66 #[.agg ⟨n.c⟩, .agg ⟨[.int .u32 x.id, .slice x.p x.cs.length x.c]⟩] (Mem Z) [] (fun v F' => ∃ (n' : NtV) (bo : Bool), n'.ok (Z ++ F') ∧ (apP n.pl x.cs = if bo then some n'.pl else none) ∧ v = .tuple #[.agg ⟨n'.c⟩, .bool bo]) := by
  obtain ⟨E, hE, hZ⟩ := hx.r
  have h := apply_spec Z n hn x.id x.cs hx.d x.p x.c E hE (by have := hx.l; omega)
  intro w hw hM hnd
  refine (h w ⟨hw, hZ.mem hw⟩ hM hnd).mono ?_
  intro e w' he
  cases e with
  | returned v =>
    obtain ⟨F', h1, h2⟩ := he
    refine ⟨F', ?_, h2⟩
    rcases h1 with ⟨a1, a2, rfl⟩ | ⟨n', a1, a2, a3⟩
    · exact ⟨n, false, hn.app, by rw [a1]; rfl, a2⟩
    · exact ⟨n', true, a2.appR, by rw [a1]; rfl, a3⟩
  | panicked c => exact he.elim
  | outgrown => exact he.elim
def vcP (g : GtP) (cs : List Ch) : Int := match apP (lastV g) cs with
  | none => 9
  | some n => if chkP n g.st.is then 0 else 10
theorem vc_9 {g : GtP} {cs : List Ch} (h : apP (lastV g) cs = none) : vcP g cs = 9 := by unfold vcP; rw [h]
theorem vc_0 {g : GtP} {cs : List Ch} {n : NtP} (h : apP (lastV g) cs = some n) (h2 : chkP n g.st.is = true) : vcP g cs = 0 := by unfold vcP; rw [h]; simp only; rw [if_pos h2]
theorem vc_10 {g : GtP} {cs : List Ch} {n : NtP} (h : apP (lastV g) cs = some n) (h2 : chkP n g.st.is = false) : vcP g cs = 10 := by unfold vcP; rw [h]; simp only; rw [if_neg (by rw [h2]; simp)]

attribute [local irreducible] NtV.k StV.c LdV.c StV.E GtV.c GtV.t orB

set_option maxHeartbeats 4000000 in
theorem validate_spec (Z : List (Nat × Obj)) (gb : Nat) (g : GtV) (hg : g.ok Z) (x : Bt) (hx : x.ok Z) : Sp Tryz.prog 60 #[.pointer (some ⟨gb, 0, none⟩), .agg ⟨[.int .u32 x.id, .slice x.p x.cs.length x.c]⟩] ((gb, C g.c 127) :: (g.st.E ++ Z)) (fun v F' => ∃ (n' : NtV) (G : List (Nat × Obj)), n'.ok (Z ++ G) ∧ (vcP g.pl x.cs = 0 → apP (lastV g.pl) x.cs = some n'.pl) ∧ v = .tuple #[.agg ⟨n'.c⟩, .int .u8 (vcP g.pl x.cs)] ∧ F' = (gb, C g.c 127) :: (g.st.E ++ (Z ++ G))) := by
  refine f_enter (args := [.pointer (some ⟨gb, 0, none⟩), .agg ⟨[.int .u32 x.id, .slice x.p x.cs.length x.c]⟩]) Tryz.func60 rfl Tryz.ntmps60 rfl ?_
  intro w0 w a hpre hl hh
  generalize hDD : List.map Prod.fst ((gb, C g.c 127) :: (g.st.E ++ Z)) = D at hh ⊢
  simp only [slotsFrom, Nat.reduceAdd] at hl
  refine c_seq ?_
  refine c_region ?_
  refine wl (w_box hl hh rfl trivial rfl rfl ?_)
  clear hl hh a w; intro k3 a w hl hh
  refine wl (w_alloc hl hh rfl trivial zero66 rfl ?_)
  clear hl hh a w; intro k4 a w hl hh
  refine wl (wl_val hl rfl trivial (r_assign hl rfl) ?_)
  clear hl a; intro a hl
  refine w_nil ?_
  have hl2 := hl.add (t := 0) (hl.add (t := 3) (hl.add (t := 4) (hl.nil) rfl) rfl) rfl; clear hl; have hl := hl2; clear hl2
  refine then_normal ?_
  refine c_seq ?_
  refine c_draw [(k3, C [.int .u32 x.id, .slice x.p x.cs.length x.c] 141)] [9] mixed hh ?_
  clear hh w; intro w hh
  have hM : Mem [(k3, C [.int .u32 x.id, .slice x.p x.cs.length x.c] 141)] w := (memK hh (by repeat (first | exact keeps_nil | apply keeps_cons (by repeat (first | exact find_head | apply find_tail | apply find_skip)) (by first  | rfl) | exact keeps_self | exact keeps_left | apply keeps_app | apply keeps_mv | apply keeps_skip)))
  refine d_take (i := 0) hl rfl (by kernel_rfl) (by kernel_rfl) (by kernel_rfl) (by kernel_rfl) (by kernel_rfl) rfl trivial (fun _ _ _ h => h) hM (fun w hC => r_move hl rfl) rfl ?_
  clear hl a; intro a hl
  refine d_take (i := 2) hl rfl (by kernel_rfl) (by kernel_rfl) (by kernel_rfl) (by kernel_rfl) (by kernel_rfl) rfl trivial (fun _ _ _ h => h) hM (fun w hC => r_loadCA hl rfl agg141 hC (by repeat (first | exact find_head | apply find_tail | apply find_skip)) (by first | (simp only [List.getElem?_cons_zero, List.getElem?_cons_succ, Value.cells, List.take_zero, List.take_succ_cons, List.take_nil, List.drop_zero, List.drop_succ_cons, List.drop_nil, List.length_cons, List.length_nil, List.cons_append, List.nil_append, List.append_nil, Nat.zero_add, Nat.add_zero, Nat.reduceAdd, Nat.reduceBEq, Nat.reduceEqDiff, Nat.ble, BEq.rfl, Bool.and_true, Bool.and_self, cond_true, beq_self_eq_true]; rfl)) (by first | rfl | (simp; done))) rfl ?_
  clear hl a; intro a hl
  refine d_two (i := 1) (j := 7) (by kernel_rfl) rfl rfl ?_ ?_
  ·
    try clear hM
    refine id (w_call hl hh rfl trivial rfl cal67 rfl (current_spec Z gb g hg) (by repeat (first | exact keeps_nil | apply keeps_cons (by repeat (first | exact find_head | apply find_tail | apply find_skip)) (by first  | rfl) | exact keeps_self | exact keeps_left | apply keeps_app | apply keeps_mv | apply keeps_skip)) trivial ?_)
    clear hl hh a w; intro vc Fc a w hR hl hh
    obtain ⟨⟨n1, hn1, hnp1, rfl⟩, rfl⟩ := hR
    try simp only [List.cons_append, List.nil_append, List.append_assoc, List.append_nil] at hh
    try simp only [List.append_assoc, List.cons_append, List.nil_append] at hh
    have hM : Mem [(k3, C [.int .u32 x.id, .slice x.p x.cs.length x.c] 141)] w := (memK hh (by repeat (first | exact keeps_nil | apply keeps_cons (by repeat (first | exact find_head | apply find_tail | apply find_skip)) (by first  | rfl) | exact keeps_self | exact keeps_left | apply keeps_app | apply keeps_mv | apply keeps_skip)))
    refine d_step (fun _ => hM) ?_
    refine d_two (i := 3) (j := 7) (by kernel_rfl) rfl rfl ?_ ?_
    ·
      try clear hM
      refine id (w_call hl hh rfl trivial rfl cal66 rfl (apply2 Z n1 hn1 x hx) (by repeat (first | exact keeps_nil | apply keeps_cons (by repeat (first | exact find_head | apply find_tail | apply find_skip)) (by first  | rfl) | exact keeps_self | exact keeps_left | apply keeps_app | apply keeps_mv | apply keeps_skip)) (memK hh (by repeat (first | exact keeps_nil | apply keeps_cons (by repeat (first | exact find_head | apply find_tail | apply find_skip)) (by first  | rfl) | exact keeps_self | exact keeps_left | apply keeps_app | apply keeps_mv | apply keeps_skip))) ?_)
      clear hl hh a w; intro vc Fc a w hR hl hh
      obtain ⟨n2, bo, hn2, hap, rfl⟩ := hR
      try simp only [List.cons_append, List.nil_append, List.append_assoc, List.append_nil] at hh
      rw [hnp1] at hap
      generalize Fc = G9 at hh hn2
      replace hh := hh.comm
      simp only [List.cons_append, List.nil_append, List.append_nil, List.append_assoc] at hh
      have hM : Mem [(k3, C [.int .u32 x.id, .slice x.p x.cs.length x.c] 141)] w := (memK hh (by repeat (first | exact keeps_nil | apply keeps_cons (by repeat (first | exact find_head | apply find_tail | apply find_skip)) (by first  | rfl) | exact keeps_self | exact keeps_left | apply keeps_app | apply keeps_mv | apply keeps_skip)))
      refine d_step (fun _ => hM) ?_
      refine d_take (i := 4) hl rfl (by kernel_rfl) (by kernel_rfl) (by kernel_rfl) (by kernel_rfl) (by kernel_rfl) rfl trivial (fun _ _ _ h => h) hM (fun w hC => r_move hl rfl) rfl ?_
      clear hl a; intro a hl
      refine d_take (i := 5) hl rfl (by kernel_rfl) (by kernel_rfl) (by kernel_rfl) (by kernel_rfl) (by kernel_rfl) rfl trivial (fun _ _ _ h => h) hM (fun w hC => r_extract hl rfl (by simp only [List.getElem?_toArray, List.getElem?_cons_zero, List.getElem?_cons_succ]; rfl)) rfl ?_
      clear hl a; intro a hl
      refine d_take (i := 6) hl rfl (by kernel_rfl) (by kernel_rfl) (by kernel_rfl) (by kernel_rfl) (by kernel_rfl) rfl trivial (fun _ _ _ h => h) hM (fun w hC => r_extract hl rfl (by simp only [List.getElem?_toArray, List.getElem?_cons_zero, List.getElem?_cons_succ]; rfl)) rfl ?_
      clear hl a; intro a hl
      refine d_one (i := 7) (by kernel_rfl) rfl ?_
      try clear hM
      refine id (w_alloc hl hh rfl trivial zero66 rfl ?_)
      clear hl hh a w; intro k6 a w hl hh
      have hM : Mem [(k3, C [.int .u32 x.id, .slice x.p x.cs.length x.c] 141)] w := (memK hh (by repeat (first | exact keeps_nil | apply keeps_cons (by repeat (first | exact find_head | apply find_tail | apply find_skip)) (by first  | rfl) | exact keeps_self | exact keeps_left | apply keeps_app | apply keeps_mv | apply keeps_skip)))
      refine d_step (fun _ => hM) ?_
      refine d_one (i := 8) (by kernel_rfl) rfl ?_
      try clear hM
      refine id (w_storeA hl hh trivial agg66 rfl rfl (by repeat (first | exact find_head | apply find_tail | apply find_skip)) (by first | exact NtV.len hn2 | exact NtV.len hn1) (by exact Nat.le_refl 64) (by exact NtV.one) (by first | exact setL_all (show 64 = _ from (NtV.len hn2).symm)) ?_)
      clear hh w; intro w hh
      have hM : Mem [(k3, C [.int .u32 x.id, .slice x.p x.cs.length x.c] 141)] w := (memK hh (by repeat (first | exact keeps_nil | apply keeps_cons (by repeat (first | exact find_head | apply find_tail | apply find_skip)) (by first  | rfl) | exact keeps_self | exact keeps_left | apply keeps_app | apply keeps_mv | apply keeps_skip)))
      refine d_step (fun _ => hM) ?_
      refine d_takeL (i := 9) hl rfl (by kernel_rfl) (by kernel_rfl) (by kernel_rfl) (by kernel_rfl) (by kernel_rfl) rfl trivial (fun _ _ _ h => h) (fun w => r_assign hl rfl) rfl ?_
      clear hl a; intro a hl
      refine d_done (by kernel_rfl) ?_
      try clear hM
      have hl2 := hl.add (t := 0) (hl.add (t := 4) (hl.add (t := 6) (hl.add (t := 7) (hl.nil) rfl) rfl) rfl) rfl; clear hl; have hl := hl2; clear hl2
      refine then_normal ?_
      refine c_seq ?_
      refine c_seq ?_
      refine c_region ?_
      refine wl (wl_val hl rfl trivial (r_move hl rfl) ?_)
      clear hl a; intro a hl
      refine wl (wl_val hl rfl trivial (r_not hl rfl) ?_)
      clear hl a; intro a hl
      refine w_nil ?_
      have hl2 := hl.add (t := 0) (hl.add (t := 4) (hl.add (t := 6) (hl.add (t := 16) (hl.nil) rfl) rfl) rfl) rfl; clear hl; have hl := hl2; clear hl2
      refine then_normal ?_
      refine c_cond hl rfl ?_ ?_
      · intro hc0
        try simp only [decide_eq_true_eq, decide_eq_false_iff_not, Bool.not_eq_true', Bool.not_eq_false', Bool.not_eq_true, Bool.not_eq_false, Bool.and_eq_true, Bool.or_eq_true, Bool.and_eq_false_iff, Bool.or_eq_false_iff, Bool.not_not, ne_eq, Int.not_lt, Int.not_le, Decidable.not_not, beq_iff_eq, bne_iff_ne] at hc0
        have hvc := vc_9 (g := g.pl) (cs := x.cs) (by rw [hap, hc0]; rfl)
        refine c_seq ?_
        refine c_region ?_
        refine wl (w_loadA hl hh rfl trivial agg66 rfl (by repeat (first | exact find_head | apply find_tail | apply find_skip)) (by exact NtV.whole hn2) (by first | exact NtV.len hn2 | exact NtV.len hn1) ?_)
        clear hl a; intro a hl
        refine wl (w_storeA hl hh trivial agg66 rfl rfl (by repeat (first | exact find_head | apply find_tail | apply find_skip)) (by first | exact NtV.len hn2 | exact NtV.len hn1) (by exact Nat.le_refl 64) (by exact NtV.one) (by first | exact setL_all (show 64 = _ from (NtV.len hn2).symm)) ?_)
        clear hh w; intro w hh
        refine wl (wl_val hl rfl trivial (r_assign hl rfl) ?_)
        clear hl a; intro a hl
        refine w_nil ?_
        have hl2 := hl.add (t := 4) (hl.add (t := 5) (hl.nil) rfl) rfl; clear hl; have hl := hl2; clear hl2
        refine then_normal ?_
        refine wp_ret ?_
        refine then_ret ?_
        refine f_retCT (F' := (gb, C g.c 127) :: (g.st.E ++ (Z ++ G9))) hl hh rfl rfl agg66 (by repeat (first | exact find_head | apply find_tail | apply find_skip)) (by first | rfl | exact arrL_length _ _ | exact NtV.len hn2 | (simp; done)) rfl (by repeat (first | exact keeps_nil | apply keeps_cons (by repeat (first | exact find_head | apply find_tail | apply find_skip)) (by first  | rfl) | exact keeps_self | exact keeps_left | apply keeps_app | apply keeps_mv | apply keeps_skip)) ?_
        exact ⟨n2, G9, hn2, fun h => (by rw [hvc] at h; omega), by rw [hvc], rfl⟩
      · intro hc0
        try simp only [decide_eq_true_eq, decide_eq_false_iff_not, Bool.not_eq_true', Bool.not_eq_false', Bool.not_eq_true, Bool.not_eq_false, Bool.and_eq_true, Bool.or_eq_true, Bool.and_eq_false_iff, Bool.or_eq_false_iff, Bool.not_not, ne_eq, Int.not_lt, Int.not_le, Decidable.not_not, beq_iff_eq, bne_iff_ne] at hc0
        have hap2 : apP (lastV g.pl) x.cs = some n2.pl := by rw [hap, hc0]; rfl
        refine wp_skip ?_
        refine then_normal ?_
        refine c_seq ?_
        refine c_seq ?_
        refine c_draw [(gb, C g.c 127), (k6, C n2.c 66)] [6, 7] mixed hh ?_
        clear hh w; intro w hh
        have hM : Mem [(gb, C g.c 127), (k6, C n2.c 66)] w := (memK hh (by repeat (first | exact keeps_nil | apply keeps_cons (by repeat (first | exact find_head | apply find_tail | apply find_skip)) (by first  | rfl) | exact keeps_self | exact keeps_left | apply keeps_app | apply keeps_mv | apply keeps_skip)))
        refine d_take (i := 0) hl rfl (by kernel_rfl) (by kernel_rfl) (by kernel_rfl) (by kernel_rfl) (by kernel_rfl) rfl trivial (fun _ _ _ h => h) hM (fun w hC => r_loadCA hl rfl agg66 hC (by repeat (first | exact find_head | apply find_tail | apply find_skip)) (by exact NtV.whole hn2) (by first | exact NtV.len hn2 | exact NtV.len hn1)) rfl ?_
        clear hl a; intro a hl
        refine d_take (i := 1) hl rfl (by kernel_rfl) (by kernel_rfl) (by kernel_rfl) (by kernel_rfl) (by kernel_rfl) rfl trivial (fun _ _ _ h => h) hM (fun w hC => r_move hl rfl) rfl ?_
        clear hl a; intro a hl
        refine d_take (i := 2) hl rfl (by kernel_rfl) (by kernel_rfl) (by kernel_rfl) (by kernel_rfl) (by kernel_rfl) rfl trivial (fun _ _ _ h => h) hM (fun w hC => r_nilCheck hl rfl) rfl ?_
        clear hl a; intro a hl
        refine d_take (i := 3) hl rfl (by kernel_rfl) (by kernel_rfl) (by kernel_rfl) (by kernel_rfl) (by kernel_rfl) rfl trivial (fun _ _ _ h => h) hM (fun w hC => r_field hl rfl fld127_1) rfl ?_
        clear hl a; intro a hl
        refine d_take (i := 4) hl rfl (by kernel_rfl) (by kernel_rfl) (by kernel_rfl) (by kernel_rfl) (by kernel_rfl) rfl trivial (fun _ _ _ h => h) hM (fun w hC => r_field hl rfl fld89_2) rfl ?_
        clear hl a; intro a hl
        refine d_take (i := 5) hl rfl (by kernel_rfl) (by kernel_rfl) (by kernel_rfl) (by kernel_rfl) (by kernel_rfl) rfl trivial (fun _ _ _ h => h) hM (fun w hC => r_loadC hl rfl one75 hC (by repeat (first | exact find_head | apply find_tail | apply find_skip)) (by first | exact gtc_led _ | exact gtc_ep _ | exact gtc_vs _ | exact gtc_is _ | exact gtc_fid _ | exact gtc_ph _ | exact gtc_vd _ | exact gtc_q _ | exact gtc_rf _ | exact gtc_ys _ | exact gtc_dn _ | exact gtc_tk _ | exact gtc_au _ | exact gtc_o _ | exact gtc_off _ | rfl)) rfl ?_
        clear hl a; intro a hl
        refine d_one (i := 6) (by kernel_rfl) rfl ?_
        try clear hM
        refine id (w_call hl hh rfl trivial rfl cal58 rfl (check_spec (Z ++ G9) n2 hn2 g.st.is hg.st.io g.st.ip g.st.ic g.st.iE hg.st.i (by have := hg.st.il; omega)) (by repeat (first | exact keeps_nil | apply keeps_cons (by repeat (first | exact find_head | apply find_tail | apply find_skip)) (by first  | rfl) | exact keeps_self | exact keeps_left | apply keeps_app | apply keeps_mv | apply keeps_skip)) ⟨fun b o m => (by rcases List.mem_append.1 m with m | m; exact memK (E := Z) hh (by repeat (first | exact keeps_nil | apply keeps_cons (by repeat (first | exact find_head | apply find_tail | apply find_skip)) (by first  | rfl) | exact keeps_self | exact keeps_left | apply keeps_app | apply keeps_mv | apply keeps_skip)) b o m; exact memK (E := G9) hh (by repeat (first | exact keeps_nil | apply keeps_cons (by repeat (first | exact find_head | apply find_tail | apply find_skip)) (by first  | rfl) | exact keeps_self | exact keeps_left | apply keeps_app | apply keeps_mv | apply keeps_skip)) b o m), fun b o m => memK (E := g.st.E) hh (by repeat (first | exact keeps_nil | apply keeps_cons (by repeat (first | exact find_head | apply find_tail | apply find_skip)) (by first  | rfl) | exact keeps_self | exact keeps_left | apply keeps_app | apply keeps_mv | apply keeps_skip)) b o (inE_i m)⟩ ?_)
        clear hl hh a w; intro vc Fc a w hR hl hh
        obtain ⟨rfl, rfl⟩ := hR
        try simp only [List.cons_append, List.nil_append, List.append_assoc, List.append_nil] at hh
        refine d_step (fun h => absurd h (by decide)) ?_
        refine d_takeL (i := 7) hl rfl (by kernel_rfl) (by kernel_rfl) (by kernel_rfl) (by kernel_rfl) (by kernel_rfl) rfl trivial (fun _ _ _ h => h) (fun w => r_not hl rfl) rfl ?_
        clear hl a; intro a hl
        refine d_done (by kernel_rfl) ?_
        try clear hM
        have hl2 := hl.add (t := 4) (hl.add (t := 6) (hl.add (t := 25) (hl.nil) rfl) rfl) rfl; clear hl; have hl := hl2; clear hl2
        refine then_normal ?_
        refine c_cond hl rfl ?_ ?_
        · intro hc1
          try simp only [decide_eq_true_eq, decide_eq_false_iff_not, Bool.not_eq_true', Bool.not_eq_false', Bool.not_eq_true, Bool.not_eq_false, Bool.and_eq_true, Bool.or_eq_true, Bool.and_eq_false_iff, Bool.or_eq_false_iff, Bool.not_not, ne_eq, Int.not_lt, Int.not_le, Decidable.not_not, beq_iff_eq, bne_iff_ne] at hc1
          have hvc := vc_10 (g := g.pl) hap2 hc1
          refine c_seq ?_
          refine c_region ?_
          refine wl (w_loadA hl hh rfl trivial agg66 rfl (by repeat (first | exact find_head | apply find_tail | apply find_skip)) (by exact NtV.whole hn2) (by first | exact NtV.len hn2 | exact NtV.len hn1) ?_)
          clear hl a; intro a hl
          refine wl (w_storeA hl hh trivial agg66 rfl rfl (by repeat (first | exact find_head | apply find_tail | apply find_skip)) (by first | exact NtV.len hn2 | exact NtV.len hn1) (by exact Nat.le_refl 64) (by exact NtV.one) (by first | exact setL_all (show 64 = _ from (NtV.len hn2).symm)) ?_)
          clear hh w; intro w hh
          refine wl (wl_val hl rfl trivial (r_assign hl rfl) ?_)
          clear hl a; intro a hl
          refine w_nil ?_
          have hl2 := hl.add (t := 4) (hl.add (t := 5) (hl.nil) rfl) rfl; clear hl; have hl := hl2; clear hl2
          refine then_normal ?_
          refine wp_ret ?_
          refine then_ret ?_
          refine f_retCT (F' := (gb, C g.c 127) :: (g.st.E ++ (Z ++ G9))) hl hh rfl rfl agg66 (by repeat (first | exact find_head | apply find_tail | apply find_skip)) (by first | rfl | exact arrL_length _ _ | exact NtV.len hn2 | (simp; done)) rfl (by repeat (first | exact keeps_nil | apply keeps_cons (by repeat (first | exact find_head | apply find_tail | apply find_skip)) (by first  | rfl) | exact keeps_self | exact keeps_left | apply keeps_app | apply keeps_mv | apply keeps_skip)) ?_
          exact ⟨n2, G9, hn2, fun _ => hap2, by rw [hvc], rfl⟩
        · intro hc1
          try simp only [decide_eq_true_eq, decide_eq_false_iff_not, Bool.not_eq_true', Bool.not_eq_false', Bool.not_eq_true, Bool.not_eq_false, Bool.and_eq_true, Bool.or_eq_true, Bool.and_eq_false_iff, Bool.or_eq_false_iff, Bool.not_not, ne_eq, Int.not_lt, Int.not_le, Decidable.not_not, beq_iff_eq, bne_iff_ne] at hc1
          have hvc := vc_0 (g := g.pl) hap2 hc1
          refine wp_skip ?_
          refine then_normal ?_
          refine c_seq ?_
          refine c_region ?_
          refine wl (w_loadA hl hh rfl trivial agg66 rfl (by repeat (first | exact find_head | apply find_tail | apply find_skip)) (by exact NtV.whole hn2) (by first | exact NtV.len hn2 | exact NtV.len hn1) ?_)
          clear hl a; intro a hl
          refine wl (w_storeA hl hh trivial agg66 rfl rfl (by repeat (first | exact find_head | apply find_tail | apply find_skip)) (by first | exact NtV.len hn2 | exact NtV.len hn1) (by exact Nat.le_refl 64) (by exact NtV.one) (by first | exact setL_all (show 64 = _ from (NtV.len hn2).symm)) ?_)
          clear hh w; intro w hh
          refine wl (wl_val hl rfl trivial (r_assign hl rfl) ?_)
          clear hl a; intro a hl
          refine w_nil ?_
          have hl2 := hl.add (t := 4) (hl.add (t := 5) (hl.nil) rfl) rfl; clear hl; have hl := hl2; clear hl2
          refine then_normal ?_
          refine wp_ret ?_
          refine f_retCT (F' := (gb, C g.c 127) :: (g.st.E ++ (Z ++ G9))) hl hh rfl rfl agg66 (by repeat (first | exact find_head | apply find_tail | apply find_skip)) (by first | rfl | exact arrL_length _ _ | exact NtV.len hn2 | (simp; done)) rfl (by repeat (first | exact keeps_nil | apply keeps_cons (by repeat (first | exact find_head | apply find_tail | apply find_skip)) (by first  | rfl) | exact keeps_self | exact keeps_left | apply keeps_app | apply keeps_mv | apply keeps_skip)) ?_
          exact ⟨n2, G9, hn2, fun _ => hap2, by rw [hvc], rfl⟩
    ·
      try clear hM
      refine id (w_alloc hl hh rfl trivial zero66 rfl ?_)
      clear hl hh a w; intro k6 a w hl hh
      have hM : Mem [(k3, C [.int .u32 x.id, .slice x.p x.cs.length x.c] 141)] w := (memK hh (by repeat (first | exact keeps_nil | apply keeps_cons (by repeat (first | exact find_head | apply find_tail | apply find_skip)) (by first  | rfl) | exact keeps_self | exact keeps_left | apply keeps_app | apply keeps_mv | apply keeps_skip)))
      refine d_step (fun _ => hM) ?_
      refine d_one (i := 3) (by kernel_rfl) rfl ?_
      try clear hM
      refine id (w_call hl hh rfl trivial rfl cal66 rfl (apply2 Z n1 hn1 x hx) (by repeat (first | exact keeps_nil | apply keeps_cons (by repeat (first | exact find_head | apply find_tail | apply find_skip)) (by first  | rfl) | exact keeps_self | exact keeps_left | apply keeps_app | apply keeps_mv | apply keeps_skip)) (memK hh (by repeat (first | exact keeps_nil | apply keeps_cons (by repeat (first | exact find_head | apply find_tail | apply find_skip)) (by first  | rfl) | exact keeps_self | exact keeps_left | apply keeps_app | apply keeps_mv | apply keeps_skip))) ?_)
      clear hl hh a w; intro vc Fc a w hR hl hh
      obtain ⟨n2, bo, hn2, hap, rfl⟩ := hR
      try simp only [List.cons_append, List.nil_append, List.append_assoc, List.append_nil] at hh
      rw [hnp1] at hap
      generalize Fc = G9 at hh hn2
      replace hh := hh.comm
      simp only [List.cons_append, List.nil_append, List.append_nil, List.append_assoc] at hh
      have hM : Mem [(k3, C [.int .u32 x.id, .slice x.p x.cs.length x.c] 141)] w := (memK hh (by repeat (first | exact keeps_nil | apply keeps_cons (by repeat (first | exact find_head | apply find_tail | apply find_skip)) (by first  | rfl) | exact keeps_self | exact keeps_left | apply keeps_app | apply keeps_mv | apply keeps_skip)))
      refine d_step (fun _ => hM) ?_
      refine d_take (i := 4) hl rfl (by kernel_rfl) (by kernel_rfl) (by kernel_rfl) (by kernel_rfl) (by kernel_rfl) rfl trivial (fun _ _ _ h => h) hM (fun w hC => r_move hl rfl) rfl ?_
      clear hl a; intro a hl
      refine d_take (i := 5) hl rfl (by kernel_rfl) (by kernel_rfl) (by kernel_rfl) (by kernel_rfl) (by kernel_rfl) rfl trivial (fun _ _ _ h => h) hM (fun w hC => r_extract hl rfl (by simp only [List.getElem?_toArray, List.getElem?_cons_zero, List.getElem?_cons_succ]; rfl)) rfl ?_
      clear hl a; intro a hl
      refine d_take (i := 6) hl rfl (by kernel_rfl) (by kernel_rfl) (by kernel_rfl) (by kernel_rfl) (by kernel_rfl) rfl trivial (fun _ _ _ h => h) hM (fun w hC => r_extract hl rfl (by simp only [List.getElem?_toArray, List.getElem?_cons_zero, List.getElem?_cons_succ]; rfl)) rfl ?_
      clear hl a; intro a hl
      refine d_one (i := 8) (by kernel_rfl) rfl ?_
      try clear hM
      refine id (w_storeA hl hh trivial agg66 rfl rfl (by repeat (first | exact find_head | apply find_tail | apply find_skip)) (by first | exact NtV.len hn2 | exact NtV.len hn1) (by exact Nat.le_refl 64) (by exact NtV.one) (by first | exact setL_all (show 64 = _ from (NtV.len hn2).symm)) ?_)
      clear hh w; intro w hh
      have hM : Mem [(k3, C [.int .u32 x.id, .slice x.p x.cs.length x.c] 141)] w := (memK hh (by repeat (first | exact keeps_nil | apply keeps_cons (by repeat (first | exact find_head | apply find_tail | apply find_skip)) (by first  | rfl) | exact keeps_self | exact keeps_left | apply keeps_app | apply keeps_mv | apply keeps_skip)))
      refine d_step (fun _ => hM) ?_
      refine d_takeL (i := 9) hl rfl (by kernel_rfl) (by kernel_rfl) (by kernel_rfl) (by kernel_rfl) (by kernel_rfl) rfl trivial (fun _ _ _ h => h) (fun w => r_assign hl rfl) rfl ?_
      clear hl a; intro a hl
      refine d_done (by kernel_rfl) ?_
      try clear hM
      have hl2 := hl.add (t := 0) (hl.add (t := 4) (hl.add (t := 6) (hl.add (t := 7) (hl.nil) rfl) rfl) rfl) rfl; clear hl; have hl := hl2; clear hl2
      refine then_normal ?_
      refine c_seq ?_
      refine c_seq ?_
      refine c_region ?_
      refine wl (wl_val hl rfl trivial (r_move hl rfl) ?_)
      clear hl a; intro a hl
      refine wl (wl_val hl rfl trivial (r_not hl rfl) ?_)
      clear hl a; intro a hl
      refine w_nil ?_
      have hl2 := hl.add (t := 0) (hl.add (t := 4) (hl.add (t := 6) (hl.add (t := 16) (hl.nil) rfl) rfl) rfl) rfl; clear hl; have hl := hl2; clear hl2
      refine then_normal ?_
      refine c_cond hl rfl ?_ ?_
      · intro hc0
        try simp only [decide_eq_true_eq, decide_eq_false_iff_not, Bool.not_eq_true', Bool.not_eq_false', Bool.not_eq_true, Bool.not_eq_false, Bool.and_eq_true, Bool.or_eq_true, Bool.and_eq_false_iff, Bool.or_eq_false_iff, Bool.not_not, ne_eq, Int.not_lt, Int.not_le, Decidable.not_not, beq_iff_eq, bne_iff_ne] at hc0
        have hvc := vc_9 (g := g.pl) (cs := x.cs) (by rw [hap, hc0]; rfl)
        refine c_seq ?_
        refine c_region ?_
        refine wl (w_loadA hl hh rfl trivial agg66 rfl (by repeat (first | exact find_head | apply find_tail | apply find_skip)) (by exact NtV.whole hn2) (by first | exact NtV.len hn2 | exact NtV.len hn1) ?_)
        clear hl a; intro a hl
        refine wl (w_storeA hl hh trivial agg66 rfl rfl (by repeat (first | exact find_head | apply find_tail | apply find_skip)) (by first | exact NtV.len hn2 | exact NtV.len hn1) (by exact Nat.le_refl 64) (by exact NtV.one) (by first | exact setL_all (show 64 = _ from (NtV.len hn2).symm)) ?_)
        clear hh w; intro w hh
        refine wl (wl_val hl rfl trivial (r_assign hl rfl) ?_)
        clear hl a; intro a hl
        refine w_nil ?_
        have hl2 := hl.add (t := 4) (hl.add (t := 5) (hl.nil) rfl) rfl; clear hl; have hl := hl2; clear hl2
        refine then_normal ?_
        refine wp_ret ?_
        refine then_ret ?_
        refine f_retCT (F' := (gb, C g.c 127) :: (g.st.E ++ (Z ++ G9))) hl hh rfl rfl agg66 (by repeat (first | exact find_head | apply find_tail | apply find_skip)) (by first | rfl | exact arrL_length _ _ | exact NtV.len hn2 | (simp; done)) rfl (by repeat (first | exact keeps_nil | apply keeps_cons (by repeat (first | exact find_head | apply find_tail | apply find_skip)) (by first  | rfl) | exact keeps_self | exact keeps_left | apply keeps_app | apply keeps_mv | apply keeps_skip)) ?_
        exact ⟨n2, G9, hn2, fun h => (by rw [hvc] at h; omega), by rw [hvc], rfl⟩
      · intro hc0
        try simp only [decide_eq_true_eq, decide_eq_false_iff_not, Bool.not_eq_true', Bool.not_eq_false', Bool.not_eq_true, Bool.not_eq_false, Bool.and_eq_true, Bool.or_eq_true, Bool.and_eq_false_iff, Bool.or_eq_false_iff, Bool.not_not, ne_eq, Int.not_lt, Int.not_le, Decidable.not_not, beq_iff_eq, bne_iff_ne] at hc0
        have hap2 : apP (lastV g.pl) x.cs = some n2.pl := by rw [hap, hc0]; rfl
        refine wp_skip ?_
        refine then_normal ?_
        refine c_seq ?_
        refine c_seq ?_
        refine c_draw [(gb, C g.c 127), (k6, C n2.c 66)] [6, 7] mixed hh ?_
        clear hh w; intro w hh
        have hM : Mem [(gb, C g.c 127), (k6, C n2.c 66)] w := (memK hh (by repeat (first | exact keeps_nil | apply keeps_cons (by repeat (first | exact find_head | apply find_tail | apply find_skip)) (by first  | rfl) | exact keeps_self | exact keeps_left | apply keeps_app | apply keeps_mv | apply keeps_skip)))
        refine d_take (i := 0) hl rfl (by kernel_rfl) (by kernel_rfl) (by kernel_rfl) (by kernel_rfl) (by kernel_rfl) rfl trivial (fun _ _ _ h => h) hM (fun w hC => r_loadCA hl rfl agg66 hC (by repeat (first | exact find_head | apply find_tail | apply find_skip)) (by exact NtV.whole hn2) (by first | exact NtV.len hn2 | exact NtV.len hn1)) rfl ?_
        clear hl a; intro a hl
        refine d_take (i := 1) hl rfl (by kernel_rfl) (by kernel_rfl) (by kernel_rfl) (by kernel_rfl) (by kernel_rfl) rfl trivial (fun _ _ _ h => h) hM (fun w hC => r_move hl rfl) rfl ?_
        clear hl a; intro a hl
        refine d_take (i := 2) hl rfl (by kernel_rfl) (by kernel_rfl) (by kernel_rfl) (by kernel_rfl) (by kernel_rfl) rfl trivial (fun _ _ _ h => h) hM (fun w hC => r_nilCheck hl rfl) rfl ?_
        clear hl a; intro a hl
        refine d_take (i := 3) hl rfl (by kernel_rfl) (by kernel_rfl) (by kernel_rfl) (by kernel_rfl) (by kernel_rfl) rfl trivial (fun _ _ _ h => h) hM (fun w hC => r_field hl rfl fld127_1) rfl ?_
        clear hl a; intro a hl
        refine d_take (i := 4) hl rfl (by kernel_rfl) (by kernel_rfl) (by kernel_rfl) (by kernel_rfl) (by kernel_rfl) rfl trivial (fun _ _ _ h => h) hM (fun w hC => r_field hl rfl fld89_2) rfl ?_
        clear hl a; intro a hl
        refine d_take (i := 5) hl rfl (by kernel_rfl) (by kernel_rfl) (by kernel_rfl) (by kernel_rfl) (by kernel_rfl) rfl trivial (fun _ _ _ h => h) hM (fun w hC => r_loadC hl rfl one75 hC (by repeat (first | exact find_head | apply find_tail | apply find_skip)) (by first | exact gtc_led _ | exact gtc_ep _ | exact gtc_vs _ | exact gtc_is _ | exact gtc_fid _ | exact gtc_ph _ | exact gtc_vd _ | exact gtc_q _ | exact gtc_rf _ | exact gtc_ys _ | exact gtc_dn _ | exact gtc_tk _ | exact gtc_au _ | exact gtc_o _ | exact gtc_off _ | rfl)) rfl ?_
        clear hl a; intro a hl
        refine d_one (i := 6) (by kernel_rfl) rfl ?_
        try clear hM
        refine id (w_call hl hh rfl trivial rfl cal58 rfl (check_spec (Z ++ G9) n2 hn2 g.st.is hg.st.io g.st.ip g.st.ic g.st.iE hg.st.i (by have := hg.st.il; omega)) (by repeat (first | exact keeps_nil | apply keeps_cons (by repeat (first | exact find_head | apply find_tail | apply find_skip)) (by first  | rfl) | exact keeps_self | exact keeps_left | apply keeps_app | apply keeps_mv | apply keeps_skip)) ⟨fun b o m => (by rcases List.mem_append.1 m with m | m; exact memK (E := Z) hh (by repeat (first | exact keeps_nil | apply keeps_cons (by repeat (first | exact find_head | apply find_tail | apply find_skip)) (by first  | rfl) | exact keeps_self | exact keeps_left | apply keeps_app | apply keeps_mv | apply keeps_skip)) b o m; exact memK (E := G9) hh (by repeat (first | exact keeps_nil | apply keeps_cons (by repeat (first | exact find_head | apply find_tail | apply find_skip)) (by first  | rfl) | exact keeps_self | exact keeps_left | apply keeps_app | apply keeps_mv | apply keeps_skip)) b o m), fun b o m => memK (E := g.st.E) hh (by repeat (first | exact keeps_nil | apply keeps_cons (by repeat (first | exact find_head | apply find_tail | apply find_skip)) (by first  | rfl) | exact keeps_self | exact keeps_left | apply keeps_app | apply keeps_mv | apply keeps_skip)) b o (inE_i m)⟩ ?_)
        clear hl hh a w; intro vc Fc a w hR hl hh
        obtain ⟨rfl, rfl⟩ := hR
        try simp only [List.cons_append, List.nil_append, List.append_assoc, List.append_nil] at hh
        refine d_step (fun h => absurd h (by decide)) ?_
        refine d_takeL (i := 7) hl rfl (by kernel_rfl) (by kernel_rfl) (by kernel_rfl) (by kernel_rfl) (by kernel_rfl) rfl trivial (fun _ _ _ h => h) (fun w => r_not hl rfl) rfl ?_
        clear hl a; intro a hl
        refine d_done (by kernel_rfl) ?_
        try clear hM
        have hl2 := hl.add (t := 4) (hl.add (t := 6) (hl.add (t := 25) (hl.nil) rfl) rfl) rfl; clear hl; have hl := hl2; clear hl2
        refine then_normal ?_
        refine c_cond hl rfl ?_ ?_
        · intro hc1
          try simp only [decide_eq_true_eq, decide_eq_false_iff_not, Bool.not_eq_true', Bool.not_eq_false', Bool.not_eq_true, Bool.not_eq_false, Bool.and_eq_true, Bool.or_eq_true, Bool.and_eq_false_iff, Bool.or_eq_false_iff, Bool.not_not, ne_eq, Int.not_lt, Int.not_le, Decidable.not_not, beq_iff_eq, bne_iff_ne] at hc1
          have hvc := vc_10 (g := g.pl) hap2 hc1
          refine c_seq ?_
          refine c_region ?_
          refine wl (w_loadA hl hh rfl trivial agg66 rfl (by repeat (first | exact find_head | apply find_tail | apply find_skip)) (by exact NtV.whole hn2) (by first | exact NtV.len hn2 | exact NtV.len hn1) ?_)
          clear hl a; intro a hl
          refine wl (w_storeA hl hh trivial agg66 rfl rfl (by repeat (first | exact find_head | apply find_tail | apply find_skip)) (by first | exact NtV.len hn2 | exact NtV.len hn1) (by exact Nat.le_refl 64) (by exact NtV.one) (by first | exact setL_all (show 64 = _ from (NtV.len hn2).symm)) ?_)
          clear hh w; intro w hh
          refine wl (wl_val hl rfl trivial (r_assign hl rfl) ?_)
          clear hl a; intro a hl
          refine w_nil ?_
          have hl2 := hl.add (t := 4) (hl.add (t := 5) (hl.nil) rfl) rfl; clear hl; have hl := hl2; clear hl2
          refine then_normal ?_
          refine wp_ret ?_
          refine then_ret ?_
          refine f_retCT (F' := (gb, C g.c 127) :: (g.st.E ++ (Z ++ G9))) hl hh rfl rfl agg66 (by repeat (first | exact find_head | apply find_tail | apply find_skip)) (by first | rfl | exact arrL_length _ _ | exact NtV.len hn2 | (simp; done)) rfl (by repeat (first | exact keeps_nil | apply keeps_cons (by repeat (first | exact find_head | apply find_tail | apply find_skip)) (by first  | rfl) | exact keeps_self | exact keeps_left | apply keeps_app | apply keeps_mv | apply keeps_skip)) ?_
          exact ⟨n2, G9, hn2, fun _ => hap2, by rw [hvc], rfl⟩
        · intro hc1
          try simp only [decide_eq_true_eq, decide_eq_false_iff_not, Bool.not_eq_true', Bool.not_eq_false', Bool.not_eq_true, Bool.not_eq_false, Bool.and_eq_true, Bool.or_eq_true, Bool.and_eq_false_iff, Bool.or_eq_false_iff, Bool.not_not, ne_eq, Int.not_lt, Int.not_le, Decidable.not_not, beq_iff_eq, bne_iff_ne] at hc1
          have hvc := vc_0 (g := g.pl) hap2 hc1
          refine wp_skip ?_
          refine then_normal ?_
          refine c_seq ?_
          refine c_region ?_
          refine wl (w_loadA hl hh rfl trivial agg66 rfl (by repeat (first | exact find_head | apply find_tail | apply find_skip)) (by exact NtV.whole hn2) (by first | exact NtV.len hn2 | exact NtV.len hn1) ?_)
          clear hl a; intro a hl
          refine wl (w_storeA hl hh trivial agg66 rfl rfl (by repeat (first | exact find_head | apply find_tail | apply find_skip)) (by first | exact NtV.len hn2 | exact NtV.len hn1) (by exact Nat.le_refl 64) (by exact NtV.one) (by first | exact setL_all (show 64 = _ from (NtV.len hn2).symm)) ?_)
          clear hh w; intro w hh
          refine wl (wl_val hl rfl trivial (r_assign hl rfl) ?_)
          clear hl a; intro a hl
          refine w_nil ?_
          have hl2 := hl.add (t := 4) (hl.add (t := 5) (hl.nil) rfl) rfl; clear hl; have hl := hl2; clear hl2
          refine then_normal ?_
          refine wp_ret ?_
          refine f_retCT (F' := (gb, C g.c 127) :: (g.st.E ++ (Z ++ G9))) hl hh rfl rfl agg66 (by repeat (first | exact find_head | apply find_tail | apply find_skip)) (by first | rfl | exact arrL_length _ _ | exact NtV.len hn2 | (simp; done)) rfl (by repeat (first | exact keeps_nil | apply keeps_cons (by repeat (first | exact find_head | apply find_tail | apply find_skip)) (by first  | rfl) | exact keeps_self | exact keeps_left | apply keeps_app | apply keeps_mv | apply keeps_skip)) ?_
          exact ⟨n2, G9, hn2, fun _ => hap2, by rw [hvc], rfl⟩
  ·
    try clear hM
    refine id (w_alloc hl hh rfl trivial zero66 rfl ?_)
    clear hl hh a w; intro k6 a w hl hh
    have hM : Mem [(k3, C [.int .u32 x.id, .slice x.p x.cs.length x.c] 141)] w := (memK hh (by repeat (first | exact keeps_nil | apply keeps_cons (by repeat (first | exact find_head | apply find_tail | apply find_skip)) (by first  | rfl) | exact keeps_self | exact keeps_left | apply keeps_app | apply keeps_mv | apply keeps_skip)))
    refine d_step (fun _ => hM) ?_
    refine d_one (i := 1) (by kernel_rfl) rfl ?_
    try clear hM
    refine id (w_call hl hh rfl trivial rfl cal67 rfl (current_spec Z gb g hg) (by repeat (first | exact keeps_nil | apply keeps_cons (by repeat (first | exact find_head | apply find_tail | apply find_skip)) (by first  | rfl) | exact keeps_self | exact keeps_left | apply keeps_app | apply keeps_mv | apply keeps_skip)) trivial ?_)
    clear hl hh a w; intro vc Fc a w hR hl hh
    obtain ⟨⟨n1, hn1, hnp1, rfl⟩, rfl⟩ := hR
    try simp only [List.cons_append, List.nil_append, List.append_assoc, List.append_nil] at hh
    try simp only [List.append_assoc, List.cons_append, List.nil_append] at hh
    have hM : Mem [(k3, C [.int .u32 x.id, .slice x.p x.cs.length x.c] 141)] w := (memK hh (by repeat (first | exact keeps_nil | apply keeps_cons (by repeat (first | exact find_head | apply find_tail | apply find_skip)) (by first  | rfl) | exact keeps_self | exact keeps_left | apply keeps_app | apply keeps_mv | apply keeps_skip)))
    refine d_step (fun _ => hM) ?_
    refine d_one (i := 3) (by kernel_rfl) rfl ?_
    try clear hM
    refine id (w_call hl hh rfl trivial rfl cal66 rfl (apply2 Z n1 hn1 x hx) (by repeat (first | exact keeps_nil | apply keeps_cons (by repeat (first | exact find_head | apply find_tail | apply find_skip)) (by first  | rfl) | exact keeps_self | exact keeps_left | apply keeps_app | apply keeps_mv | apply keeps_skip)) (memK hh (by repeat (first | exact keeps_nil | apply keeps_cons (by repeat (first | exact find_head | apply find_tail | apply find_skip)) (by first  | rfl) | exact keeps_self | exact keeps_left | apply keeps_app | apply keeps_mv | apply keeps_skip))) ?_)
    clear hl hh a w; intro vc Fc a w hR hl hh
    obtain ⟨n2, bo, hn2, hap, rfl⟩ := hR
    try simp only [List.cons_append, List.nil_append, List.append_assoc, List.append_nil] at hh
    rw [hnp1] at hap
    generalize Fc = G9 at hh hn2
    replace hh := hh.comm
    simp only [List.cons_append, List.nil_append, List.append_nil, List.append_assoc] at hh
    have hM : Mem [(k3, C [.int .u32 x.id, .slice x.p x.cs.length x.c] 141)] w := (memK hh (by repeat (first | exact keeps_nil | apply keeps_cons (by repeat (first | exact find_head | apply find_tail | apply find_skip)) (by first  | rfl) | exact keeps_self | exact keeps_left | apply keeps_app | apply keeps_mv | apply keeps_skip)))
    refine d_step (fun _ => hM) ?_
    refine d_take (i := 4) hl rfl (by kernel_rfl) (by kernel_rfl) (by kernel_rfl) (by kernel_rfl) (by kernel_rfl) rfl trivial (fun _ _ _ h => h) hM (fun w hC => r_move hl rfl) rfl ?_
    clear hl a; intro a hl
    refine d_take (i := 5) hl rfl (by kernel_rfl) (by kernel_rfl) (by kernel_rfl) (by kernel_rfl) (by kernel_rfl) rfl trivial (fun _ _ _ h => h) hM (fun w hC => r_extract hl rfl (by simp only [List.getElem?_toArray, List.getElem?_cons_zero, List.getElem?_cons_succ]; rfl)) rfl ?_
    clear hl a; intro a hl
    refine d_take (i := 6) hl rfl (by kernel_rfl) (by kernel_rfl) (by kernel_rfl) (by kernel_rfl) (by kernel_rfl) rfl trivial (fun _ _ _ h => h) hM (fun w hC => r_extract hl rfl (by simp only [List.getElem?_toArray, List.getElem?_cons_zero, List.getElem?_cons_succ]; rfl)) rfl ?_
    clear hl a; intro a hl
    refine d_one (i := 8) (by kernel_rfl) rfl ?_
    try clear hM
    refine id (w_storeA hl hh trivial agg66 rfl rfl (by repeat (first | exact find_head | apply find_tail | apply find_skip)) (by first | exact NtV.len hn2 | exact NtV.len hn1) (by exact Nat.le_refl 64) (by exact NtV.one) (by first | exact setL_all (show 64 = _ from (NtV.len hn2).symm)) ?_)
    clear hh w; intro w hh
    have hM : Mem [(k3, C [.int .u32 x.id, .slice x.p x.cs.length x.c] 141)] w := (memK hh (by repeat (first | exact keeps_nil | apply keeps_cons (by repeat (first | exact find_head | apply find_tail | apply find_skip)) (by first  | rfl) | exact keeps_self | exact keeps_left | apply keeps_app | apply keeps_mv | apply keeps_skip)))
    refine d_step (fun _ => hM) ?_
    refine d_takeL (i := 9) hl rfl (by kernel_rfl) (by kernel_rfl) (by kernel_rfl) (by kernel_rfl) (by kernel_rfl) rfl trivial (fun _ _ _ h => h) (fun w => r_assign hl rfl) rfl ?_
    clear hl a; intro a hl
    refine d_done (by kernel_rfl) ?_
    try clear hM
    have hl2 := hl.add (t := 0) (hl.add (t := 4) (hl.add (t := 6) (hl.add (t := 7) (hl.nil) rfl) rfl) rfl) rfl; clear hl; have hl := hl2; clear hl2
    refine then_normal ?_
    refine c_seq ?_
    refine c_seq ?_
    refine c_region ?_
    refine wl (wl_val hl rfl trivial (r_move hl rfl) ?_)
    clear hl a; intro a hl
    refine wl (wl_val hl rfl trivial (r_not hl rfl) ?_)
    clear hl a; intro a hl
    refine w_nil ?_
    have hl2 := hl.add (t := 0) (hl.add (t := 4) (hl.add (t := 6) (hl.add (t := 16) (hl.nil) rfl) rfl) rfl) rfl; clear hl; have hl := hl2; clear hl2
    refine then_normal ?_
    refine c_cond hl rfl ?_ ?_
    · intro hc0
      try simp only [decide_eq_true_eq, decide_eq_false_iff_not, Bool.not_eq_true', Bool.not_eq_false', Bool.not_eq_true, Bool.not_eq_false, Bool.and_eq_true, Bool.or_eq_true, Bool.and_eq_false_iff, Bool.or_eq_false_iff, Bool.not_not, ne_eq, Int.not_lt, Int.not_le, Decidable.not_not, beq_iff_eq, bne_iff_ne] at hc0
      have hvc := vc_9 (g := g.pl) (cs := x.cs) (by rw [hap, hc0]; rfl)
      refine c_seq ?_
      refine c_region ?_
      refine wl (w_loadA hl hh rfl trivial agg66 rfl (by repeat (first | exact find_head | apply find_tail | apply find_skip)) (by exact NtV.whole hn2) (by first | exact NtV.len hn2 | exact NtV.len hn1) ?_)
      clear hl a; intro a hl
      refine wl (w_storeA hl hh trivial agg66 rfl rfl (by repeat (first | exact find_head | apply find_tail | apply find_skip)) (by first | exact NtV.len hn2 | exact NtV.len hn1) (by exact Nat.le_refl 64) (by exact NtV.one) (by first | exact setL_all (show 64 = _ from (NtV.len hn2).symm)) ?_)
      clear hh w; intro w hh
      refine wl (wl_val hl rfl trivial (r_assign hl rfl) ?_)
      clear hl a; intro a hl
      refine w_nil ?_
      have hl2 := hl.add (t := 4) (hl.add (t := 5) (hl.nil) rfl) rfl; clear hl; have hl := hl2; clear hl2
      refine then_normal ?_
      refine wp_ret ?_
      refine then_ret ?_
      refine f_retCT (F' := (gb, C g.c 127) :: (g.st.E ++ (Z ++ G9))) hl hh rfl rfl agg66 (by repeat (first | exact find_head | apply find_tail | apply find_skip)) (by first | rfl | exact arrL_length _ _ | exact NtV.len hn2 | (simp; done)) rfl (by repeat (first | exact keeps_nil | apply keeps_cons (by repeat (first | exact find_head | apply find_tail | apply find_skip)) (by first  | rfl) | exact keeps_self | exact keeps_left | apply keeps_app | apply keeps_mv | apply keeps_skip)) ?_
      exact ⟨n2, G9, hn2, fun h => (by rw [hvc] at h; omega), by rw [hvc], rfl⟩
    · intro hc0
      try simp only [decide_eq_true_eq, decide_eq_false_iff_not, Bool.not_eq_true', Bool.not_eq_false', Bool.not_eq_true, Bool.not_eq_false, Bool.and_eq_true, Bool.or_eq_true, Bool.and_eq_false_iff, Bool.or_eq_false_iff, Bool.not_not, ne_eq, Int.not_lt, Int.not_le, Decidable.not_not, beq_iff_eq, bne_iff_ne] at hc0
      have hap2 : apP (lastV g.pl) x.cs = some n2.pl := by rw [hap, hc0]; rfl
      refine wp_skip ?_
      refine then_normal ?_
      refine c_seq ?_
      refine c_seq ?_
      refine c_draw [(gb, C g.c 127), (k6, C n2.c 66)] [6, 7] mixed hh ?_
      clear hh w; intro w hh
      have hM : Mem [(gb, C g.c 127), (k6, C n2.c 66)] w := (memK hh (by repeat (first | exact keeps_nil | apply keeps_cons (by repeat (first | exact find_head | apply find_tail | apply find_skip)) (by first  | rfl) | exact keeps_self | exact keeps_left | apply keeps_app | apply keeps_mv | apply keeps_skip)))
      refine d_take (i := 0) hl rfl (by kernel_rfl) (by kernel_rfl) (by kernel_rfl) (by kernel_rfl) (by kernel_rfl) rfl trivial (fun _ _ _ h => h) hM (fun w hC => r_loadCA hl rfl agg66 hC (by repeat (first | exact find_head | apply find_tail | apply find_skip)) (by exact NtV.whole hn2) (by first | exact NtV.len hn2 | exact NtV.len hn1)) rfl ?_
      clear hl a; intro a hl
      refine d_take (i := 1) hl rfl (by kernel_rfl) (by kernel_rfl) (by kernel_rfl) (by kernel_rfl) (by kernel_rfl) rfl trivial (fun _ _ _ h => h) hM (fun w hC => r_move hl rfl) rfl ?_
      clear hl a; intro a hl
      refine d_take (i := 2) hl rfl (by kernel_rfl) (by kernel_rfl) (by kernel_rfl) (by kernel_rfl) (by kernel_rfl) rfl trivial (fun _ _ _ h => h) hM (fun w hC => r_nilCheck hl rfl) rfl ?_
      clear hl a; intro a hl
      refine d_take (i := 3) hl rfl (by kernel_rfl) (by kernel_rfl) (by kernel_rfl) (by kernel_rfl) (by kernel_rfl) rfl trivial (fun _ _ _ h => h) hM (fun w hC => r_field hl rfl fld127_1) rfl ?_
      clear hl a; intro a hl
      refine d_take (i := 4) hl rfl (by kernel_rfl) (by kernel_rfl) (by kernel_rfl) (by kernel_rfl) (by kernel_rfl) rfl trivial (fun _ _ _ h => h) hM (fun w hC => r_field hl rfl fld89_2) rfl ?_
      clear hl a; intro a hl
      refine d_take (i := 5) hl rfl (by kernel_rfl) (by kernel_rfl) (by kernel_rfl) (by kernel_rfl) (by kernel_rfl) rfl trivial (fun _ _ _ h => h) hM (fun w hC => r_loadC hl rfl one75 hC (by repeat (first | exact find_head | apply find_tail | apply find_skip)) (by first | exact gtc_led _ | exact gtc_ep _ | exact gtc_vs _ | exact gtc_is _ | exact gtc_fid _ | exact gtc_ph _ | exact gtc_vd _ | exact gtc_q _ | exact gtc_rf _ | exact gtc_ys _ | exact gtc_dn _ | exact gtc_tk _ | exact gtc_au _ | exact gtc_o _ | exact gtc_off _ | rfl)) rfl ?_
      clear hl a; intro a hl
      refine d_one (i := 6) (by kernel_rfl) rfl ?_
      try clear hM
      refine id (w_call hl hh rfl trivial rfl cal58 rfl (check_spec (Z ++ G9) n2 hn2 g.st.is hg.st.io g.st.ip g.st.ic g.st.iE hg.st.i (by have := hg.st.il; omega)) (by repeat (first | exact keeps_nil | apply keeps_cons (by repeat (first | exact find_head | apply find_tail | apply find_skip)) (by first  | rfl) | exact keeps_self | exact keeps_left | apply keeps_app | apply keeps_mv | apply keeps_skip)) ⟨fun b o m => (by rcases List.mem_append.1 m with m | m; exact memK (E := Z) hh (by repeat (first | exact keeps_nil | apply keeps_cons (by repeat (first | exact find_head | apply find_tail | apply find_skip)) (by first  | rfl) | exact keeps_self | exact keeps_left | apply keeps_app | apply keeps_mv | apply keeps_skip)) b o m; exact memK (E := G9) hh (by repeat (first | exact keeps_nil | apply keeps_cons (by repeat (first | exact find_head | apply find_tail | apply find_skip)) (by first  | rfl) | exact keeps_self | exact keeps_left | apply keeps_app | apply keeps_mv | apply keeps_skip)) b o m), fun b o m => memK (E := g.st.E) hh (by repeat (first | exact keeps_nil | apply keeps_cons (by repeat (first | exact find_head | apply find_tail | apply find_skip)) (by first  | rfl) | exact keeps_self | exact keeps_left | apply keeps_app | apply keeps_mv | apply keeps_skip)) b o (inE_i m)⟩ ?_)
      clear hl hh a w; intro vc Fc a w hR hl hh
      obtain ⟨rfl, rfl⟩ := hR
      try simp only [List.cons_append, List.nil_append, List.append_assoc, List.append_nil] at hh
      refine d_step (fun h => absurd h (by decide)) ?_
      refine d_takeL (i := 7) hl rfl (by kernel_rfl) (by kernel_rfl) (by kernel_rfl) (by kernel_rfl) (by kernel_rfl) rfl trivial (fun _ _ _ h => h) (fun w => r_not hl rfl) rfl ?_
      clear hl a; intro a hl
      refine d_done (by kernel_rfl) ?_
      try clear hM
      have hl2 := hl.add (t := 4) (hl.add (t := 6) (hl.add (t := 25) (hl.nil) rfl) rfl) rfl; clear hl; have hl := hl2; clear hl2
      refine then_normal ?_
      refine c_cond hl rfl ?_ ?_
      · intro hc1
        try simp only [decide_eq_true_eq, decide_eq_false_iff_not, Bool.not_eq_true', Bool.not_eq_false', Bool.not_eq_true, Bool.not_eq_false, Bool.and_eq_true, Bool.or_eq_true, Bool.and_eq_false_iff, Bool.or_eq_false_iff, Bool.not_not, ne_eq, Int.not_lt, Int.not_le, Decidable.not_not, beq_iff_eq, bne_iff_ne] at hc1
        have hvc := vc_10 (g := g.pl) hap2 hc1
        refine c_seq ?_
        refine c_region ?_
        refine wl (w_loadA hl hh rfl trivial agg66 rfl (by repeat (first | exact find_head | apply find_tail | apply find_skip)) (by exact NtV.whole hn2) (by first | exact NtV.len hn2 | exact NtV.len hn1) ?_)
        clear hl a; intro a hl
        refine wl (w_storeA hl hh trivial agg66 rfl rfl (by repeat (first | exact find_head | apply find_tail | apply find_skip)) (by first | exact NtV.len hn2 | exact NtV.len hn1) (by exact Nat.le_refl 64) (by exact NtV.one) (by first | exact setL_all (show 64 = _ from (NtV.len hn2).symm)) ?_)
        clear hh w; intro w hh
        refine wl (wl_val hl rfl trivial (r_assign hl rfl) ?_)
        clear hl a; intro a hl
        refine w_nil ?_
        have hl2 := hl.add (t := 4) (hl.add (t := 5) (hl.nil) rfl) rfl; clear hl; have hl := hl2; clear hl2
        refine then_normal ?_
        refine wp_ret ?_
        refine then_ret ?_
        refine f_retCT (F' := (gb, C g.c 127) :: (g.st.E ++ (Z ++ G9))) hl hh rfl rfl agg66 (by repeat (first | exact find_head | apply find_tail | apply find_skip)) (by first | rfl | exact arrL_length _ _ | exact NtV.len hn2 | (simp; done)) rfl (by repeat (first | exact keeps_nil | apply keeps_cons (by repeat (first | exact find_head | apply find_tail | apply find_skip)) (by first  | rfl) | exact keeps_self | exact keeps_left | apply keeps_app | apply keeps_mv | apply keeps_skip)) ?_
        exact ⟨n2, G9, hn2, fun _ => hap2, by rw [hvc], rfl⟩
      · intro hc1
        try simp only [decide_eq_true_eq, decide_eq_false_iff_not, Bool.not_eq_true', Bool.not_eq_false', Bool.not_eq_true, Bool.not_eq_false, Bool.and_eq_true, Bool.or_eq_true, Bool.and_eq_false_iff, Bool.or_eq_false_iff, Bool.not_not, ne_eq, Int.not_lt, Int.not_le, Decidable.not_not, beq_iff_eq, bne_iff_ne] at hc1
        have hvc := vc_0 (g := g.pl) hap2 hc1
        refine wp_skip ?_
        refine then_normal ?_
        refine c_seq ?_
        refine c_region ?_
        refine wl (w_loadA hl hh rfl trivial agg66 rfl (by repeat (first | exact find_head | apply find_tail | apply find_skip)) (by exact NtV.whole hn2) (by first | exact NtV.len hn2 | exact NtV.len hn1) ?_)
        clear hl a; intro a hl
        refine wl (w_storeA hl hh trivial agg66 rfl rfl (by repeat (first | exact find_head | apply find_tail | apply find_skip)) (by first | exact NtV.len hn2 | exact NtV.len hn1) (by exact Nat.le_refl 64) (by exact NtV.one) (by first | exact setL_all (show 64 = _ from (NtV.len hn2).symm)) ?_)
        clear hh w; intro w hh
        refine wl (wl_val hl rfl trivial (r_assign hl rfl) ?_)
        clear hl a; intro a hl
        refine w_nil ?_
        have hl2 := hl.add (t := 4) (hl.add (t := 5) (hl.nil) rfl) rfl; clear hl; have hl := hl2; clear hl2
        refine then_normal ?_
        refine wp_ret ?_
        refine f_retCT (F' := (gb, C g.c 127) :: (g.st.E ++ (Z ++ G9))) hl hh rfl rfl agg66 (by repeat (first | exact find_head | apply find_tail | apply find_skip)) (by first | rfl | exact arrL_length _ _ | exact NtV.len hn2 | (simp; done)) rfl (by repeat (first | exact keeps_nil | apply keeps_cons (by repeat (first | exact find_head | apply find_tail | apply find_skip)) (by first  | rfl) | exact keeps_self | exact keeps_left | apply keeps_app | apply keeps_mv | apply keeps_skip)) ?_
        exact ⟨n2, G9, hn2, fun _ => hap2, by rw [hvc], rfl⟩
end Go.Proofs.Qxb6500908aGreat

import Derived.Test.Qxb6500908aGreatW13
namespace Go.Proofs.Qxb6500908aGreat
open Go.Eng
set_option linter.unusedVariables false
set_option linter.unusedSimpArgs false
theorem cal52 : callable Tryz.prog 52 = true := by kernel_rfl
theorem fld38_1 : fieldOk Tryz.prog 38 1 1 = true := by kernel_rfl
theorem fld38_2 : fieldOk Tryz.prog 38 2 2 = true := by kernel_rfl
theorem fld38_3 : fieldOk Tryz.prog 38 3 3 = true := by kernel_rfl
theorem fld38_0 : fieldOk Tryz.prog 38 0 0 = true := by kernel_rfl
theorem one35 : oneOk Tryz.prog 35 = true := by kernel_rfl
theorem fld38_4 : fieldOk Tryz.prog 38 4 4 = true := by kernel_rfl
theorem fld38_5 : fieldOk Tryz.prog 38 5 5 = true := by kernel_rfl
theorem fld38_6 : fieldOk Tryz.prog 38 6 6 = true := by kernel_rfl
theorem sh1_eq (b : Int) : sh1 b = IntKind.u16.wrap (1 * 2 ^ (min b.toNat IntKind.u16.bits)) := rfl

attribute [local irreducible] NtV.k StV.c LdV.c StV.E GtV.c GtV.t orB sh1

set_option maxHeartbeats 4000000 in
theorem deliver_spec (Z : List (Nat × Obj)) (gb : Nat) (g : GtV) (l : LdV) (hg : g.ok Z) (hl9 : l.ok Z) (hol : g.out.length ≤ 40) (hvl : g.st.vs.length < 1000000000) (m : Ms) (hm : m.ok) : Sp Tryz.prog 39 #[.pointer (some ⟨gb, 0, none⟩), .agg ⟨msc m⟩] (GF gb g l Z) (fun v F' => v = .tuple #[] ∧ GO gb g.led (delvP g.pl l.pl m) Z F') := by
  refine f_enter (args := [.pointer (some ⟨gb, 0, none⟩), .agg ⟨[.int .u8 m.k, .int .u8 m.d, .int .u32 m.e, .int .u32 m.b, .bool m.y, .int .u32 m.r, .int .u32 m.s, .string m.t]⟩]) Tryz.func39 rfl Tryz.ntmps39 rfl ?_
  intro w0 w a hpre hl hh
  generalize hDD : List.map Prod.fst (GF gb g l Z) = D at hh ⊢
  simp only [GF] at hh
  obtain ⟨hmk, hmd, hme, hmb, hmr, hms⟩ := hm
  simp only [slotsFrom, Nat.reduceAdd] at hl
  refine c_seq ?_
  refine c_region ?_
  refine wl (w_box hl hh rfl trivial rfl rfl ?_)
  clear hl hh a w; intro k3 a w hl hh
  refine w_nil ?_
  have hl2 := hl.add (t := 0) (hl.add (t := 3) (hl.nil) rfl) rfl; clear hl; have hl := hl2; clear hl2
  refine then_normal ?_
  refine c_seq ?_
  refine c_region ?_
  refine wl (wl_val hl rfl trivial (r_move hl rfl) ?_)
  clear hl a; intro a hl
  refine wl (wl_val hl rfl trivial (r_nilCheck hl rfl) ?_)
  clear hl a; intro a hl
  refine wl (wl_val hl rfl trivial (r_field hl rfl fld127_1) ?_)
  clear hl a; intro a hl
  refine wl (wl_val hl rfl trivial (r_field hl rfl fld89_3) ?_)
  clear hl a; intro a hl
  refine wl (w_loadA hl hh rfl trivial agg87 rfl (by repeat (first | exact find_head | apply find_tail | apply find_skip)) (by exact gtc_fl _) (by (simp [ntk_len]; done)) ?_)
  clear hl a; intro a hl
  refine wl (w_alloc hl hh rfl trivial zero87 rfl ?_)
  clear hl hh a w; intro k4 a w hl hh
  refine wl (w_storeA hl hh trivial agg87 rfl rfl (by repeat (first | exact find_head | apply find_tail | apply find_skip)) (by (simp [ntk_len]; done)) (by exact Nat.le_refl 66) (by (rw [List.all_cons, List.all_cons, ntk_one]; rfl)) (by exact setL_all (by simp [ntk_len])) ?_)
  clear hh w; intro w hh
  refine w_nil ?_
  have hl2 := hl.add (t := 0) (hl.add (t := 3) (hl.add (t := 4) (hl.nil) rfl) rfl) rfl; clear hl; have hl := hl2; clear hl2
  refine then_normal ?_
  refine c_seq ?_
  refine c_seq ?_
  refine c_draw [(gb, C g.c 127), (k3, C [.int .u8 m.k, .int .u8 m.d, .int .u32 m.e, .int .u32 m.b, .bool m.y, .int .u32 m.r, .int .u32 m.s, .string m.t] 38), (k4, C (.int .u32 g.st.fid :: .int .u8 g.st.ph :: g.st.fn.k) 87)] [29, 30] mixed hh ?_
  clear hh w; intro w hh
  have hM : Mem [(gb, C g.c 127), (k3, C [.int .u8 m.k, .int .u8 m.d, .int .u32 m.e, .int .u32 m.b, .bool m.y, .int .u32 m.r, .int .u32 m.s, .string m.t] 38), (k4, C (.int .u32 g.st.fid :: .int .u8 g.st.ph :: g.st.fn.k) 87)] w := (memK hh (by repeat (first | exact keeps_nil | apply keeps_cons (by repeat (first | exact find_head | apply find_tail | apply find_skip)) (by first  | rfl) | exact keeps_self | exact keeps_left | apply keeps_app | apply keeps_mv | apply keeps_skip)))
  refine d_take (i := 0) hl rfl (by kernel_rfl) (by kernel_rfl) (by kernel_rfl) (by kernel_rfl) (by kernel_rfl) rfl trivial (fun _ _ _ h => h) hM (fun w hC => r_move hl rfl) rfl ?_
  clear hl a; intro a hl
  refine d_take (i := 1) hl rfl (by kernel_rfl) (by kernel_rfl) (by kernel_rfl) (by kernel_rfl) (by kernel_rfl) rfl trivial (fun _ _ _ h => h) hM (fun w hC => r_nilCheck hl rfl) rfl ?_
  clear hl a; intro a hl
  refine d_take (i := 2) hl rfl (by kernel_rfl) (by kernel_rfl) (by kernel_rfl) (by kernel_rfl) (by kernel_rfl) rfl trivial (fun _ _ _ h => h) hM (fun w hC => r_field hl rfl fld127_10) rfl ?_
  clear hl a; intro a hl
  refine d_take (i := 3) hl rfl (by kernel_rfl) (by kernel_rfl) (by kernel_rfl) (by kernel_rfl) (by kernel_rfl) rfl trivial (fun _ _ _ h => h) hM (fun w hC => r_loadC hl rfl one4 hC (by repeat (first | exact find_head | apply find_tail | apply find_skip)) (by first | exact gtc_led _ | exact gtc_ep _ | exact gtc_vs _ | exact gtc_is _ | exact gtc_fid _ | exact gtc_ph _ | exact gtc_vd _ | exact gtc_q _ | exact gtc_rf _ | exact gtc_ys _ | exact gtc_dn _ | exact gtc_tk _ | exact gtc_au _ | exact gtc_o _ | exact gtc_off _ | rfl)) rfl ?_
  clear hl a; intro a hl
  refine d_take (i := 4) hl rfl (by kernel_rfl) (by kernel_rfl) (by kernel_rfl) (by kernel_rfl) (by kernel_rfl) rfl trivial (fun _ _ _ h => h) hM (fun w hC => r_move hl rfl) rfl ?_
  clear hl a; intro a hl
  refine sl_split (t := 15) hl rfl ?_ ?_
  · intro hg1; clear hl; intro hl
    try simp only [decide_eq_true_eq, decide_eq_false_iff_not, Bool.not_eq_true', Bool.not_eq_false', Bool.not_eq_true, Bool.not_eq_false, Bool.and_eq_true, Bool.or_eq_true, Bool.and_eq_false_iff, Bool.or_eq_false_iff, Bool.not_not, ne_eq, Int.not_lt, Int.not_le, Decidable.not_not, beq_iff_eq, bne_iff_ne] at hg1
    refine d_skip (i := 5) hl rfl (by kernel_rfl) (by kernel_rfl) (by kernel_rfl) (by kernel_rfl) (by kernel_rfl) rfl ⟨_, _, rfl, rfl, rfl⟩ (fun _ _ _ h => h) hM ?_
    clear hl a; intro a hl
    refine d_skip (i := 6) hl rfl (by kernel_rfl) (by kernel_rfl) (by kernel_rfl) (by kernel_rfl) (by kernel_rfl) rfl ⟨_, _, rfl, rfl, rfl⟩ (fun _ _ _ h => h) hM ?_
    clear hl a; intro a hl
    refine d_skip (i := 7) hl rfl (by kernel_rfl) (by kernel_rfl) (by kernel_rfl) (by kernel_rfl) (by kernel_rfl) rfl ⟨_, _, rfl, rfl, rfl⟩ (fun _ _ _ h => h) hM ?_
    clear hl a; intro a hl
    refine d_take (i := 8) hl rfl (by kernel_rfl) (by kernel_rfl) (by kernel_rfl) (by kernel_rfl) (by kernel_rfl) rfl trivial (fun _ _ _ h => h) hM (fun w hC => r_pickT hl rfl rfl) rfl ?_
    clear hl a; intro a hl
    refine d_take (i := 9) hl rfl (by kernel_rfl) (by kernel_rfl) (by kernel_rfl) (by kernel_rfl) (by kernel_rfl) rfl trivial (fun _ _ _ h => h) hM (fun w hC => r_move hl rfl) rfl ?_
    clear hl a; intro a hl
    refine d_skip (i := 10) hl rfl (by kernel_rfl) (by kernel_rfl) (by kernel_rfl) (by kernel_rfl) (by kernel_rfl) rfl ⟨_, _, rfl, rfl, rfl⟩ (fun _ _ _ h => h) hM ?_
    clear hl a; intro a hl
    refine d_skip (i := 11) hl rfl (by kernel_rfl) (by kernel_rfl) (by kernel_rfl) (by kernel_rfl) (by kernel_rfl) rfl ⟨_, _, rfl, rfl, rfl⟩ (fun _ _ _ h => h) hM ?_
    clear hl a; intro a hl
    refine d_skip (i := 12) hl rfl (by kernel_rfl) (by kernel_rfl) (by kernel_rfl) (by kernel_rfl) (by kernel_rfl) rfl ⟨_, _, rfl, rfl, rfl⟩ (fun _ _ _ h => h) hM ?_
    clear hl a; intro a hl
    refine d_take (i := 13) hl rfl (by kernel_rfl) (by kernel_rfl) (by kernel_rfl) (by kernel_rfl) (by kernel_rfl) rfl trivial (fun _ _ _ h => h) hM (fun w hC => r_pickT hl rfl rfl) rfl ?_
    clear hl a; intro a hl
    refine d_take (i := 14) hl rfl (by kernel_rfl) (by kernel_rfl) (by kernel_rfl) (by kernel_rfl) (by kernel_rfl) rfl trivial (fun _ _ _ h => h) hM (fun w hC => r_move hl rfl) rfl ?_
    clear hl a; intro a hl
    refine d_skip (i := 15) hl rfl (by kernel_rfl) (by kernel_rfl) (by kernel_rfl) (by kernel_rfl) (by kernel_rfl) rfl ⟨_, _, rfl, rfl, rfl⟩ (fun _ _ _ h => h) hM ?_
    clear hl a; intro a hl
    refine d_skip (i := 16) hl rfl (by kernel_rfl) (by kernel_rfl) (by kernel_rfl) (by kernel_rfl) (by kernel_rfl) rfl ⟨_, _, rfl, rfl, rfl⟩ (fun _ _ _ h => h) hM ?_
    clear hl a; intro a hl
    refine d_skip (i := 17) hl rfl (by kernel_rfl) (by kernel_rfl) (by kernel_rfl) (by kernel_rfl) (by kernel_rfl) rfl ⟨_, _, rfl, rfl, rfl⟩ (fun _ _ _ h => h) hM ?_
    clear hl a; intro a hl
    refine d_skip (i := 18) hl rfl (by kernel_rfl) (by kernel_rfl) (by kernel_rfl) (by kernel_rfl) (by kernel_rfl) rfl ⟨_, _, rfl, rfl, rfl⟩ (fun _ _ _ h => h) hM ?_
    clear hl a; intro a hl
    refine d_skip (i := 19) hl rfl (by kernel_rfl) (by kernel_rfl) (by kernel_rfl) (by kernel_rfl) (by kernel_rfl) rfl ⟨_, _, rfl, rfl, rfl⟩ (fun _ _ _ h => h) hM ?_
    clear hl a; intro a hl
    refine d_skip (i := 20) hl rfl (by kernel_rfl) (by kernel_rfl) (by kernel_rfl) (by kernel_rfl) (by kernel_rfl) rfl ⟨_, _, rfl, rfl, rfl⟩ (fun _ _ _ h => h) hM ?_
    clear hl a; intro a hl
    refine d_skip (i := 21) hl rfl (by kernel_rfl) (by kernel_rfl) (by kernel_rfl) (by kernel_rfl) (by kernel_rfl) rfl ⟨_, _, rfl, rfl, rfl⟩ (fun _ _ _ h => h) hM ?_
    clear hl a; intro a hl
    refine d_skip (i := 22) hl rfl (by kernel_rfl) (by kernel_rfl) (by kernel_rfl) (by kernel_rfl) (by kernel_rfl) rfl ⟨_, _, rfl, rfl, rfl⟩ (fun _ _ _ h => h) hM ?_
    clear hl a; intro a hl
    refine d_take (i := 23) hl rfl (by kernel_rfl) (by kernel_rfl) (by kernel_rfl) (by kernel_rfl) (by kernel_rfl) rfl trivial (fun _ _ _ h => h) hM (fun w hC => r_pickT hl rfl rfl) rfl ?_
    clear hl a; intro a hl
    refine d_take (i := 24) hl rfl (by kernel_rfl) (by kernel_rfl) (by kernel_rfl) (by kernel_rfl) (by kernel_rfl) rfl trivial (fun _ _ _ h => h) hM (fun w hC => r_move hl rfl) rfl ?_
    clear hl a; intro a hl
    refine d_skip (i := 25) hl rfl (by kernel_rfl) (by kernel_rfl) (by kernel_rfl) (by kernel_rfl) (by kernel_rfl) rfl ⟨_, _, rfl, rfl, rfl⟩ (fun _ _ _ h => h) hM ?_
    clear hl a; intro a hl
    refine d_skip (i := 26) hl rfl (by kernel_rfl) (by kernel_rfl) (by kernel_rfl) (by kernel_rfl) (by kernel_rfl) rfl ⟨_, _, rfl, rfl, rfl⟩ (fun _ _ _ h => h) hM ?_
    clear hl a; intro a hl
    refine d_skip (i := 27) hl rfl (by kernel_rfl) (by kernel_rfl) (by kernel_rfl) (by kernel_rfl) (by kernel_rfl) rfl ⟨_, _, rfl, rfl, rfl⟩ (fun _ _ _ h => h) hM ?_
    clear hl a; intro a hl
    refine d_skip (i := 28) hl rfl (by kernel_rfl) (by kernel_rfl) (by kernel_rfl) (by kernel_rfl) (by kernel_rfl) rfl ⟨_, _, rfl, rfl, rfl⟩ (fun _ _ _ h => h) hM ?_
    clear hl a; intro a hl
    refine d_skip (i := 29) hl rfl (by kernel_rfl) (by kernel_rfl) (by kernel_rfl) (by kernel_rfl) (by kernel_rfl) rfl ⟨_, _, rfl, rfl, rfl⟩ (fun _ _ _ h => h) hM ?_
    clear hl a; intro a hl
    refine d_takeL (i := 30) hl rfl (by kernel_rfl) (by kernel_rfl) (by kernel_rfl) (by kernel_rfl) (by kernel_rfl) rfl trivial (fun _ _ _ h => h) (fun w => r_pickT hl rfl rfl) rfl ?_
    clear hl a; intro a hl
    refine d_done (by kernel_rfl) ?_
    try clear hM
    have hl2 := hl.add (t := 0) (hl.add (t := 3) (hl.add (t := 4) (hl.add (t := 41) (hl.nil) rfl) rfl) rfl) rfl; clear hl; have hl := hl2; clear hl2
    refine then_normal ?_
    refine c_condT hl rfl ?_
    have hf := dl_n (g := g.pl) (l := l.pl) (m := m) (fun ⟨q1, q2, q3, q4, q5⟩ => by have q1 : g.off = false := q1; have q2 : ¬ g.st.ph = 0 := q2; have q4 : m.e = g.st.ep := q4; have q5 : m.b = g.st.fid := q5; first | omega | (simp_all; done))
    refine wp_ret ?_
    refine then_ret ?_
    refine f_ret0 (F' := (gb, C (GtV.c g) 127) :: (g.st.E ++ (g.qE ++ ((g.rb, MD (kInt .u32) g.rl g.rn) :: (g.oE ++ ((g.led, C (LdV.c l) 91) :: (l.d.E ++ Z))))))) hl hh rfl (by repeat (first | exact keeps_nil | apply keeps_cons (by repeat (first | exact find_head | apply find_tail | apply find_skip)) (by first  | rfl) | exact keeps_self | exact keeps_left | apply keeps_app | apply keeps_mv | apply keeps_skip)) ?_
    exact ⟨rfl, GO.same hg hl9 (by rw [hf]) (by rw [hf]) rfl⟩
  · intro hg1; clear hl; intro hl
    try simp only [decide_eq_true_eq, decide_eq_false_iff_not, Bool.not_eq_true', Bool.not_eq_false', Bool.not_eq_true, Bool.not_eq_false, Bool.and_eq_true, Bool.or_eq_true, Bool.and_eq_false_iff, Bool.or_eq_false_iff, Bool.not_not, ne_eq, Int.not_lt, Int.not_le, Decidable.not_not, beq_iff_eq, bne_iff_ne] at hg1
    refine d_take (i := 5) hl rfl (by kernel_rfl) (by kernel_rfl) (by kernel_rfl) (by kernel_rfl) (by kernel_rfl) rfl ⟨_, _, rfl, rfl, rfl⟩ (fun _ _ _ h => h) hM (fun w hC => r_field hl rfl fld87_1) rfl ?_
    clear hl a; intro a hl
    refine d_take (i := 6) hl rfl (by kernel_rfl) (by kernel_rfl) (by kernel_rfl) (by kernel_rfl) (by kernel_rfl) rfl ⟨_, _, rfl, rfl, rfl⟩ (fun _ _ _ h => h) hM (fun w hC => r_loadC hl rfl one76 hC (by repeat (first | exact find_head | apply find_tail | apply find_skip)) (by first | exact gtc_led _ | exact gtc_ep _ | exact gtc_vs _ | exact gtc_is _ | exact gtc_fid _ | exact gtc_ph _ | exact gtc_vd _ | exact gtc_q _ | exact gtc_rf _ | exact gtc_ys _ | exact gtc_dn _ | exact gtc_tk _ | exact gtc_au _ | exact gtc_o _ | exact gtc_off _ | rfl)) rfl ?_
    clear hl a; intro a hl
    refine d_take (i := 7) hl rfl (by kernel_rfl) (by kernel_rfl) (by kernel_rfl) (by kernel_rfl) (by kernel_rfl) rfl ⟨_, _, rfl, rfl, rfl⟩ (fun _ _ _ h => h) hM (fun w hC => r_eql hl rfl rfl) rfl ?_
    clear hl a; intro a hl
    refine d_take (i := 8) hl rfl (by kernel_rfl) (by kernel_rfl) (by kernel_rfl) (by kernel_rfl) (by kernel_rfl) rfl trivial (fun _ _ _ h => h) hM (fun w hC => r_pickF hl rfl rfl) rfl ?_
    clear hl a; intro a hl
    refine d_take (i := 9) hl rfl (by kernel_rfl) (by kernel_rfl) (by kernel_rfl) (by kernel_rfl) (by kernel_rfl) rfl trivial (fun _ _ _ h => h) hM (fun w hC => r_move hl rfl) rfl ?_
    clear hl a; intro a hl
    refine sl_split (t := 20) hl rfl ?_ ?_
    · intro hg2; clear hl; intro hl
      try simp only [decide_eq_true_eq, decide_eq_false_iff_not, Bool.not_eq_true', Bool.not_eq_false', Bool.not_eq_true, Bool.not_eq_false, Bool.and_eq_true, Bool.or_eq_true, Bool.and_eq_false_iff, Bool.or_eq_false_iff, Bool.not_not, ne_eq, Int.not_lt, Int.not_le, Decidable.not_not, beq_iff_eq, bne_iff_ne] at hg2
      refine d_skip (i := 10) hl rfl (by kernel_rfl) (by kernel_rfl) (by kernel_rfl) (by kernel_rfl) (by kernel_rfl) rfl ⟨_, _, rfl, rfl, rfl⟩ (fun _ _ _ h => h) hM ?_
      clear hl a; intro a hl
      refine d_skip (i := 11) hl rfl (by kernel_rfl) (by kernel_rfl) (by kernel_rfl) (by kernel_rfl) (by kernel_rfl) rfl ⟨_, _, rfl, rfl, rfl⟩ (fun _ _ _ h => h) hM ?_
      clear hl a; intro a hl
      refine d_skip (i := 12) hl rfl (by kernel_rfl) (by kernel_rfl) (by kernel_rfl) (by kernel_rfl) (by kernel_rfl) rfl ⟨_, _, rfl, rfl, rfl⟩ (fun _ _ _ h => h) hM ?_
      clear hl a; intro a hl
      refine d_take (i := 13) hl rfl (by kernel_rfl) (by kernel_rfl) (by kernel_rfl) (by kernel_rfl) (by kernel_rfl) rfl trivial (fun _ _ _ h => h) hM (fun w hC => r_pickT hl rfl rfl) rfl ?_
      clear hl a; intro a hl
      refine d_take (i := 14) hl rfl (by kernel_rfl) (by kernel_rfl) (by kernel_rfl) (by kernel_rfl) (by kernel_rfl) rfl trivial (fun _ _ _ h => h) hM (fun w hC => r_move hl rfl) rfl ?_
      clear hl a; intro a hl
      refine d_skip (i := 15) hl rfl (by kernel_rfl) (by kernel_rfl) (by kernel_rfl) (by kernel_rfl) (by kernel_rfl) rfl ⟨_, _, rfl, rfl, rfl⟩ (fun _ _ _ h => h) hM ?_
      clear hl a; intro a hl
      refine d_skip (i := 16) hl rfl (by kernel_rfl) (by kernel_rfl) (by kernel_rfl) (by kernel_rfl) (by kernel_rfl) rfl ⟨_, _, rfl, rfl, rfl⟩ (fun _ _ _ h => h) hM ?_
      clear hl a; intro a hl
      refine d_skip (i := 17) hl rfl (by kernel_rfl) (by kernel_rfl) (by kernel_rfl) (by kernel_rfl) (by kernel_rfl) rfl ⟨_, _, rfl, rfl, rfl⟩ (fun _ _ _ h => h) hM ?_
      clear hl a; intro a hl
      refine d_skip (i := 18) hl rfl (by kernel_rfl) (by kernel_rfl) (by kernel_rfl) (by kernel_rfl) (by kernel_rfl) rfl ⟨_, _, rfl, rfl, rfl⟩ (fun _ _ _ h => h) hM ?_
      clear hl a; intro a hl
      refine d_skip (i := 19) hl rfl (by kernel_rfl) (by kernel_rfl) (by kernel_rfl) (by kernel_rfl) (by kernel_rfl) rfl ⟨_, _, rfl, rfl, rfl⟩ (fun _ _ _ h => h) hM ?_
      clear hl a; intro a hl
      refine d_skip (i := 20) hl rfl (by kernel_rfl) (by kernel_rfl) (by kernel_rfl) (by kernel_rfl) (by kernel_rfl) rfl ⟨_, _, rfl, rfl, rfl⟩ (fun _ _ _ h => h) hM ?_
      clear hl a; intro a hl
      refine d_skip (i := 21) hl rfl (by kernel_rfl) (by kernel_rfl) (by kernel_rfl) (by kernel_rfl) (by kernel_rfl) rfl ⟨_, _, rfl, rfl, rfl⟩ (fun _ _ _ h => h) hM ?_
      clear hl a; intro a hl
      refine d_skip (i := 22) hl rfl (by kernel_rfl) (by kernel_rfl) (by kernel_rfl) (by kernel_rfl) (by kernel_rfl) rfl ⟨_, _, rfl, rfl, rfl⟩ (fun _ _ _ h => h) hM ?_
      clear hl a; intro a hl
      refine d_take (i := 23) hl rfl (by kernel_rfl) (by kernel_rfl) (by kernel_rfl) (by kernel_rfl) (by kernel_rfl) rfl trivial (fun _ _ _ h => h) hM (fun w hC => r_pickT hl rfl rfl) rfl ?_
      clear hl a; intro a hl
      refine d_take (i := 24) hl rfl (by kernel_rfl) (by kernel_rfl) (by kernel_rfl) (by kernel_rfl) (by kernel_rfl) rfl trivial (fun _ _ _ h => h) hM (fun w hC => r_move hl rfl) rfl ?_
      clear hl a; intro a hl
      refine d_skip (i := 25) hl rfl (by kernel_rfl) (by kernel_rfl) (by kernel_rfl) (by kernel_rfl) (by kernel_rfl) rfl ⟨_, _, rfl, rfl, rfl⟩ (fun _ _ _ h => h) hM ?_
      clear hl a; intro a hl
      refine d_skip (i := 26) hl rfl (by kernel_rfl) (by kernel_rfl) (by kernel_rfl) (by kernel_rfl) (by kernel_rfl) rfl ⟨_, _, rfl, rfl, rfl⟩ (fun _ _ _ h => h) hM ?_
      clear hl a; intro a hl
      refine d_skip (i := 27) hl rfl (by kernel_rfl) (by kernel_rfl) (by kernel_rfl) (by kernel_rfl) (by kernel_rfl) rfl ⟨_, _, rfl, rfl, rfl⟩ (fun _ _ _ h => h) hM ?_
      clear hl a; intro a hl
      refine d_skip (i := 28) hl rfl (by kernel_rfl) (by kernel_rfl) (by kernel_rfl) (by kernel_rfl) (by kernel_rfl) rfl ⟨_, _, rfl, rfl, rfl⟩ (fun _ _ _ h => h) hM ?_
      clear hl a; intro a hl
      refine d_skip (i := 29) hl rfl (by kernel_rfl) (by kernel_rfl) (by kernel_rfl) (by kernel_rfl) (by kernel_rfl) rfl ⟨_, _, rfl, rfl, rfl⟩ (fun _ _ _ h => h) hM ?_
      clear hl a; intro a hl
      refine d_takeL (i := 30) hl rfl (by kernel_rfl) (by kernel_rfl) (by kernel_rfl) (by kernel_rfl) (by kernel_rfl) rfl trivial (fun _ _ _ h => h) (fun w => r_pickT hl rfl rfl) rfl ?_
      clear hl a; intro a hl
      refine d_done (by kernel_rfl) ?_
      try clear hM
      have hl2 := hl.add (t := 0) (hl.add (t := 3) (hl.add (t := 4) (hl.add (t := 41) (hl.nil) rfl) rfl) rfl) rfl; clear hl; have hl := hl2; clear hl2
      refine then_normal ?_
      refine c_condT hl rfl ?_
      have hf := dl_n (g := g.pl) (l := l.pl) (m := m) (fun ⟨q1, q2, q3, q4, q5⟩ => by have q1 : g.off = false := q1; have q2 : ¬ g.st.ph = 0 := q2; have q4 : m.e = g.st.ep := q4; have q5 : m.b = g.st.fid := q5; first | omega | (simp_all; done))
      refine wp_ret ?_
      refine then_ret ?_
      refine f_ret0 (F' := (gb, C (GtV.c g) 127) :: (g.st.E ++ (g.qE ++ ((g.rb, MD (kInt .u32) g.rl g.rn) :: (g.oE ++ ((g.led, C (LdV.c l) 91) :: (l.d.E ++ Z))))))) hl hh rfl (by repeat (first | exact keeps_nil | apply keeps_cons (by repeat (first | exact find_head | apply find_tail | apply find_skip)) (by first  | rfl) | exact keeps_self | exact keeps_left | apply keeps_app | apply keeps_mv | apply keeps_skip)) ?_
      exact ⟨rfl, GO.same hg hl9 (by rw [hf]) (by rw [hf]) rfl⟩
    · intro hg2; clear hl; intro hl
      try simp only [decide_eq_true_eq, decide_eq_false_iff_not, Bool.not_eq_true', Bool.not_eq_false', Bool.not_eq_true, Bool.not_eq_false, Bool.and_eq_true, Bool.or_eq_true, Bool.and_eq_false_iff, Bool.or_eq_false_iff, Bool.not_not, ne_eq, Int.not_lt, Int.not_le, Decidable.not_not, beq_iff_eq, bne_iff_ne] at hg2
      refine d_take (i := 10) hl rfl (by kernel_rfl) (by kernel_rfl) (by kernel_rfl) (by kernel_rfl) (by kernel_rfl) rfl ⟨_, _, rfl, rfl, rfl⟩ (fun _ _ _ h => h) hM (fun w hC => r_field hl rfl fld38_1) rfl ?_
      clear hl a; intro a hl
      refine d_take (i := 11) hl rfl (by kernel_rfl) (by kernel_rfl) (by kernel_rfl) (by kernel_rfl) (by kernel_rfl) rfl ⟨_, _, rfl, rfl, rfl⟩ (fun _ _ _ h => h) hM (fun w hC => r_loadC hl rfl one5 hC (by repeat (first | exact find_head | apply find_tail | apply find_skip)) (by first | exact gtc_led _ | exact gtc_ep _ | exact gtc_vs _ | exact gtc_is _ | exact gtc_fid _ | exact gtc_ph _ | exact gtc_vd _ | exact gtc_q _ | exact gtc_rf _ | exact gtc_ys _ | exact gtc_dn _ | exact gtc_tk _ | exact gtc_au _ | exact gtc_o _ | exact gtc_off _ | rfl)) rfl ?_
      clear hl a; intro a hl
      refine d_take (i := 12) hl rfl (by kernel_rfl) (by kernel_rfl) (by kernel_rfl) (by kernel_rfl) (by kernel_rfl) rfl ⟨_, _, rfl, rfl, rfl⟩ (fun _ _ _ h => h) hM (fun w hC => r_geq hl rfl rfl) rfl ?_
      clear hl a; intro a hl
      refine d_take (i := 13) hl rfl (by kernel_rfl) (by kernel_rfl) (by kernel_rfl) (by kernel_rfl) (by kernel_rfl) rfl trivial (fun _ _ _ h => h) hM (fun w hC => r_pickF hl rfl rfl) rfl ?_
      clear hl a; intro a hl
      refine d_take (i := 14) hl rfl (by kernel_rfl) (by kernel_rfl) (by kernel_rfl) (by kernel_rfl) (by kernel_rfl) rfl trivial (fun _ _ _ h => h) hM (fun w hC => r_move hl rfl) rfl ?_
      clear hl a; intro a hl
      refine sl_split (t := 25) hl rfl ?_ ?_
      · intro hg3; clear hl; intro hl
        try simp only [decide_eq_true_eq, decide_eq_false_iff_not, Bool.not_eq_true', Bool.not_eq_false', Bool.not_eq_true, Bool.not_eq_false, Bool.and_eq_true, Bool.or_eq_true, Bool.and_eq_false_iff, Bool.or_eq_false_iff, Bool.not_not, ne_eq, Int.not_lt, Int.not_le, Decidable.not_not, beq_iff_eq, bne_iff_ne] at hg3
        refine d_skip (i := 15) hl rfl (by kernel_rfl) (by kernel_rfl) (by kernel_rfl) (by kernel_rfl) (by kernel_rfl) rfl ⟨_, _, rfl, rfl, rfl⟩ (fun _ _ _ h => h) hM ?_
        clear hl a; intro a hl
        refine d_skip (i := 16) hl rfl (by kernel_rfl) (by kernel_rfl) (by kernel_rfl) (by kernel_rfl) (by kernel_rfl) rfl ⟨_, _, rfl, rfl, rfl⟩ (fun _ _ _ h => h) hM ?_
        clear hl a; intro a hl
        refine d_skip (i := 17) hl rfl (by kernel_rfl) (by kernel_rfl) (by kernel_rfl) (by kernel_rfl) (by kernel_rfl) rfl ⟨_, _, rfl, rfl, rfl⟩ (fun _ _ _ h => h) hM ?_
        clear hl a; intro a hl
        refine d_skip (i := 18) hl rfl (by kernel_rfl) (by kernel_rfl) (by kernel_rfl) (by kernel_rfl) (by kernel_rfl) rfl ⟨_, _, rfl, rfl, rfl⟩ (fun _ _ _ h => h) hM ?_
        clear hl a; intro a hl
        refine d_skip (i := 19) hl rfl (by kernel_rfl) (by kernel_rfl) (by kernel_rfl) (by kernel_rfl) (by kernel_rfl) rfl ⟨_, _, rfl, rfl, rfl⟩ (fun _ _ _ h => h) hM ?_
        clear hl a; intro a hl
        refine d_skip (i := 20) hl rfl (by kernel_rfl) (by kernel_rfl) (by kernel_rfl) (by kernel_rfl) (by kernel_rfl) rfl ⟨_, _, rfl, rfl, rfl⟩ (fun _ _ _ h => h) hM ?_
        clear hl a; intro a hl
        refine d_skip (i := 21) hl rfl (by kernel_rfl) (by kernel_rfl) (by kernel_rfl) (by kernel_rfl) (by kernel_rfl) rfl ⟨_, _, rfl, rfl, rfl⟩ (fun _ _ _ h => h) hM ?_
        clear hl a; intro a hl
        refine d_skip (i := 22) hl rfl (by kernel_rfl) (by kernel_rfl) (by kernel_rfl) (by kernel_rfl) (by kernel_rfl) rfl ⟨_, _, rfl, rfl, rfl⟩ (fun _ _ _ h => h) hM ?_
        clear hl a; intro a hl
        refine d_take (i := 23) hl rfl (by kernel_rfl) (by kernel_rfl) (by kernel_rfl) (by kernel_rfl) (by kernel_rfl) rfl trivial (fun _ _ _ h => h) hM (fun w hC => r_pickT hl rfl rfl) rfl ?_
        clear hl a; intro a hl
        refine d_take (i := 24) hl rfl (by kernel_rfl) (by kernel_rfl) (by kernel_rfl) (by kernel_rfl) (by kernel_rfl) rfl trivial (fun _ _ _ h => h) hM (fun w hC => r_move hl rfl) rfl ?_
        clear hl a; intro a hl
        refine d_skip (i := 25) hl rfl (by kernel_rfl) (by kernel_rfl) (by kernel_rfl) (by kernel_rfl) (by kernel_rfl) rfl ⟨_, _, rfl, rfl, rfl⟩ (fun _ _ _ h => h) hM ?_
        clear hl a; intro a hl
        refine d_skip (i := 26) hl rfl (by kernel_rfl) (by kernel_rfl) (by kernel_rfl) (by kernel_rfl) (by kernel_rfl) rfl ⟨_, _, rfl, rfl, rfl⟩ (fun _ _ _ h => h) hM ?_
        clear hl a; intro a hl
        refine d_skip (i := 27) hl rfl (by kernel_rfl) (by kernel_rfl) (by kernel_rfl) (by kernel_rfl) (by kernel_rfl) rfl ⟨_, _, rfl, rfl, rfl⟩ (fun _ _ _ h => h) hM ?_
        clear hl a; intro a hl
        refine d_skip (i := 28) hl rfl (by kernel_rfl) (by kernel_rfl) (by kernel_rfl) (by kernel_rfl) (by kernel_rfl) rfl ⟨_, _, rfl, rfl, rfl⟩ (fun _ _ _ h => h) hM ?_
        clear hl a; intro a hl
        refine d_skip (i := 29) hl rfl (by kernel_rfl) (by kernel_rfl) (by kernel_rfl) (by kernel_rfl) (by kernel_rfl) rfl ⟨_, _, rfl, rfl, rfl⟩ (fun _ _ _ h => h) hM ?_
        clear hl a; intro a hl
        refine d_takeL (i := 30) hl rfl (by kernel_rfl) (by kernel_rfl) (by kernel_rfl) (by kernel_rfl) (by kernel_rfl) rfl trivial (fun _ _ _ h => h) (fun w => r_pickT hl rfl rfl) rfl ?_
        clear hl a; intro a hl
        refine d_done (by kernel_rfl) ?_
        try clear hM
        have hl2 := hl.add (t := 0) (hl.add (t := 3) (hl.add (t := 4) (hl.add (t := 41) (hl.nil) rfl) rfl) rfl) rfl; clear hl; have hl := hl2; clear hl2
        refine then_normal ?_
        refine c_condT hl rfl ?_
        have hf := dl_n (g := g.pl) (l := l.pl) (m := m) (fun ⟨q1, q2, q3, q4, q5⟩ => by have q1 : g.off = false := q1; have q2 : ¬ g.st.ph = 0 := q2; have q4 : m.e = g.st.ep := q4; have q5 : m.b = g.st.fid := q5; first | omega | (simp_all; done))
        refine wp_ret ?_
        refine then_ret ?_
        refine f_ret0 (F' := (gb, C (GtV.c g) 127) :: (g.st.E ++ (g.qE ++ ((g.rb, MD (kInt .u32) g.rl g.rn) :: (g.oE ++ ((g.led, C (LdV.c l) 91) :: (l.d.E ++ Z))))))) hl hh rfl (by repeat (first | exact keeps_nil | apply keeps_cons (by repeat (first | exact find_head | apply find_tail | apply find_skip)) (by first  | rfl) | exact keeps_self | exact keeps_left | apply keeps_app | apply keeps_mv | apply keeps_skip)) ?_
        exact ⟨rfl, GO.same hg hl9 (by rw [hf]) (by rw [hf]) rfl⟩
      · intro hg3; clear hl; intro hl
        try simp only [decide_eq_true_eq, decide_eq_false_iff_not, Bool.not_eq_true', Bool.not_eq_false', Bool.not_eq_true, Bool.not_eq_false, Bool.and_eq_true, Bool.or_eq_true, Bool.and_eq_false_iff, Bool.or_eq_false_iff, Bool.not_not, ne_eq, Int.not_lt, Int.not_le, Decidable.not_not, beq_iff_eq, bne_iff_ne] at hg3
        refine d_take (i := 15) hl rfl (by kernel_rfl) (by kernel_rfl) (by kernel_rfl) (by kernel_rfl) (by kernel_rfl) rfl ⟨_, _, rfl, rfl, rfl⟩ (fun _ _ _ h => h) hM (fun w hC => r_field hl rfl fld38_2) rfl ?_
        clear hl a; intro a hl
        refine d_take (i := 16) hl rfl (by kernel_rfl) (by kernel_rfl) (by kernel_rfl) (by kernel_rfl) (by kernel_rfl) rfl ⟨_, _, rfl, rfl, rfl⟩ (fun _ _ _ h => h) hM (fun w hC => r_loadC hl rfl one36 hC (by repeat (first | exact find_head | apply find_tail | apply find_skip)) (by first | exact gtc_led _ | exact gtc_ep _ | exact gtc_vs _ | exact gtc_is _ | exact gtc_fid _ | exact gtc_ph _ | exact gtc_vd _ | exact gtc_q _ | exact gtc_rf _ | exact gtc_ys _ | exact gtc_dn _ | exact gtc_tk _ | exact gtc_au _ | exact gtc_o _ | exact gtc_off _ | rfl)) rfl ?_
        clear hl a; intro a hl
        refine d_take (i := 17) hl rfl (by kernel_rfl) (by kernel_rfl) (by kernel_rfl) (by kernel_rfl) (by kernel_rfl) rfl ⟨_, _, rfl, rfl, rfl⟩ (fun _ _ _ h => h) hM (fun w hC => r_move hl rfl) rfl ?_
        clear hl a; intro a hl
        refine d_take (i := 18) hl rfl (by kernel_rfl) (by kernel_rfl) (by kernel_rfl) (by kernel_rfl) (by kernel_rfl) rfl ⟨_, _, rfl, rfl, rfl⟩ (fun _ _ _ h => h) hM (fun w hC => r_nilCheck hl rfl) rfl ?_
        clear hl a; intro a hl
        refine d_take (i := 19) hl rfl (by kernel_rfl) (by kernel_rfl) (by kernel_rfl) (by kernel_rfl) (by kernel_rfl) rfl ⟨_, _, rfl, rfl, rfl⟩ (fun _ _ _ h => h) hM (fun w hC => r_field hl rfl fld127_1) rfl ?_
        clear hl a; intro a hl
        refine d_take (i := 20) hl rfl (by kernel_rfl) (by kernel_rfl) (by kernel_rfl) (by kernel_rfl) (by kernel_rfl) rfl ⟨_, _, rfl, rfl, rfl⟩ (fun _ _ _ h => h) hM (fun w hC => r_field hl rfl fld89_0) rfl ?_
        clear hl a; intro a hl
        refine d_take (i := 21) hl rfl (by kernel_rfl) (by kernel_rfl) (by kernel_rfl) (by kernel_rfl) (by kernel_rfl) rfl ⟨_, _, rfl, rfl, rfl⟩ (fun _ _ _ h => h) hM (fun w hC => r_loadC hl rfl one36 hC (by repeat (first | exact find_head | apply find_tail | apply find_skip)) (by first | exact gtc_led _ | exact gtc_ep _ | exact gtc_vs _ | exact gtc_is _ | exact gtc_fid _ | exact gtc_ph _ | exact gtc_vd _ | exact gtc_q _ | exact gtc_rf _ | exact gtc_ys _ | exact gtc_dn _ | exact gtc_tk _ | exact gtc_au _ | exact gtc_o _ | exact gtc_off _ | rfl)) rfl ?_
        clear hl a; intro a hl
        refine d_take (i := 22) hl rfl (by kernel_rfl) (by kernel_rfl) (by kernel_rfl) (by kernel_rfl) (by kernel_rfl) rfl ⟨_, _, rfl, rfl, rfl⟩ (fun _ _ _ h => h) hM (fun w hC => r_neq hl rfl rfl) rfl ?_
        clear hl a; intro a hl
        refine d_take (i := 23) hl rfl (by kernel_rfl) (by kernel_rfl) (by kernel_rfl) (by kernel_rfl) (by kernel_rfl) rfl trivial (fun _ _ _ h => h) hM (fun w hC => r_pickF hl rfl rfl) rfl ?_
        clear hl a; intro a hl
        refine d_take (i := 24) hl rfl (by kernel_rfl) (by kernel_rfl) (by kernel_rfl) (by kernel_rfl) (by kernel_rfl) rfl trivial (fun _ _ _ h => h) hM (fun w hC => r_move hl rfl) rfl ?_
        clear hl a; intro a hl
        refine sl_split (t := 35) hl rfl ?_ ?_
        · intro hg4; clear hl; intro hl
          try simp only [decide_eq_true_eq, decide_eq_false_iff_not, Bool.not_eq_true', Bool.not_eq_false', Bool.not_eq_true, Bool.not_eq_false, Bool.and_eq_true, Bool.or_eq_true, Bool.and_eq_false_iff, Bool.or_eq_false_iff, Bool.not_not, ne_eq, Int.not_lt, Int.not_le, Decidable.not_not, beq_iff_eq, bne_iff_ne] at hg4
          refine d_skip (i := 25) hl rfl (by kernel_rfl) (by kernel_rfl) (by kernel_rfl) (by kernel_rfl) (by kernel_rfl) rfl ⟨_, _, rfl, rfl, rfl⟩ (fun _ _ _ h => h) hM ?_
          clear hl a; intro a hl
          refine d_skip (i := 26) hl rfl (by kernel_rfl) (by kernel_rfl) (by kernel_rfl) (by kernel_rfl) (by kernel_rfl) rfl ⟨_, _, rfl, rfl, rfl⟩ (fun _ _ _ h => h) hM ?_
          clear hl a; intro a hl
          refine d_skip (i := 27) hl rfl (by kernel_rfl) (by kernel_rfl) (by kernel_rfl) (by kernel_rfl) (by kernel_rfl) rfl ⟨_, _, rfl, rfl, rfl⟩ (fun _ _ _ h => h) hM ?_
          clear hl a; intro a hl
          refine d_skip (i := 28) hl rfl (by kernel_rfl) (by kernel_rfl) (by kernel_rfl) (by kernel_rfl) (by kernel_rfl) rfl ⟨_, _, rfl, rfl, rfl⟩ (fun _ _ _ h => h) hM ?_
          clear hl a; intro a hl
          refine d_skip (i := 29) hl rfl (by kernel_rfl) (by kernel_rfl) (by kernel_rfl) (by kernel_rfl) (by kernel_rfl) rfl ⟨_, _, rfl, rfl, rfl⟩ (fun _ _ _ h => h) hM ?_
          clear hl a; intro a hl
          refine d_takeL (i := 30) hl rfl (by kernel_rfl) (by kernel_rfl) (by kernel_rfl) (by kernel_rfl) (by kernel_rfl) rfl trivial (fun _ _ _ h => h) (fun w => r_pickT hl rfl rfl) rfl ?_
          clear hl a; intro a hl
          refine d_done (by kernel_rfl) ?_
          try clear hM
          have hl2 := hl.add (t := 0) (hl.add (t := 3) (hl.add (t := 4) (hl.add (t := 41) (hl.nil) rfl) rfl) rfl) rfl; clear hl; have hl := hl2; clear hl2
          refine then_normal ?_
          refine c_condT hl rfl ?_
          have hf := dl_n (g := g.pl) (l := l.pl) (m := m) (fun ⟨q1, q2, q3, q4, q5⟩ => by have q1 : g.off = false := q1; have q2 : ¬ g.st.ph = 0 := q2; have q4 : m.e = g.st.ep := q4; have q5 : m.b = g.st.fid := q5; first | omega | (simp_all; done))
          refine wp_ret ?_
          refine then_ret ?_
          refine f_ret0 (F' := (gb, C (GtV.c g) 127) :: (g.st.E ++ (g.qE ++ ((g.rb, MD (kInt .u32) g.rl g.rn) :: (g.oE ++ ((g.led, C (LdV.c l) 91) :: (l.d.E ++ Z))))))) hl hh rfl (by repeat (first | exact keeps_nil | apply keeps_cons (by repeat (first | exact find_head | apply find_tail | apply find_skip)) (by first  | rfl) | exact keeps_self | exact keeps_left | apply keeps_app | apply keeps_mv | apply keeps_skip)) ?_
          exact ⟨rfl, GO.same hg hl9 (by rw [hf]) (by rw [hf]) rfl⟩
        · intro hg4; clear hl; intro hl
          try simp only [decide_eq_true_eq, decide_eq_false_iff_not, Bool.not_eq_true', Bool.not_eq_false', Bool.not_eq_true, Bool.not_eq_false, Bool.and_eq_true, Bool.or_eq_true, Bool.and_eq_false_iff, Bool.or_eq_false_iff, Bool.not_not, ne_eq, Int.not_lt, Int.not_le, Decidable.not_not, beq_iff_eq, bne_iff_ne] at hg4
          refine d_take (i := 25) hl rfl (by kernel_rfl) (by kernel_rfl) (by kernel_rfl) (by kernel_rfl) (by kernel_rfl) rfl ⟨_, _, rfl, rfl, rfl⟩ (fun _ _ _ h => h) hM (fun w hC => r_field hl rfl fld38_3) rfl ?_
          clear hl a; intro a hl
          refine d_take (i := 26) hl rfl (by kernel_rfl) (by kernel_rfl) (by kernel_rfl) (by kernel_rfl) (by kernel_rfl) rfl ⟨_, _, rfl, rfl, rfl⟩ (fun _ _ _ h => h) hM (fun w hC => r_loadC hl rfl one36 hC (by repeat (first | exact find_head | apply find_tail | apply find_skip)) (by first | exact gtc_led _ | exact gtc_ep _ | exact gtc_vs _ | exact gtc_is _ | exact gtc_fid _ | exact gtc_ph _ | exact gtc_vd _ | exact gtc_q _ | exact gtc_rf _ | exact gtc_ys _ | exact gtc_dn _ | exact gtc_tk _ | exact gtc_au _ | exact gtc_o _ | exact gtc_off _ | rfl)) rfl ?_
          clear hl a; intro a hl
          refine d_take (i := 27) hl rfl (by kernel_rfl) (by kernel_rfl) (by kernel_rfl) (by kernel_rfl) (by kernel_rfl) rfl ⟨_, _, rfl, rfl, rfl⟩ (fun _ _ _ h => h) hM (fun w hC => r_field hl rfl fld87_0) rfl ?_
          clear hl a; intro a hl
          refine d_take (i := 28) hl rfl (by kernel_rfl) (by kernel_rfl) (by kernel_rfl) (by kernel_rfl) (by kernel_rfl) rfl ⟨_, _, rfl, rfl, rfl⟩ (fun _ _ _ h => h) hM (fun w hC => r_loadC hl rfl one36 hC (by repeat (first | exact find_head | apply find_tail | apply find_skip)) (by first | exact gtc_led _ | exact gtc_ep _ | exact gtc_vs _ | exact gtc_is _ | exact gtc_fid _ | exact gtc_ph _ | exact gtc_vd _ | exact gtc_q _ | exact gtc_rf _ | exact gtc_ys _ | exact gtc_dn _ | exact gtc_tk _ | exact gtc_au _ | exact gtc_o _ | exact gtc_off _ | rfl)) rfl ?_
          clear hl a; intro a hl
          refine d_takeL (i := 29) hl rfl (by kernel_rfl) (by kernel_rfl) (by kernel_rfl) (by kernel_rfl) (by kernel_rfl) rfl ⟨_, _, rfl, rfl, rfl⟩ (fun _ _ _ h => h) (fun w => r_neq hl rfl rfl) rfl ?_
          clear hl a; intro a hl
          refine d_takeL (i := 30) hl rfl (by kernel_rfl) (by kernel_rfl) (by kernel_rfl) (by kernel_rfl) (by kernel_rfl) rfl trivial (fun _ _ _ h => h) (fun w => r_pickF hl rfl rfl) rfl ?_
          clear hl a; intro a hl
          refine d_done (by kernel_rfl) ?_
          try clear hM
          have hl2 := hl.add (t := 0) (hl.add (t := 3) (hl.add (t := 4) (hl.add (t := 41) (hl.nil) rfl) rfl) rfl) rfl; clear hl; have hl := hl2; clear hl2
          refine then_normal ?_
          refine c_cond hl rfl ?_ ?_
          · intro hc0
            try simp only [decide_eq_true_eq, decide_eq_false_iff_not, Bool.not_eq_true', Bool.not_eq_false', Bool.not_eq_true, Bool.not_eq_false, Bool.and_eq_true, Bool.or_eq_true, Bool.and_eq_false_iff, Bool.or_eq_false_iff, Bool.not_not, ne_eq, Int.not_lt, Int.not_le, Decidable.not_not, beq_iff_eq, bne_iff_ne] at hc0
            have hf := dl_n (g := g.pl) (l := l.pl) (m := m) (fun ⟨q1, q2, q3, q4, q5⟩ => by have q1 : g.off = false := q1; have q2 : ¬ g.st.ph = 0 := q2; have q4 : m.e = g.st.ep := q4; have q5 : m.b = g.st.fid := q5; first | omega | (simp_all; done))
            refine wp_ret ?_
            refine then_ret ?_
            refine f_ret0 (F' := (gb, C (GtV.c g) 127) :: (g.st.E ++ (g.qE ++ ((g.rb, MD (kInt .u32) g.rl g.rn) :: (g.oE ++ ((g.led, C (LdV.c l) 91) :: (l.d.E ++ Z))))))) hl hh rfl (by repeat (first | exact keeps_nil | apply keeps_cons (by repeat (first | exact find_head | apply find_tail | apply find_skip)) (by first  | rfl) | exact keeps_self | exact keeps_left | apply keeps_app | apply keeps_mv | apply keeps_skip)) ?_
            exact ⟨rfl, GO.same hg hl9 (by rw [hf]) (by rw [hf]) rfl⟩
          · intro hc0
            try simp only [decide_eq_true_eq, decide_eq_false_iff_not, Bool.not_eq_true', Bool.not_eq_false', Bool.not_eq_true, Bool.not_eq_false, Bool.and_eq_true, Bool.or_eq_true, Bool.and_eq_false_iff, Bool.or_eq_false_iff, Bool.not_not, ne_eq, Int.not_lt, Int.not_le, Decidable.not_not, beq_iff_eq, bne_iff_ne] at hc0
            have hhd : Heed g.pl m := ⟨(show g.off = false by assumption), (show ¬ g.st.ph = 0 by assumption), by omega, (show m.e = g.st.ep by omega), (show m.b = g.st.fid by omega)⟩
            refine wp_skip ?_
            refine then_normal ?_
            refine c_seq ?_
            refine c_region ?_
            refine wl (wl_val hl rfl trivial (r_field hl rfl fld38_1) ?_)
            clear hl a; intro a hl
            refine wl (w_load hl hh rfl trivial one5 rfl (by repeat (first | exact find_head | apply find_tail | apply find_skip)) (by first | exact gtc_led _ | exact gtc_ep _ | exact gtc_vs _ | exact gtc_is _ | exact gtc_fid _ | exact gtc_ph _ | exact gtc_vd _ | exact gtc_q _ | exact gtc_rf _ | exact gtc_ys _ | exact gtc_dn _ | exact gtc_tk _ | exact gtc_au _ | exact gtc_o _ | exact gtc_off _ | rfl) ?_)
            clear hl a; intro a hl
            refine wl (wl_val hl rfl trivial (r_shl hl rfl rfl (by omega)) ?_)
            clear hl a; intro a hl
            rw [← sh1_eq m.d] at hl
            refine wl (wl_val hl rfl trivial (r_assign hl rfl) ?_)
            clear hl a; intro a hl
            refine w_nil ?_
            have hl2 := hl.add (t := 0) (hl.add (t := 3) (hl.add (t := 4) (hl.add (t := 5) (hl.nil) rfl) rfl) rfl) rfl; clear hl; have hl := hl2; clear hl2
            refine then_normal ?_
            refine wp_block ?_
            refine c_seq ?_
            refine c_region ?_
            refine wl (wl_val hl rfl trivial (r_field hl rfl fld38_0) ?_)
            clear hl a; intro a hl
            refine wl (w_load hl hh rfl trivial one35 rfl (by repeat (first | exact find_head | apply find_tail | apply find_skip)) (by first | exact gtc_led _ | exact gtc_ep _ | exact gtc_vs _ | exact gtc_is _ | exact gtc_fid _ | exact gtc_ph _ | exact gtc_vd _ | exact gtc_q _ | exact gtc_rf _ | exact gtc_ys _ | exact gtc_dn _ | exact gtc_tk _ | exact gtc_au _ | exact gtc_o _ | exact gtc_off _ | rfl) ?_)
            clear hl a; intro a hl
            refine wl (wl_val hl rfl trivial (r_eql hl rfl rfl) ?_)
            clear hl a; intro a hl
            refine wl (wl_val hl rfl trivial (r_move hl rfl) ?_)
            clear hl a; intro a hl
            refine sl_split (t := 49) hl rfl ?_ ?_
            · intro hg5; clear hl; intro hl
              try simp only [decide_eq_true_eq, decide_eq_false_iff_not, Bool.not_eq_true', Bool.not_eq_false', Bool.not_eq_true, Bool.not_eq_false, Bool.and_eq_true, Bool.or_eq_true, Bool.and_eq_false_iff, Bool.or_eq_false_iff, Bool.not_not, ne_eq, Int.not_lt, Int.not_le, Decidable.not_not, beq_iff_eq, bne_iff_ne] at hg5
              refine wl (wl_val hl rfl ⟨_, _, rfl, rfl, rfl⟩ (r_field hl rfl fld87_1) ?_)
              clear hl a; intro a hl
              refine wl (w_load hl hh rfl ⟨_, _, rfl, rfl, rfl⟩ one76 rfl (by repeat (first | exact find_head | apply find_tail | apply find_skip)) (by first | exact gtc_led _ | exact gtc_ep _ | exact gtc_vs _ | exact gtc_is _ | exact gtc_fid _ | exact gtc_ph _ | exact gtc_vd _ | exact gtc_q _ | exact gtc_rf _ | exact gtc_ys _ | exact gtc_dn _ | exact gtc_tk _ | exact gtc_au _ | exact gtc_o _ | exact gtc_off _ | rfl) ?_)
              clear hl a; intro a hl
              refine wl (wl_val hl rfl ⟨_, _, rfl, rfl, rfl⟩ (r_eql hl rfl rfl) ?_)
              clear hl a; intro a hl
              refine wl (wl_val hl rfl trivial (r_pickT hl rfl rfl) ?_)
              clear hl a; intro a hl
              refine wl (wl_val hl rfl trivial (r_assign hl rfl) ?_)
              clear hl a; intro a hl
              refine w_nil ?_
              have hl2 := hl.add (t := 0) (hl.add (t := 3) (hl.add (t := 4) (hl.add (t := 5) (hl.add (t := 45) (hl.nil) rfl) rfl) rfl) rfl) rfl; clear hl; have hl := hl2; clear hl2
              refine then_normal ?_
              refine c_cond hl rfl ?_ ?_
              · intro hc1
                try simp only [decide_eq_true_eq, decide_eq_false_iff_not, Bool.not_eq_true', Bool.not_eq_false', Bool.not_eq_true, Bool.not_eq_false, Bool.and_eq_true, Bool.or_eq_true, Bool.and_eq_false_iff, Bool.or_eq_false_iff, Bool.not_not, ne_eq, Int.not_lt, Int.not_le, Decidable.not_not, beq_iff_eq, bne_iff_ne] at hc1
                have hk4 : m.k = 4 ∧ g.pl.st.ph = 1 := ⟨by omega, (show g.st.ph = 1 by omega)⟩
                refine c_seq ?_
                refine c_region ?_
                refine wl (wl_val hl rfl trivial (r_field hl rfl fld38_4) ?_)
                clear hl a; intro a hl
                refine wl (w_load hl hh rfl trivial one4 rfl (by repeat (first | exact find_head | apply find_tail | apply find_skip)) (by first | exact gtc_led _ | exact gtc_ep _ | exact gtc_vs _ | exact gtc_is _ | exact gtc_fid _ | exact gtc_ph _ | exact gtc_vd _ | exact gtc_q _ | exact gtc_rf _ | exact gtc_ys _ | exact gtc_dn _ | exact gtc_tk _ | exact gtc_au _ | exact gtc_o _ | exact gtc_off _ | rfl) ?_)
                clear hl a; intro a hl
                refine wl (wl_val hl rfl trivial (r_not hl rfl) ?_)
                clear hl a; intro a hl
                refine w_nil ?_
                have hl2 := hl.add (t := 0) (hl.add (t := 5) (hl.add (t := 56) (hl.nil) rfl) rfl) rfl; clear hl; have hl := hl2; clear hl2
                refine then_normal ?_
                refine c_cond hl rfl ?_ ?_
                · intro hc2
                  try simp only [decide_eq_true_eq, decide_eq_false_iff_not, Bool.not_eq_true', Bool.not_eq_false', Bool.not_eq_true, Bool.not_eq_false, Bool.and_eq_true, Bool.or_eq_true, Bool.and_eq_false_iff, Bool.or_eq_false_iff, Bool.not_not, ne_eq, Int.not_lt, Int.not_le, Decidable.not_not, beq_iff_eq, bne_iff_ne] at hc2
                  have hf := dl_4n (l := l.pl) hhd hk4 (by first | assumption | (simp_all; done))
                  refine c_region ?_
                  refine wl (wl_val hl rfl trivial (r_move hl rfl) ?_)
                  clear hl a; intro a hl
                  refine wl (w_call hl hh rfl trivial rfl cal47 rfl (decide_spec Z gb g l hg hl9 hol false) (by repeat (first | exact keeps_nil | apply keeps_cons (by repeat (first | exact find_head | apply find_tail | apply find_skip)) (by first  | rfl) | exact keeps_self | exact keeps_left | apply keeps_app | apply keeps_mv | apply keeps_skip)) trivial ?_)
                  clear hl hh a w; intro vc Fc a w hR hl hh
                  obtain ⟨rfl, g', l', G9, he9, hg', hl', hp1, hp2, rfl⟩ := hR
                  try simp only [List.cons_append, List.nil_append, List.append_assoc, List.append_nil] at hh
                  refine w_nil ?_
                  have hl2 := hl.nil; clear hl; have hl := hl2; clear hl2
                  refine blk_normal ?_
                  first
                  | (have hqq := hp2; refine f_end0 (F' := GF gb g' l' (Z ++ G9)) hl hh rfl (by first | exact keeps_self | exact keeps_left) ?_; exact ⟨rfl, g', l', G9, he9, hg', hl', hp1.trans (by rw [hf]; try rfl), hp2.trans (by rw [hf]; try rfl), rfl⟩)
                  | (have hqq := hc3; refine f_end0 (F' := (gb, C (GtV.c { g with ys := orB g.ys (sh1 m.d) }) 127) :: (g.st.E ++ (g.qE ++ ((g.rb, MD (kInt .u32) g.rl g.rn) :: (g.oE ++ ((g.led, C (LdV.c l) 91) :: (l.d.E ++ Z))))))) hl hh rfl (by repeat (first | exact keeps_nil | apply keeps_cons (by repeat (first | exact find_head | apply find_tail | apply find_skip)) (by first  | rfl) | exact keeps_self | exact keeps_left | apply keeps_app | apply keeps_mv | apply keeps_skip)) ?_; exact ⟨rfl, GO.same (g' := { g with ys := orB g.ys (sh1 m.d) }) (ys_ok hg (orB_bd _ _)) hl9 (by rw [hf]; rfl) (by rw [hf]) rfl⟩)
                  | (refine f_end0 (F' := (gb, C (GtV.c g) 127) :: (g.st.E ++ (g.qE ++ ((g.rb, MD (kInt .u32) g.rl g.rn) :: (g.oE ++ ((g.led, C (LdV.c l) 91) :: (l.d.E ++ Z))))))) hl hh rfl (by repeat (first | exact keeps_nil | apply keeps_cons (by repeat (first | exact find_head | apply find_tail | apply find_skip)) (by first  | rfl) | exact keeps_self | exact keeps_left | apply keeps_app | apply keeps_mv | apply keeps_skip)) ?_; exact ⟨rfl, GO.same hg hl9 (by rw [hf]) (by rw [hf]) rfl⟩)
                · intro hc2
                  try simp only [decide_eq_true_eq, decide_eq_false_iff_not, Bool.not_eq_true', Bool.not_eq_false', Bool.not_eq_true, Bool.not_eq_false, Bool.and_eq_true, Bool.or_eq_true, Bool.and_eq_false_iff, Bool.or_eq_false_iff, Bool.not_not, ne_eq, Int.not_lt, Int.not_le, Decidable.not_not, beq_iff_eq, bne_iff_ne] at hc2
                  have hmy : m.y = true := by first | assumption | (simp_all; done)
                  refine c_seq ?_
                  refine c_region ?_
                  refine wl (wl_val hl rfl trivial (r_move hl rfl) ?_)
                  clear hl a; intro a hl
                  refine wl (wl_val hl rfl trivial (r_nilCheck hl rfl) ?_)
                  clear hl a; intro a hl
                  refine wl (wl_val hl rfl trivial (r_field hl rfl fld127_5) ?_)
                  clear hl a; intro a hl
                  refine wl (w_load hl hh rfl trivial one60 rfl (by repeat (first | exact find_head | apply find_tail | apply find_skip)) (by first | exact gtc_led _ | exact gtc_ep _ | exact gtc_vs _ | exact gtc_is _ | exact gtc_fid _ | exact gtc_ph _ | exact gtc_vd _ | exact gtc_q _ | exact gtc_rf _ | exact gtc_ys _ | exact gtc_dn _ | exact gtc_tk _ | exact gtc_au _ | exact gtc_o _ | exact gtc_off _ | rfl) ?_)
                  clear hl a; intro a hl
                  refine wl (wl_val hl rfl trivial (r_move hl rfl) ?_)
                  clear hl a; intro a hl
                  refine wl (wl_val hl rfl trivial (r_or hl rfl rfl) ?_)
                  clear hl a; intro a hl
                  refine wl (wl_val hl rfl trivial (r_nilCheck hl rfl) ?_)
                  clear hl a; intro a hl
                  refine wl (wl_val hl rfl trivial (r_field hl rfl fld127_5) ?_)
                  clear hl a; intro a hl
                  refine wl (w_store hl hh trivial one60 rfl rfl (by repeat (first | exact find_head | apply find_tail | apply find_skip)) (by first | (simp; done) | (simp; omega) | (rw [gtc_len]; omega) | (rw [gtc_len]; simp; done)) (by first | rfl | assumption | (apply Row.one; assumption)) (by first | exact gtc_sys _ _ | exact gtc_sdn _ _ | exact gtc_stk _ _ | exact gtc_sau _ _ | exact gtc_soff _ _ | (simp only [setL, List.getElem?_cons_zero, List.getElem?_cons_succ, Value.cells, List.take_zero, List.take_succ_cons, List.take_nil, List.drop_zero, List.drop_succ_cons, List.drop_nil, List.length_cons, List.length_nil, List.cons_append, List.nil_append, List.append_nil, Nat.zero_add, Nat.add_zero, Nat.reduceAdd, Nat.reduceBEq, Nat.reduceEqDiff, Nat.ble, BEq.rfl, Bool.and_true, Bool.and_self, cond_true, beq_self_eq_true]; rfl)) ?_)
                  clear hh w; intro w hh
                  refine w_nil ?_
                  have hl2 := hl.add (t := 0) (hl.nil) rfl; clear hl; have hl := hl2; clear hl2
                  rw [orB_eq] at hh
                  refine then_normal ?_
                  refine c_seq ?_
                  refine c_region ?_
                  refine wl (wl_val hl rfl trivial (r_move hl rfl) ?_)
                  clear hl a; intro a hl
                  refine wl (wl_val hl rfl trivial (r_nilCheck hl rfl) ?_)
                  clear hl a; intro a hl
                  refine wl (wl_val hl rfl trivial (r_field hl rfl fld127_5) ?_)
                  clear hl a; intro a hl
                  refine wl (w_load hl hh rfl trivial one60 rfl (by repeat (first | exact find_head | apply find_tail | apply find_skip)) (by first | exact gtc_led _ | exact gtc_ep _ | exact gtc_vs _ | exact gtc_is _ | exact gtc_fid _ | exact gtc_ph _ | exact gtc_vd _ | exact gtc_q _ | exact gtc_rf _ | exact gtc_ys _ | exact gtc_dn _ | exact gtc_tk _ | exact gtc_au _ | exact gtc_o _ | exact gtc_off _ | rfl) ?_)
                  clear hl a; intro a hl
                  refine wl (wl_val hl rfl trivial (r_eql hl rfl rfl) ?_)
                  clear hl a; intro a hl
                  refine w_nil ?_
                  have hl2 := hl.add (t := 0) (hl.add (t := 71) (hl.nil) rfl) rfl; clear hl; have hl := hl2; clear hl2
                  refine then_normal ?_
                  refine c_cond hl rfl ?_ ?_
                  · intro hc3
                    try simp only [decide_eq_true_eq, decide_eq_false_iff_not, Bool.not_eq_true', Bool.not_eq_false', Bool.not_eq_true, Bool.not_eq_false, Bool.and_eq_true, Bool.or_eq_true, Bool.and_eq_false_iff, Bool.or_eq_false_iff, Bool.not_not, ne_eq, Int.not_lt, Int.not_le, Decidable.not_not, beq_iff_eq, bne_iff_ne] at hc3
                    have hf := dl_4y (l := l.pl) hhd hk4 hmy hc3
                    refine c_region ?_
                    refine wl (wl_val hl rfl trivial (r_move hl rfl) ?_)
                    clear hl a; intro a hl
                    refine wl (w_call hl hh rfl trivial rfl cal47 rfl (decide_spec Z gb { g with ys := orB g.ys (sh1 m.d) } l (ys_ok hg (orB_bd _ _)) hl9 hol true) (by repeat (first | exact keeps_nil | apply keeps_cons (by repeat (first | exact find_head | apply find_tail | apply find_skip)) (by first  | rfl) | exact keeps_self | exact keeps_left | apply keeps_app | apply keeps_mv | apply keeps_skip)) trivial ?_)
                    clear hl hh a w; intro vc Fc a w hR hl hh
                    obtain ⟨rfl, g', l', G9, he9, hg', hl', hp1, hp2, rfl⟩ := hR
                    try simp only [List.cons_append, List.nil_append, List.append_assoc, List.append_nil] at hh
                    refine w_nil ?_
                    have hl2 := hl.nil; clear hl; have hl := hl2; clear hl2
                    refine blk_normal ?_
                    first
                    | (have hqq := hp2; refine f_end0 (F' := GF gb g' l' (Z ++ G9)) hl hh rfl (by first | exact keeps_self | exact keeps_left) ?_; exact ⟨rfl, g', l', G9, he9, hg', hl', hp1.trans (by rw [hf]; try rfl), hp2.trans (by rw [hf]; try rfl), rfl⟩)
                    | (have hqq := hc3; refine f_end0 (F' := (gb, C (GtV.c { g with ys := orB g.ys (sh1 m.d) }) 127) :: (g.st.E ++ (g.qE ++ ((g.rb, MD (kInt .u32) g.rl g.rn) :: (g.oE ++ ((g.led, C (LdV.c l) 91) :: (l.d.E ++ Z))))))) hl hh rfl (by repeat (first | exact keeps_nil | apply keeps_cons (by repeat (first | exact find_head | apply find_tail | apply find_skip)) (by first  | rfl) | exact keeps_self | exact keeps_left | apply keeps_app | apply keeps_mv | apply keeps_skip)) ?_; exact ⟨rfl, GO.same (g' := { g with ys := orB g.ys (sh1 m.d) }) (ys_ok hg (orB_bd _ _)) hl9 (by rw [hf]; rfl) (by rw [hf]) rfl⟩)
                    | (refine f_end0 (F' := (gb, C (GtV.c g) 127) :: (g.st.E ++ (g.qE ++ ((g.rb, MD (kInt .u32) g.rl g.rn) :: (g.oE ++ ((g.led, C (LdV.c l) 91) :: (l.d.E ++ Z))))))) hl hh rfl (by repeat (first | exact keeps_nil | apply keeps_cons (by repeat (first | exact find_head | apply find_tail | apply find_skip)) (by first  | rfl) | exact keeps_self | exact keeps_left | apply keeps_app | apply keeps_mv | apply keeps_skip)) ?_; exact ⟨rfl, GO.same hg hl9 (by rw [hf]) (by rw [hf]) rfl⟩)
                  · intro hc3
                    try simp only [decide_eq_true_eq, decide_eq_false_iff_not, Bool.not_eq_true', Bool.not_eq_false', Bool.not_eq_true, Bool.not_eq_false, Bool.and_eq_true, Bool.or_eq_true, Bool.and_eq_false_iff, Bool.or_eq_false_iff, Bool.not_not, ne_eq, Int.not_lt, Int.not_le, Decidable.not_not, beq_iff_eq, bne_iff_ne] at hc3
                    have hf := dl_4w (l := l.pl) hhd hk4 hmy hc3
                    refine wp_skip ?_
                    refine blk_normal ?_
                    first
                    | (have hqq := hp2; refine f_end0 (F' := GF gb g' l' (Z ++ G9)) hl hh rfl (by first | exact keeps_self | exact keeps_left) ?_; exact ⟨rfl, g', l', G9, he9, hg', hl', hp1.trans (by rw [hf]; try rfl), hp2.trans (by rw [hf]; try rfl), rfl⟩)
                    | (have hqq := hc3; refine f_end0 (F' := (gb, C (GtV.c { g with ys := orB g.ys (sh1 m.d) }) 127) :: (g.st.E ++ (g.qE ++ ((g.rb, MD (kInt .u32) g.rl g.rn) :: (g.oE ++ ((g.led, C (LdV.c l) 91) :: (l.d.E ++ Z))))))) hl hh rfl (by repeat (first | exact keeps_nil | apply keeps_cons (by repeat (first | exact find_head | apply find_tail | apply find_skip)) (by first  | rfl) | exact keeps_self | exact keeps_left | apply keeps_app | apply keeps_mv | apply keeps_skip)) ?_; exact ⟨rfl, GO.same (g' := { g with ys := orB g.ys (sh1 m.d) }) (ys_ok hg (orB_bd _ _)) hl9 (by rw [hf]; rfl) (by rw [hf]) rfl⟩)
                    | (refine f_end0 (F' := (gb, C (GtV.c g) 127) :: (g.st.E ++ (g.qE ++ ((g.rb, MD (kInt .u32) g.rl g.rn) :: (g.oE ++ ((g.led, C (LdV.c l) 91) :: (l.d.E ++ Z))))))) hl hh rfl (by repeat (first | exact keeps_nil | apply keeps_cons (by repeat (first | exact find_head | apply find_tail | apply find_skip)) (by first  | rfl) | exact keeps_self | exact keeps_left | apply keeps_app | apply keeps_mv | apply keeps_skip)) ?_; exact ⟨rfl, GO.same hg hl9 (by rw [hf]) (by rw [hf]) rfl⟩)
              · intro hc1
                try simp only [decide_eq_true_eq, decide_eq_false_iff_not, Bool.not_eq_true', Bool.not_eq_false', Bool.not_eq_true, Bool.not_eq_false, Bool.and_eq_true, Bool.or_eq_true, Bool.and_eq_false_iff, Bool.or_eq_false_iff, Bool.not_not, ne_eq, Int.not_lt, Int.not_le, Decidable.not_not, beq_iff_eq, bne_iff_ne] at hc1
                have hn1 : ¬ (m.k = 4 ∧ g.pl.st.ph = 1) := fun ⟨q1, q2⟩ => by have q2 : g.st.ph = 1 := q2; omega
                refine c_seq ?_
                refine c_region ?_
                refine wl (wl_val hl rfl trivial (r_field hl rfl fld38_0) ?_)
                clear hl a; intro a hl
                refine wl (w_load hl hh rfl trivial one35 rfl (by repeat (first | exact find_head | apply find_tail | apply find_skip)) (by first | exact gtc_led _ | exact gtc_ep _ | exact gtc_vs _ | exact gtc_is _ | exact gtc_fid _ | exact gtc_ph _ | exact gtc_vd _ | exact gtc_q _ | exact gtc_rf _ | exact gtc_ys _ | exact gtc_dn _ | exact gtc_tk _ | exact gtc_au _ | exact gtc_o _ | exact gtc_off _ | rfl) ?_)
                clear hl a; intro a hl
                refine wl (wl_val hl rfl trivial (r_eql hl rfl rfl) ?_)
                clear hl a; intro a hl
                refine wl (wl_val hl rfl trivial (r_move hl rfl) ?_)
                clear hl a; intro a hl
                refine sl_split (t := 78) hl rfl ?_ ?_
                · intro hg6; clear hl; intro hl
                  try simp only [decide_eq_true_eq, decide_eq_false_iff_not, Bool.not_eq_true', Bool.not_eq_false', Bool.not_eq_true, Bool.not_eq_false, Bool.and_eq_true, Bool.or_eq_true, Bool.and_eq_false_iff, Bool.or_eq_false_iff, Bool.not_not, ne_eq, Int.not_lt, Int.not_le, Decidable.not_not, beq_iff_eq, bne_iff_ne] at hg6
                  refine wl (wl_val hl rfl ⟨_, _, rfl, rfl, rfl⟩ (r_field hl rfl fld87_1) ?_)
                  clear hl a; intro a hl
                  refine wl (w_load hl hh rfl ⟨_, _, rfl, rfl, rfl⟩ one76 rfl (by repeat (first | exact find_head | apply find_tail | apply find_skip)) (by first | exact gtc_led _ | exact gtc_ep _ | exact gtc_vs _ | exact gtc_is _ | exact gtc_fid _ | exact gtc_ph _ | exact gtc_vd _ | exact gtc_q _ | exact gtc_rf _ | exact gtc_ys _ | exact gtc_dn _ | exact gtc_tk _ | exact gtc_au _ | exact gtc_o _ | exact gtc_off _ | rfl) ?_)
                  clear hl a; intro a hl
                  refine wl (wl_val hl rfl ⟨_, _, rfl, rfl, rfl⟩ (r_neq hl rfl rfl) ?_)
                  clear hl a; intro a hl
                  refine wl (wl_val hl rfl trivial (r_pickT hl rfl rfl) ?_)
                  clear hl a; intro a hl
                  refine wl (wl_val hl rfl trivial (r_move hl rfl) ?_)
                  clear hl a; intro a hl
                  refine sl_split (t := 83) hl rfl ?_ ?_
                  · intro hg7; clear hl; intro hl
                    try simp only [decide_eq_true_eq, decide_eq_false_iff_not, Bool.not_eq_true', Bool.not_eq_false', Bool.not_eq_true, Bool.not_eq_false, Bool.and_eq_true, Bool.or_eq_true, Bool.and_eq_false_iff, Bool.or_eq_false_iff, Bool.not_not, ne_eq, Int.not_lt, Int.not_le, Decidable.not_not, beq_iff_eq, bne_iff_ne] at hg7
                    refine wl (wl_val hl rfl ⟨_, _, rfl, rfl, rfl⟩ (r_move hl rfl) ?_)
                    clear hl a; intro a hl
                    refine wl (wl_val hl rfl ⟨_, _, rfl, rfl, rfl⟩ (r_nilCheck hl rfl) ?_)
                    clear hl a; intro a hl
                    refine wl (wl_val hl rfl ⟨_, _, rfl, rfl, rfl⟩ (r_field hl rfl fld127_8) ?_)
                    clear hl a; intro a hl
                    refine wl (w_load hl hh rfl ⟨_, _, rfl, rfl, rfl⟩ one4 rfl (by repeat (first | exact find_head | apply find_tail | apply find_skip)) (by first | exact gtc_led _ | exact gtc_ep _ | exact gtc_vs _ | exact gtc_is _ | exact gtc_fid _ | exact gtc_ph _ | exact gtc_vd _ | exact gtc_q _ | exact gtc_rf _ | exact gtc_ys _ | exact gtc_dn _ | exact gtc_tk _ | exact gtc_au _ | exact gtc_o _ | exact gtc_off _ | rfl) ?_)
                    clear hl a; intro a hl
                    refine wl (wl_val hl rfl ⟨_, _, rfl, rfl, rfl⟩ (r_not hl rfl) ?_)
                    clear hl a; intro a hl
                    refine wl (wl_val hl rfl trivial (r_pickT hl rfl rfl) ?_)
                    clear hl a; intro a hl
                    refine wl (wl_val hl rfl trivial (r_assign hl rfl) ?_)
                    clear hl a; intro a hl
                    refine w_nil ?_
                    have hl2 := hl.add (t := 0) (hl.add (t := 3) (hl.add (t := 4) (hl.add (t := 5) (hl.add (t := 74) (hl.nil) rfl) rfl) rfl) rfl) rfl; clear hl; have hl := hl2; clear hl2
                    refine then_normal ?_
                    refine c_cond hl rfl ?_ ?_
                    · intro hc4
                      try simp only [decide_eq_true_eq, decide_eq_false_iff_not, Bool.not_eq_true', Bool.not_eq_false', Bool.not_eq_true, Bool.not_eq_false, Bool.and_eq_true, Bool.or_eq_true, Bool.and_eq_false_iff, Bool.or_eq_false_iff, Bool.not_not, ne_eq, Int.not_lt, Int.not_le, Decidable.not_not, beq_iff_eq, bne_iff_ne] at hc4
                      have hf := dl_5 (l := l.pl) hhd ⟨by omega, (show ¬ g.st.ph = 1 by omega), (show g.au = false by first | assumption | (simp_all; done))⟩
                      refine c_region ?_
                      refine wl (wl_val hl rfl trivial (r_move hl rfl) ?_)
                      clear hl a; intro a hl
                      refine wl (wl_val hl rfl trivial (r_move hl rfl) ?_)
                      clear hl a; intro a hl
                      refine wl (w_call hl hh rfl trivial rfl cal52 rfl (confirm_spec Z gb g l hg hl9 (sh1 m.d) hvl) (by repeat (first | exact keeps_nil | apply keeps_cons (by repeat (first | exact find_head | apply find_tail | apply find_skip)) (by first  | rfl) | exact keeps_self | exact keeps_left | apply keeps_app | apply keeps_mv | apply keeps_skip)) trivial ?_)
                      clear hl hh a w; intro vc Fc a w hR hl hh
                      obtain ⟨rfl, g', l', G9, he9, hg', hl', hp1, hp2, rfl⟩ := hR
                      try simp only [List.cons_append, List.nil_append, List.append_assoc, List.append_nil] at hh
                      refine w_nil ?_
                      have hl2 := hl.nil; clear hl; have hl := hl2; clear hl2
                      refine blk_normal ?_
                      first
                      | (have hqq := hp2; refine f_end0 (F' := GF gb g' l' (Z ++ G9)) hl hh rfl (by first | exact keeps_self | exact keeps_left) ?_; exact ⟨rfl, g', l', G9, he9, hg', hl', hp1.trans (by rw [hf]; try rfl), hp2.trans (by rw [hf]; try rfl), rfl⟩)
                      | (have hqq := hc3; refine f_end0 (F' := (gb, C (GtV.c { g with ys := orB g.ys (sh1 m.d) }) 127) :: (g.st.E ++ (g.qE ++ ((g.rb, MD (kInt .u32) g.rl g.rn) :: (g.oE ++ ((g.led, C (LdV.c l) 91) :: (l.d.E ++ Z))))))) hl hh rfl (by repeat (first | exact keeps_nil | apply keeps_cons (by repeat (first | exact find_head | apply find_tail | apply find_skip)) (by first  | rfl) | exact keeps_self | exact keeps_left | apply keeps_app | apply keeps_mv | apply keeps_skip)) ?_; exact ⟨rfl, GO.same (g' := { g with ys := orB g.ys (sh1 m.d) }) (ys_ok hg (orB_bd _ _)) hl9 (by rw [hf]; rfl) (by rw [hf]) rfl⟩)
                      | (refine f_end0 (F' := (gb, C (GtV.c g) 127) :: (g.st.E ++ (g.qE ++ ((g.rb, MD (kInt .u32) g.rl g.rn) :: (g.oE ++ ((g.led, C (LdV.c l) 91) :: (l.d.E ++ Z))))))) hl hh rfl (by repeat (first | exact keeps_nil | apply keeps_cons (by repeat (first | exact find_head | apply find_tail | apply find_skip)) (by first  | rfl) | exact keeps_self | exact keeps_left | apply keeps_app | apply keeps_mv | apply keeps_skip)) ?_; exact ⟨rfl, GO.same hg hl9 (by rw [hf]) (by rw [hf]) rfl⟩)
                    · intro hc4
                      try simp only [decide_eq_true_eq, decide_eq_false_iff_not, Bool.not_eq_true', Bool.not_eq_false', Bool.not_eq_true, Bool.not_eq_false, Bool.and_eq_true, Bool.or_eq_true, Bool.and_eq_false_iff, Bool.or_eq_false_iff, Bool.not_not, ne_eq, Int.not_lt, Int.not_le, Decidable.not_not, beq_iff_eq, bne_iff_ne] at hc4
                      have hn2 : ¬ (m.k = 5 ∧ ¬ g.pl.st.ph = 1 ∧ g.pl.au = false) := fun ⟨q1, q2, q3⟩ => by have q2 : ¬ g.st.ph = 1 := q2; have q3 : g.au = false := q3; first | omega | (simp_all; done)
                      refine c_seq ?_
                      refine c_region ?_
                      refine wl (wl_val hl rfl trivial (r_field hl rfl fld38_0) ?_)
                      clear hl a; intro a hl
                      refine wl (w_load hl hh rfl trivial one35 rfl (by repeat (first | exact find_head | apply find_tail | apply find_skip)) (by first | exact gtc_led _ | exact gtc_ep _ | exact gtc_vs _ | exact gtc_is _ | exact gtc_fid _ | exact gtc_ph _ | exact gtc_vd _ | exact gtc_q _ | exact gtc_rf _ | exact gtc_ys _ | exact gtc_dn _ | exact gtc_tk _ | exact gtc_au _ | exact gtc_o _ | exact gtc_off _ | rfl) ?_)
                      clear hl a; intro a hl
                      refine wl (wl_val hl rfl trivial (r_eql hl rfl rfl) ?_)
                      clear hl a; intro a hl
                      refine wl (wl_val hl rfl trivial (r_move hl rfl) ?_)
                      clear hl a; intro a hl
                      refine sl_split (t := 97) hl rfl ?_ ?_
                      · intro hg8; clear hl; intro hl
                        try simp only [decide_eq_true_eq, decide_eq_false_iff_not, Bool.not_eq_true', Bool.not_eq_false', Bool.not_eq_true, Bool.not_eq_false, Bool.and_eq_true, Bool.or_eq_true, Bool.and_eq_false_iff, Bool.or_eq_false_iff, Bool.not_not, ne_eq, Int.not_lt, Int.not_le, Decidable.not_not, beq_iff_eq, bne_iff_ne] at hg8
                        refine wl (wl_val hl rfl ⟨_, _, rfl, rfl, rfl⟩ (r_field hl rfl fld87_1) ?_)
                        clear hl a; intro a hl
                        refine wl (w_load hl hh rfl ⟨_, _, rfl, rfl, rfl⟩ one76 rfl (by repeat (first | exact find_head | apply find_tail | apply find_skip)) (by first | exact gtc_led _ | exact gtc_ep _ | exact gtc_vs _ | exact gtc_is _ | exact gtc_fid _ | exact gtc_ph _ | exact gtc_vd _ | exact gtc_q _ | exact gtc_rf _ | exact gtc_ys _ | exact gtc_dn _ | exact gtc_tk _ | exact gtc_au _ | exact gtc_o _ | exact gtc_off _ | rfl) ?_)
                        clear hl a; intro a hl
                        refine wl (wl_val hl rfl ⟨_, _, rfl, rfl, rfl⟩ (r_eql hl rfl rfl) ?_)
                        clear hl a; intro a hl
                        refine wl (wl_val hl rfl trivial (r_pickT hl rfl rfl) ?_)
                        clear hl a; intro a hl
                        refine wl (wl_val hl rfl trivial (r_move hl rfl) ?_)
                        clear hl a; intro a hl
                        refine sl_split (t := 102) hl rfl ?_ ?_
                        · intro hg9; clear hl; intro hl
                          try simp only [decide_eq_true_eq, decide_eq_false_iff_not, Bool.not_eq_true', Bool.not_eq_false', Bool.not_eq_true, Bool.not_eq_false, Bool.and_eq_true, Bool.or_eq_true, Bool.and_eq_false_iff, Bool.or_eq_false_iff, Bool.not_not, ne_eq, Int.not_lt, Int.not_le, Decidable.not_not, beq_iff_eq, bne_iff_ne] at hg9
                          refine wl (wl_val hl rfl ⟨_, _, rfl, rfl, rfl⟩ (r_move hl rfl) ?_)
                          clear hl a; intro a hl
                          refine wl (wl_val hl rfl ⟨_, _, rfl, rfl, rfl⟩ (r_nilCheck hl rfl) ?_)
                          clear hl a; intro a hl
                          refine wl (wl_val hl rfl ⟨_, _, rfl, rfl, rfl⟩ (r_field hl rfl fld127_8) ?_)
                          clear hl a; intro a hl
                          refine wl (w_load hl hh rfl ⟨_, _, rfl, rfl, rfl⟩ one4 rfl (by repeat (first | exact find_head | apply find_tail | apply find_skip)) (by first | exact gtc_led _ | exact gtc_ep _ | exact gtc_vs _ | exact gtc_is _ | exact gtc_fid _ | exact gtc_ph _ | exact gtc_vd _ | exact gtc_q _ | exact gtc_rf _ | exact gtc_ys _ | exact gtc_dn _ | exact gtc_tk _ | exact gtc_au _ | exact gtc_o _ | exact gtc_off _ | rfl) ?_)
                          clear hl a; intro a hl
                          refine wl (wl_val hl rfl trivial (r_pickT hl rfl rfl) ?_)
                          clear hl a; intro a hl
                          refine wl (wl_val hl rfl trivial (r_assign hl rfl) ?_)
                          clear hl a; intro a hl
                          refine w_nil ?_
                          have hl2 := hl.add (t := 0) (hl.add (t := 3) (hl.add (t := 4) (hl.add (t := 5) (hl.add (t := 93) (hl.nil) rfl) rfl) rfl) rfl) rfl; clear hl; have hl := hl2; clear hl2
                          refine then_normal ?_
                          refine c_cond hl rfl ?_ ?_
                          · intro hc5
                            try simp only [decide_eq_true_eq, decide_eq_false_iff_not, Bool.not_eq_true', Bool.not_eq_false', Bool.not_eq_true, Bool.not_eq_false, Bool.and_eq_true, Bool.or_eq_true, Bool.and_eq_false_iff, Bool.or_eq_false_iff, Bool.not_not, ne_eq, Int.not_lt, Int.not_le, Decidable.not_not, beq_iff_eq, bne_iff_ne] at hc5
                            have hk6 : m.k = 6 ∧ g.pl.st.ph = 2 ∧ g.pl.au = true := ⟨by omega, (show g.st.ph = 2 by omega), (show g.au = true by first | assumption | (simp_all; done))⟩
                            refine c_seq ?_
                            refine c_region ?_
                            refine wl (wl_val hl rfl trivial (r_field hl rfl fld38_5) ?_)
                            clear hl a; intro a hl
                            refine wl (w_load hl hh rfl trivial one36 rfl (by repeat (first | exact find_head | apply find_tail | apply find_skip)) (by first | exact gtc_led _ | exact gtc_ep _ | exact gtc_vs _ | exact gtc_is _ | exact gtc_fid _ | exact gtc_ph _ | exact gtc_vd _ | exact gtc_q _ | exact gtc_rf _ | exact gtc_ys _ | exact gtc_dn _ | exact gtc_tk _ | exact gtc_au _ | exact gtc_o _ | exact gtc_off _ | rfl) ?_)
                            clear hl a; intro a hl
                            refine wl (wl_val hl rfl trivial (r_field hl rfl fld87_0) ?_)
                            clear hl a; intro a hl
                            refine wl (w_load hl hh rfl trivial one36 rfl (by repeat (first | exact find_head | apply find_tail | apply find_skip)) (by first | exact gtc_led _ | exact gtc_ep _ | exact gtc_vs _ | exact gtc_is _ | exact gtc_fid _ | exact gtc_ph _ | exact gtc_vd _ | exact gtc_q _ | exact gtc_rf _ | exact gtc_ys _ | exact gtc_dn _ | exact gtc_tk _ | exact gtc_au _ | exact gtc_o _ | exact gtc_off _ | rfl) ?_)
                            clear hl a; intro a hl
                            refine wl (wl_val hl rfl trivial (r_eql hl rfl rfl) ?_)
                            clear hl a; intro a hl
                            refine wl (wl_val hl rfl trivial (r_move hl rfl) ?_)
                            clear hl a; intro a hl
                            refine sl_split (t := 113) hl rfl ?_ ?_
                            · intro hg10; clear hl; intro hl
                              try simp only [decide_eq_true_eq, decide_eq_false_iff_not, Bool.not_eq_true', Bool.not_eq_false', Bool.not_eq_true, Bool.not_eq_false, Bool.and_eq_true, Bool.or_eq_true, Bool.and_eq_false_iff, Bool.or_eq_false_iff, Bool.not_not, ne_eq, Int.not_lt, Int.not_le, Decidable.not_not, beq_iff_eq, bne_iff_ne] at hg10
                              refine wl (wl_val hl rfl ⟨_, _, rfl, rfl, rfl⟩ (r_field hl rfl fld38_6) ?_)
                              clear hl a; intro a hl
                              refine wl (w_load hl hh rfl ⟨_, _, rfl, rfl, rfl⟩ one36 rfl (by repeat (first | exact find_head | apply find_tail | apply find_skip)) (by first | exact gtc_led _ | exact gtc_ep _ | exact gtc_vs _ | exact gtc_is _ | exact gtc_fid _ | exact gtc_ph _ | exact gtc_vd _ | exact gtc_q _ | exact gtc_rf _ | exact gtc_ys _ | exact gtc_dn _ | exact gtc_tk _ | exact gtc_au _ | exact gtc_o _ | exact gtc_off _ | rfl) ?_)
                              clear hl a; intro a hl
                              refine wl (wl_val hl rfl ⟨_, _, rfl, rfl, rfl⟩ (r_eql hl rfl rfl) ?_)
                              clear hl a; intro a hl
                              refine wl (wl_val hl rfl trivial (r_pickT hl rfl rfl) ?_)
                              clear hl a; intro a hl
                              refine w_nil ?_
                              have hl2 := hl.add (t := 0) (hl.add (t := 5) (hl.add (t := 117) (hl.nil) rfl) rfl) rfl; clear hl; have hl := hl2; clear hl2
                              refine then_normal ?_
                              refine c_cond hl rfl ?_ ?_
                              · intro hc6
                                try simp only [decide_eq_true_eq, decide_eq_false_iff_not, Bool.not_eq_true', Bool.not_eq_false', Bool.not_eq_true, Bool.not_eq_false, Bool.and_eq_true, Bool.or_eq_true, Bool.and_eq_false_iff, Bool.or_eq_false_iff, Bool.not_not, ne_eq, Int.not_lt, Int.not_le, Decidable.not_not, beq_iff_eq, bne_iff_ne] at hc6
                                have hf := dl_6y (l := l.pl) hhd hk6 ⟨(show m.r = g.st.fid by omega), by omega⟩
                                refine c_region ?_
                                refine wl (wl_val hl rfl trivial (r_move hl rfl) ?_)
                                clear hl a; intro a hl
                                refine wl (wl_val hl rfl trivial (r_move hl rfl) ?_)
                                clear hl a; intro a hl
                                refine wl (w_call hl hh rfl trivial rfl cal52 rfl (confirm_spec Z gb g l hg hl9 (sh1 m.d) hvl) (by repeat (first | exact keeps_nil | apply keeps_cons (by repeat (first | exact find_head | apply find_tail | apply find_skip)) (by first  | rfl) | exact keeps_self | exact keeps_left | apply keeps_app | apply keeps_mv | apply keeps_skip)) trivial ?_)
                                clear hl hh a w; intro vc Fc a w hR hl hh
                                obtain ⟨rfl, g', l', G9, he9, hg', hl', hp1, hp2, rfl⟩ := hR
                                try simp only [List.cons_append, List.nil_append, List.append_assoc, List.append_nil] at hh
                                refine w_nil ?_
                                have hl2 := hl.nil; clear hl; have hl := hl2; clear hl2
                                refine blk_normal ?_
                                first
                                | (have hqq := hp2; refine f_end0 (F' := GF gb g' l' (Z ++ G9)) hl hh rfl (by first | exact keeps_self | exact keeps_left) ?_; exact ⟨rfl, g', l', G9, he9, hg', hl', hp1.trans (by rw [hf]; try rfl), hp2.trans (by rw [hf]; try rfl), rfl⟩)
                                | (have hqq := hc3; refine f_end0 (F' := (gb, C (GtV.c { g with ys := orB g.ys (sh1 m.d) }) 127) :: (g.st.E ++ (g.qE ++ ((g.rb, MD (kInt .u32) g.rl g.rn) :: (g.oE ++ ((g.led, C (LdV.c l) 91) :: (l.d.E ++ Z))))))) hl hh rfl (by repeat (first | exact keeps_nil | apply keeps_cons (by repeat (first | exact find_head | apply find_tail | apply find_skip)) (by first  | rfl) | exact keeps_self | exact keeps_left | apply keeps_app | apply keeps_mv | apply keeps_skip)) ?_; exact ⟨rfl, GO.same (g' := { g with ys := orB g.ys (sh1 m.d) }) (ys_ok hg (orB_bd _ _)) hl9 (by rw [hf]; rfl) (by rw [hf]) rfl⟩)
                                | (refine f_end0 (F' := (gb, C (GtV.c g) 127) :: (g.st.E ++ (g.qE ++ ((g.rb, MD (kInt .u32) g.rl g.rn) :: (g.oE ++ ((g.led, C (LdV.c l) 91) :: (l.d.E ++ Z))))))) hl hh rfl (by repeat (first | exact keeps_nil | apply keeps_cons (by repeat (first | exact find_head | apply find_tail | apply find_skip)) (by first  | rfl) | exact keeps_self | exact keeps_left | apply keeps_app | apply keeps_mv | apply keeps_skip)) ?_; exact ⟨rfl, GO.same hg hl9 (by rw [hf]) (by rw [hf]) rfl⟩)
                              · intro hc6
                                try simp only [decide_eq_true_eq, decide_eq_false_iff_not, Bool.not_eq_true', Bool.not_eq_false', Bool.not_eq_true, Bool.not_eq_false, Bool.and_eq_true, Bool.or_eq_true, Bool.and_eq_false_iff, Bool.or_eq_false_iff, Bool.not_not, ne_eq, Int.not_lt, Int.not_le, Decidable.not_not, beq_iff_eq, bne_iff_ne] at hc6
                                have hf := dl_6n (l := l.pl) hhd hk6 (fun ⟨q1, q2⟩ => by have q1 : m.r = g.st.fid := q1; omega)
                                refine wp_skip ?_
                                refine blk_normal ?_
                                first
                                | (have hqq := hp2; refine f_end0 (F' := GF gb g' l' (Z ++ G9)) hl hh rfl (by first | exact keeps_self | exact keeps_left) ?_; exact ⟨rfl, g', l', G9, he9, hg', hl', hp1.trans (by rw [hf]; try rfl), hp2.trans (by rw [hf]; try rfl), rfl⟩)
                                | (have hqq := hc3; refine f_end0 (F' := (gb, C (GtV.c { g with ys := orB g.ys (sh1 m.d) }) 127) :: (g.st.E ++ (g.qE ++ ((g.rb, MD (kInt .u32) g.rl g.rn) :: (g.oE ++ ((g.led, C (LdV.c l) 91) :: (l.d.E ++ Z))))))) hl hh rfl (by repeat (first | exact keeps_nil | apply keeps_cons (by repeat (first | exact find_head | apply find_tail | apply find_skip)) (by first  | rfl) | exact keeps_self | exact keeps_left | apply keeps_app | apply keeps_mv | apply keeps_skip)) ?_; exact ⟨rfl, GO.same (g' := { g with ys := orB g.ys (sh1 m.d) }) (ys_ok hg (orB_bd _ _)) hl9 (by rw [hf]; rfl) (by rw [hf]) rfl⟩)
                                | (refine f_end0 (F' := (gb, C (GtV.c g) 127) :: (g.st.E ++ (g.qE ++ ((g.rb, MD (kInt .u32) g.rl g.rn) :: (g.oE ++ ((g.led, C (LdV.c l) 91) :: (l.d.E ++ Z))))))) hl hh rfl (by repeat (first | exact keeps_nil | apply keeps_cons (by repeat (first | exact find_head | apply find_tail | apply find_skip)) (by first  | rfl) | exact keeps_self | exact keeps_left | apply keeps_app | apply keeps_mv | apply keeps_skip)) ?_; exact ⟨rfl, GO.same hg hl9 (by rw [hf]) (by rw [hf]) rfl⟩)
                            · intro hg10; clear hl; intro hl
                              try simp only [decide_eq_true_eq, decide_eq_false_iff_not, Bool.not_eq_true', Bool.not_eq_false', Bool.not_eq_true, Bool.not_eq_false, Bool.and_eq_true, Bool.or_eq_true, Bool.and_eq_false_iff, Bool.or_eq_false_iff, Bool.not_not, ne_eq, Int.not_lt, Int.not_le, Decidable.not_not, beq_iff_eq, bne_iff_ne] at hg10
                              refine wl (wl_skip hl rfl ⟨_, _, rfl, rfl, rfl⟩ ?_)
                              clear hl a; intro a hl
                              refine wl (wl_skip hl rfl ⟨_, _, rfl, rfl, rfl⟩ ?_)
                              clear hl a; intro a hl
                              refine wl (wl_skip hl rfl ⟨_, _, rfl, rfl, rfl⟩ ?_)
                              clear hl a; intro a hl
                              refine wl (wl_val hl rfl trivial (r_pickF hl rfl rfl) ?_)
                              clear hl a; intro a hl
                              refine w_nil ?_
                              have hl2 := hl.add (t := 0) (hl.add (t := 5) (hl.add (t := 117) (hl.nil) rfl) rfl) rfl; clear hl; have hl := hl2; clear hl2
                              refine then_normal ?_
                              refine c_condF hl rfl ?_
                              have hf := dl_6n (l := l.pl) hhd hk6 (fun ⟨q1, q2⟩ => by have q1 : m.r = g.st.fid := q1; omega)
                              refine wp_skip ?_
                              refine blk_normal ?_
                              first
                              | (have hqq := hp2; refine f_end0 (F' := GF gb g' l' (Z ++ G9)) hl hh rfl (by first | exact keeps_self | exact keeps_left) ?_; exact ⟨rfl, g', l', G9, he9, hg', hl', hp1.trans (by rw [hf]; try rfl), hp2.trans (by rw [hf]; try rfl), rfl⟩)
                              | (have hqq := hc3; refine f_end0 (F' := (gb, C (GtV.c { g with ys := orB g.ys (sh1 m.d) }) 127) :: (g.st.E ++ (g.qE ++ ((g.rb, MD (kInt .u32) g.rl g.rn) :: (g.oE ++ ((g.led, C (LdV.c l) 91) :: (l.d.E ++ Z))))))) hl hh rfl (by repeat (first | exact keeps_nil | apply keeps_cons (by repeat (first | exact find_head | apply find_tail | apply find_skip)) (by first  | rfl) | exact keeps_self | exact keeps_left | apply keeps_app | apply keeps_mv | apply keeps_skip)) ?_; exact ⟨rfl, GO.same (g' := { g with ys := orB g.ys (sh1 m.d) }) (ys_ok hg (orB_bd _ _)) hl9 (by rw [hf]; rfl) (by rw [hf]) rfl⟩)
                              | (refine f_end0 (F' := (gb, C (GtV.c g) 127) :: (g.st.E ++ (g.qE ++ ((g.rb, MD (kInt .u32) g.rl g.rn) :: (g.oE ++ ((g.led, C (LdV.c l) 91) :: (l.d.E ++ Z))))))) hl hh rfl (by repeat (first | exact keeps_nil | apply keeps_cons (by repeat (first | exact find_head | apply find_tail | apply find_skip)) (by first  | rfl) | exact keeps_self | exact keeps_left | apply keeps_app | apply keeps_mv | apply keeps_skip)) ?_; exact ⟨rfl, GO.same hg hl9 (by rw [hf]) (by rw [hf]) rfl⟩)
                          · intro hc5
                            try simp only [decide_eq_true_eq, decide_eq_false_iff_not, Bool.not_eq_true', Bool.not_eq_false', Bool.not_eq_true, Bool.not_eq_false, Bool.and_eq_true, Bool.or_eq_true, Bool.and_eq_false_iff, Bool.or_eq_false_iff, Bool.not_not, ne_eq, Int.not_lt, Int.not_le, Decidable.not_not, beq_iff_eq, bne_iff_ne] at hc5
                            have hn3 : ¬ (m.k = 6 ∧ g.pl.st.ph = 2 ∧ g.pl.au = true) := fun ⟨q1, q2, q3⟩ => by have q2 : g.st.ph = 2 := q2; have q3 : g.au = true := q3; first | omega | (simp_all; done)
                            refine c_seq ?_
                            refine c_region ?_
                            refine wl (wl_val hl rfl trivial (r_field hl rfl fld38_0) ?_)
                            clear hl a; intro a hl
                            refine wl (w_load hl hh rfl trivial one35 rfl (by repeat (first | exact find_head | apply find_tail | apply find_skip)) (by first | exact gtc_led _ | exact gtc_ep _ | exact gtc_vs _ | exact gtc_is _ | exact gtc_fid _ | exact gtc_ph _ | exact gtc_vd _ | exact gtc_q _ | exact gtc_rf _ | exact gtc_ys _ | exact gtc_dn _ | exact gtc_tk _ | exact gtc_au _ | exact gtc_o _ | exact gtc_off _ | rfl) ?_)
                            clear hl a; intro a hl
                            refine wl (wl_val hl rfl trivial (r_eql hl rfl rfl) ?_)
                            clear hl a; intro a hl
                            refine wl (wl_val hl rfl trivial (r_move hl rfl) ?_)
                            clear hl a; intro a hl
                            refine sl_split (t := 125) hl rfl ?_ ?_
                            · intro hg11; clear hl; intro hl
                              try simp only [decide_eq_true_eq, decide_eq_false_iff_not, Bool.not_eq_true', Bool.not_eq_false', Bool.not_eq_true, Bool.not_eq_false, Bool.and_eq_true, Bool.or_eq_true, Bool.and_eq_false_iff, Bool.or_eq_false_iff, Bool.not_not, ne_eq, Int.not_lt, Int.not_le, Decidable.not_not, beq_iff_eq, bne_iff_ne] at hg11
                              refine wl (wl_val hl rfl ⟨_, _, rfl, rfl, rfl⟩ (r_field hl rfl fld87_1) ?_)
                              clear hl a; intro a hl
                              refine wl (w_load hl hh rfl ⟨_, _, rfl, rfl, rfl⟩ one76 rfl (by repeat (first | exact find_head | apply find_tail | apply find_skip)) (by first | exact gtc_led _ | exact gtc_ep _ | exact gtc_vs _ | exact gtc_is _ | exact gtc_fid _ | exact gtc_ph _ | exact gtc_vd _ | exact gtc_q _ | exact gtc_rf _ | exact gtc_ys _ | exact gtc_dn _ | exact gtc_tk _ | exact gtc_au _ | exact gtc_o _ | exact gtc_off _ | rfl) ?_)
                              clear hl a; intro a hl
                              refine wl (wl_val hl rfl ⟨_, _, rfl, rfl, rfl⟩ (r_eql hl rfl rfl) ?_)
                              clear hl a; intro a hl
                              refine wl (wl_val hl rfl trivial (r_pickT hl rfl rfl) ?_)
                              clear hl a; intro a hl
                              refine wl (wl_val hl rfl trivial (r_move hl rfl) ?_)
                              clear hl a; intro a hl
                              refine sl_split (t := 130) hl rfl ?_ ?_
                              · intro hg12; clear hl; intro hl
                                try simp only [decide_eq_true_eq, decide_eq_false_iff_not, Bool.not_eq_true', Bool.not_eq_false', Bool.not_eq_true, Bool.not_eq_false, Bool.and_eq_true, Bool.or_eq_true, Bool.and_eq_false_iff, Bool.or_eq_false_iff, Bool.not_not, ne_eq, Int.not_lt, Int.not_le, Decidable.not_not, beq_iff_eq, bne_iff_ne] at hg12
                                refine wl (wl_val hl rfl ⟨_, _, rfl, rfl, rfl⟩ (r_move hl rfl) ?_)
                                clear hl a; intro a hl
                                refine wl (wl_val hl rfl ⟨_, _, rfl, rfl, rfl⟩ (r_nilCheck hl rfl) ?_)
                                clear hl a; intro a hl
                                refine wl (wl_val hl rfl ⟨_, _, rfl, rfl, rfl⟩ (r_field hl rfl fld127_8) ?_)
                                clear hl a; intro a hl
                                refine wl (w_load hl hh rfl ⟨_, _, rfl, rfl, rfl⟩ one4 rfl (by repeat (first | exact find_head | apply find_tail | apply find_skip)) (by first | exact gtc_led _ | exact gtc_ep _ | exact gtc_vs _ | exact gtc_is _ | exact gtc_fid _ | exact gtc_ph _ | exact gtc_vd _ | exact gtc_q _ | exact gtc_rf _ | exact gtc_ys _ | exact gtc_dn _ | exact gtc_tk _ | exact gtc_au _ | exact gtc_o _ | exact gtc_off _ | rfl) ?_)
                                clear hl a; intro a hl
                                refine wl (wl_val hl rfl trivial (r_pickT hl rfl rfl) ?_)
                                clear hl a; intro a hl
                                refine wl (wl_val hl rfl trivial (r_assign hl rfl) ?_)
                                clear hl a; intro a hl
                                refine w_nil ?_
                                have hl2 := hl.add (t := 0) (hl.add (t := 3) (hl.add (t := 4) (hl.add (t := 5) (hl.add (t := 121) (hl.nil) rfl) rfl) rfl) rfl) rfl; clear hl; have hl := hl2; clear hl2
                                refine then_normal ?_
                                refine c_cond hl rfl ?_ ?_
                                · intro hc7
                                  try simp only [decide_eq_true_eq, decide_eq_false_iff_not, Bool.not_eq_true', Bool.not_eq_false', Bool.not_eq_true, Bool.not_eq_false, Bool.and_eq_true, Bool.or_eq_true, Bool.and_eq_false_iff, Bool.or_eq_false_iff, Bool.not_not, ne_eq, Int.not_lt, Int.not_le, Decidable.not_not, beq_iff_eq, bne_iff_ne] at hc7
                                  have hk7 : m.k = 6 ∧ g.pl.st.ph = 3 ∧ g.pl.au = true := ⟨by omega, (show g.st.ph = 3 by omega), (show g.au = true by first | assumption | (simp_all; done))⟩
                                  refine c_seq ?_
                                  refine c_region ?_
                                  refine wl (wl_val hl rfl trivial (r_field hl rfl fld38_5) ?_)
                                  clear hl a; intro a hl
                                  refine wl (w_load hl hh rfl trivial one36 rfl (by repeat (first | exact find_head | apply find_tail | apply find_skip)) (by first | exact gtc_led _ | exact gtc_ep _ | exact gtc_vs _ | exact gtc_is _ | exact gtc_fid _ | exact gtc_ph _ | exact gtc_vd _ | exact gtc_q _ | exact gtc_rf _ | exact gtc_ys _ | exact gtc_dn _ | exact gtc_tk _ | exact gtc_au _ | exact gtc_o _ | exact gtc_off _ | rfl) ?_)
                                  clear hl a; intro a hl
                                  refine wl (wl_val hl rfl trivial (r_field hl rfl fld87_0) ?_)
                                  clear hl a; intro a hl
                                  refine wl (w_load hl hh rfl trivial one36 rfl (by repeat (first | exact find_head | apply find_tail | apply find_skip)) (by first | exact gtc_led _ | exact gtc_ep _ | exact gtc_vs _ | exact gtc_is _ | exact gtc_fid _ | exact gtc_ph _ | exact gtc_vd _ | exact gtc_q _ | exact gtc_rf _ | exact gtc_ys _ | exact gtc_dn _ | exact gtc_tk _ | exact gtc_au _ | exact gtc_o _ | exact gtc_off _ | rfl) ?_)
                                  clear hl a; intro a hl
                                  refine wl (wl_val hl rfl trivial (r_neq hl rfl rfl) ?_)
                                  clear hl a; intro a hl
                                  refine wl (wl_val hl rfl trivial (r_move hl rfl) ?_)
                                  clear hl a; intro a hl
                                  refine sl_split (t := 141) hl rfl ?_ ?_
                                  · intro hg13; clear hl; intro hl
                                    try simp only [decide_eq_true_eq, decide_eq_false_iff_not, Bool.not_eq_true', Bool.not_eq_false', Bool.not_eq_true, Bool.not_eq_false, Bool.and_eq_true, Bool.or_eq_true, Bool.and_eq_false_iff, Bool.or_eq_false_iff, Bool.not_not, ne_eq, Int.not_lt, Int.not_le, Decidable.not_not, beq_iff_eq, bne_iff_ne] at hg13
                                    refine wl (wl_val hl rfl ⟨_, _, rfl, rfl, rfl⟩ (r_field hl rfl fld38_6) ?_)
                                    clear hl a; intro a hl
                                    refine wl (w_load hl hh rfl ⟨_, _, rfl, rfl, rfl⟩ one36 rfl (by repeat (first | exact find_head | apply find_tail | apply find_skip)) (by first | exact gtc_led _ | exact gtc_ep _ | exact gtc_vs _ | exact gtc_is _ | exact gtc_fid _ | exact gtc_ph _ | exact gtc_vd _ | exact gtc_q _ | exact gtc_rf _ | exact gtc_ys _ | exact gtc_dn _ | exact gtc_tk _ | exact gtc_au _ | exact gtc_o _ | exact gtc_off _ | rfl) ?_)
                                    clear hl a; intro a hl
                                    refine wl (wl_val hl rfl ⟨_, _, rfl, rfl, rfl⟩ (r_eql hl rfl rfl) ?_)
                                    clear hl a; intro a hl
                                    refine wl (wl_val hl rfl trivial (r_pickT hl rfl rfl) ?_)
                                    clear hl a; intro a hl
                                    refine w_nil ?_
                                    have hl2 := hl.add (t := 0) (hl.add (t := 5) (hl.add (t := 145) (hl.nil) rfl) rfl) rfl; clear hl; have hl := hl2; clear hl2
                                    refine then_normal ?_
                                    refine c_cond hl rfl ?_ ?_
                                    · intro hc8
                                      try simp only [decide_eq_true_eq, decide_eq_false_iff_not, Bool.not_eq_true', Bool.not_eq_false', Bool.not_eq_true, Bool.not_eq_false, Bool.and_eq_true, Bool.or_eq_true, Bool.and_eq_false_iff, Bool.or_eq_false_iff, Bool.not_not, ne_eq, Int.not_lt, Int.not_le, Decidable.not_not, beq_iff_eq, bne_iff_ne] at hc8
                                      have hf := dl_7y (l := l.pl) hhd hk7 ⟨(show ¬ m.r = g.st.fid by omega), by omega⟩
                                      refine c_region ?_
                                      refine wl (wl_val hl rfl trivial (r_move hl rfl) ?_)
                                      clear hl a; intro a hl
                                      refine wl (wl_val hl rfl trivial (r_move hl rfl) ?_)
                                      clear hl a; intro a hl
                                      refine wl (w_call hl hh rfl trivial rfl cal52 rfl (confirm_spec Z gb g l hg hl9 (sh1 m.d) hvl) (by repeat (first | exact keeps_nil | apply keeps_cons (by repeat (first | exact find_head | apply find_tail | apply find_skip)) (by first  | rfl) | exact keeps_self | exact keeps_left | apply keeps_app | apply keeps_mv | apply keeps_skip)) trivial ?_)
                                      clear hl hh a w; intro vc Fc a w hR hl hh
                                      obtain ⟨rfl, g', l', G9, he9, hg', hl', hp1, hp2, rfl⟩ := hR
                                      try simp only [List.cons_append, List.nil_append, List.append_assoc, List.append_nil] at hh
                                      refine w_nil ?_
                                      have hl2 := hl.nil; clear hl; have hl := hl2; clear hl2
                                      refine blk_normal ?_
                                      first
                                      | (have hqq := hp2; refine f_end0 (F' := GF gb g' l' (Z ++ G9)) hl hh rfl (by first | exact keeps_self | exact keeps_left) ?_; exact ⟨rfl, g', l', G9, he9, hg', hl', hp1.trans (by rw [hf]; try rfl), hp2.trans (by rw [hf]; try rfl), rfl⟩)
                                      | (have hqq := hc3; refine f_end0 (F' := (gb, C (GtV.c { g with ys := orB g.ys (sh1 m.d) }) 127) :: (g.st.E ++ (g.qE ++ ((g.rb, MD (kInt .u32) g.rl g.rn) :: (g.oE ++ ((g.led, C (LdV.c l) 91) :: (l.d.E ++ Z))))))) hl hh rfl (by repeat (first | exact keeps_nil | apply keeps_cons (by repeat (first | exact find_head | apply find_tail | apply find_skip)) (by first  | rfl) | exact keeps_self | exact keeps_left | apply keeps_app | apply keeps_mv | apply keeps_skip)) ?_; exact ⟨rfl, GO.same (g' := { g with ys := orB g.ys (sh1 m.d) }) (ys_ok hg (orB_bd _ _)) hl9 (by rw [hf]; rfl) (by rw [hf]) rfl⟩)
                                      | (refine f_end0 (F' := (gb, C (GtV.c g) 127) :: (g.st.E ++ (g.qE ++ ((g.rb, MD (kInt .u32) g.rl g.rn) :: (g.oE ++ ((g.led, C (LdV.c l) 91) :: (l.d.E ++ Z))))))) hl hh rfl (by repeat (first | exact keeps_nil | apply keeps_cons (by repeat (first | exact find_head | apply find_tail | apply find_skip)) (by first  | rfl) | exact keeps_self | exact keeps_left | apply keeps_app | apply keeps_mv | apply keeps_skip)) ?_; exact ⟨rfl, GO.same hg hl9 (by rw [hf]) (by rw [hf]) rfl⟩)
                                    · intro hc8
                                      try simp only [decide_eq_true_eq, decide_eq_false_iff_not, Bool.not_eq_true', Bool.not_eq_false', Bool.not_eq_true, Bool.not_eq_false, Bool.and_eq_true, Bool.or_eq_true, Bool.and_eq_false_iff, Bool.or_eq_false_iff, Bool.not_not, ne_eq, Int.not_lt, Int.not_le, Decidable.not_not, beq_iff_eq, bne_iff_ne] at hc8
                                      have hf := dl_7n (l := l.pl) hhd hk7 (fun ⟨q1, q2⟩ => by have q1 : ¬ m.r = g.st.fid := q1; omega)
                                      refine wp_skip ?_
                                      refine blk_normal ?_
                                      first
                                      | (have hqq := hp2; refine f_end0 (F' := GF gb g' l' (Z ++ G9)) hl hh rfl (by first | exact keeps_self | exact keeps_left) ?_; exact ⟨rfl, g', l', G9, he9, hg', hl', hp1.trans (by rw [hf]; try rfl), hp2.trans (by rw [hf]; try rfl), rfl⟩)
                                      | (have hqq := hc3; refine f_end0 (F' := (gb, C (GtV.c { g with ys := orB g.ys (sh1 m.d) }) 127) :: (g.st.E ++ (g.qE ++ ((g.rb, MD (kInt .u32) g.rl g.rn) :: (g.oE ++ ((g.led, C (LdV.c l) 91) :: (l.d.E ++ Z))))))) hl hh rfl (by repeat (first | exact keeps_nil | apply keeps_cons (by repeat (first | exact find_head | apply find_tail | apply find_skip)) (by first  | rfl) | exact keeps_self | exact keeps_left | apply keeps_app | apply keeps_mv | apply keeps_skip)) ?_; exact ⟨rfl, GO.same (g' := { g with ys := orB g.ys (sh1 m.d) }) (ys_ok hg (orB_bd _ _)) hl9 (by rw [hf]; rfl) (by rw [hf]) rfl⟩)
                                      | (refine f_end0 (F' := (gb, C (GtV.c g) 127) :: (g.st.E ++ (g.qE ++ ((g.rb, MD (kInt .u32) g.rl g.rn) :: (g.oE ++ ((g.led, C (LdV.c l) 91) :: (l.d.E ++ Z))))))) hl hh rfl (by repeat (first | exact keeps_nil | apply keeps_cons (by repeat (first | exact find_head | apply find_tail | apply find_skip)) (by first  | rfl) | exact keeps_self | exact keeps_left | apply keeps_app | apply keeps_mv | apply keeps_skip)) ?_; exact ⟨rfl, GO.same hg hl9 (by rw [hf]) (by rw [hf]) rfl⟩)
                                  · intro hg13; clear hl; intro hl
                                    try simp only [decide_eq_true_eq, decide_eq_false_iff_not, Bool.not_eq_true', Bool.not_eq_false', Bool.not_eq_true, Bool.not_eq_false, Bool.and_eq_true, Bool.or_eq_true, Bool.and_eq_false_iff, Bool.or_eq_false_iff, Bool.not_not, ne_eq, Int.not_lt, Int.not_le, Decidable.not_not, beq_iff_eq, bne_iff_ne] at hg13
                                    refine wl (wl_skip hl rfl ⟨_, _, rfl, rfl, rfl⟩ ?_)
                                    clear hl a; intro a hl
                                    refine wl (wl_skip hl rfl ⟨_, _, rfl, rfl, rfl⟩ ?_)
                                    clear hl a; intro a hl
                                    refine wl (wl_skip hl rfl ⟨_, _, rfl, rfl, rfl⟩ ?_)
                                    clear hl a; intro a hl
                                    refine wl (wl_val hl rfl trivial (r_pickF hl rfl rfl) ?_)
                                    clear hl a; intro a hl
                                    refine w_nil ?_
                                    have hl2 := hl.add (t := 0) (hl.add (t := 5) (hl.add (t := 145) (hl.nil) rfl) rfl) rfl; clear hl; have hl := hl2; clear hl2
                                    refine then_normal ?_
                                    refine c_condF hl rfl ?_
                                    have hf := dl_7n (l := l.pl) hhd hk7 (fun ⟨q1, q2⟩ => by have q1 : ¬ m.r = g.st.fid := q1; omega)
                                    refine wp_skip ?_
                                    refine blk_normal ?_
                                    first
                                    | (have hqq := hp2; refine f_end0 (F' := GF gb g' l' (Z ++ G9)) hl hh rfl (by first | exact keeps_self | exact keeps_left) ?_; exact ⟨rfl, g', l', G9, he9, hg', hl', hp1.trans (by rw [hf]; try rfl), hp2.trans (by rw [hf]; try rfl), rfl⟩)
                                    | (have hqq := hc3; refine f_end0 (F' := (gb, C (GtV.c { g with ys := orB g.ys (sh1 m.d) }) 127) :: (g.st.E ++ (g.qE ++ ((g.rb, MD (kInt .u32) g.rl g.rn) :: (g.oE ++ ((g.led, C (LdV.c l) 91) :: (l.d.E ++ Z))))))) hl hh rfl (by repeat (first | exact keeps_nil | apply keeps_cons (by repeat (first | exact find_head | apply find_tail | apply find_skip)) (by first  | rfl) | exact keeps_self | exact keeps_left | apply keeps_app | apply keeps_mv | apply keeps_skip)) ?_; exact ⟨rfl, GO.same (g' := { g with ys := orB g.ys (sh1 m.d) }) (ys_ok hg (orB_bd _ _)) hl9 (by rw [hf]; rfl) (by rw [hf]) rfl⟩)
                                    | (refine f_end0 (F' := (gb, C (GtV.c g) 127) :: (g.st.E ++ (g.qE ++ ((g.rb, MD (kInt .u32) g.rl g.rn) :: (g.oE ++ ((g.led, C (LdV.c l) 91) :: (l.d.E ++ Z))))))) hl hh rfl (by repeat (first | exact keeps_nil | apply keeps_cons (by repeat (first | exact find_head | apply find_tail | apply find_skip)) (by first  | rfl) | exact keeps_self | exact keeps_left | apply keeps_app | apply keeps_mv | apply keeps_skip)) ?_; exact ⟨rfl, GO.same hg hl9 (by rw [hf]) (by rw [hf]) rfl⟩)
                                · intro hc7
                                  try simp only [decide_eq_true_eq, decide_eq_false_iff_not, Bool.not_eq_true', Bool.not_eq_false', Bool.not_eq_true, Bool.not_eq_false, Bool.and_eq_true, Bool.or_eq_true, Bool.and_eq_false_iff, Bool.or_eq_false_iff, Bool.not_not, ne_eq, Int.not_lt, Int.not_le, Decidable.not_not, beq_iff_eq, bne_iff_ne] at hc7
                                  have hn4 : ¬ (m.k = 6 ∧ g.pl.st.ph = 3 ∧ g.pl.au = true) := fun ⟨q1, q2, q3⟩ => by have q2 : g.st.ph = 3 := q2; have q3 : g.au = true := q3; first | omega | (simp_all; done)
                                  have hf := dl_x (l := l.pl) hhd hn1 hn2 hn3 hn4
                                  refine wp_skip ?_
                                  refine blk_normal ?_
                                  first
                                  | (have hqq := hp2; refine f_end0 (F' := GF gb g' l' (Z ++ G9)) hl hh rfl (by first | exact keeps_self | exact keeps_left) ?_; exact ⟨rfl, g', l', G9, he9, hg', hl', hp1.trans (by rw [hf]; try rfl), hp2.trans (by rw [hf]; try rfl), rfl⟩)
                                  | (have hqq := hc3; refine f_end0 (F' := (gb, C (GtV.c { g with ys := orB g.ys (sh1 m.d) }) 127) :: (g.st.E ++ (g.qE ++ ((g.rb, MD (kInt .u32) g.rl g.rn) :: (g.oE ++ ((g.led, C (LdV.c l) 91) :: (l.d.E ++ Z))))))) hl hh rfl (by repeat (first | exact keeps_nil | apply keeps_cons (by repeat (first | exact find_head | apply find_tail | apply find_skip)) (by first  | rfl) | exact keeps_self | exact keeps_left | apply keeps_app | apply keeps_mv | apply keeps_skip)) ?_; exact ⟨rfl, GO.same (g' := { g with ys := orB g.ys (sh1 m.d) }) (ys_ok hg (orB_bd _ _)) hl9 (by rw [hf]; rfl) (by rw [hf]) rfl⟩)
                                  | (refine f_end0 (F' := (gb, C (GtV.c g) 127) :: (g.st.E ++ (g.qE ++ ((g.rb, MD (kInt .u32) g.rl g.rn) :: (g.oE ++ ((g.led, C (LdV.c l) 91) :: (l.d.E ++ Z))))))) hl hh rfl (by repeat (first | exact keeps_nil | apply keeps_cons (by repeat (first | exact find_head | apply find_tail | apply find_skip)) (by first  | rfl) | exact keeps_self | exact keeps_left | apply keeps_app | apply keeps_mv | apply keeps_skip)) ?_; exact ⟨rfl, GO.same hg hl9 (by rw [hf]) (by rw [hf]) rfl⟩)
                              · intro hg12; clear hl; intro hl
                                try simp only [decide_eq_true_eq, decide_eq_false_iff_not, Bool.not_eq_true', Bool.not_eq_false', Bool.not_eq_true, Bool.not_eq_false, Bool.and_eq_true, Bool.or_eq_true, Bool.and_eq_false_iff, Bool.or_eq_false_iff, Bool.not_not, ne_eq, Int.not_lt, Int.not_le, Decidable.not_not, beq_iff_eq, bne_iff_ne] at hg12
                                refine wl (wl_skip hl rfl ⟨_, _, rfl, rfl, rfl⟩ ?_)
                                clear hl a; intro a hl
                                refine wl (wl_skip hl rfl ⟨_, _, rfl, rfl, rfl⟩ ?_)
                                clear hl a; intro a hl
                                refine wl (wl_skip hl rfl ⟨_, _, rfl, rfl, rfl⟩ ?_)
                                clear hl a; intro a hl
                                refine wl (wl_skip hl rfl ⟨_, _, rfl, rfl, rfl⟩ ?_)
                                clear hl a; intro a hl
                                refine wl (wl_val hl rfl trivial (r_pickF hl rfl rfl) ?_)
                                clear hl a; intro a hl
                                refine wl (wl_val hl rfl trivial (r_assign hl rfl) ?_)
                                clear hl a; intro a hl
                                refine w_nil ?_
                                have hl2 := hl.add (t := 0) (hl.add (t := 3) (hl.add (t := 4) (hl.add (t := 5) (hl.add (t := 121) (hl.nil) rfl) rfl) rfl) rfl) rfl; clear hl; have hl := hl2; clear hl2
                                refine then_normal ?_
                                refine c_condF hl rfl ?_
                                have hn4 : ¬ (m.k = 6 ∧ g.pl.st.ph = 3 ∧ g.pl.au = true) := fun ⟨q1, q2, q3⟩ => by have q2 : g.st.ph = 3 := q2; have q3 : g.au = true := q3; first | omega | (simp_all; done)
                                have hf := dl_x (l := l.pl) hhd hn1 hn2 hn3 hn4
                                refine wp_skip ?_
                                refine blk_normal ?_
                                first
                                | (have hqq := hp2; refine f_end0 (F' := GF gb g' l' (Z ++ G9)) hl hh rfl (by first | exact keeps_self | exact keeps_left) ?_; exact ⟨rfl, g', l', G9, he9, hg', hl', hp1.trans (by rw [hf]; try rfl), hp2.trans (by rw [hf]; try rfl), rfl⟩)
                                | (have hqq := hc3; refine f_end0 (F' := (gb, C (GtV.c { g with ys := orB g.ys (sh1 m.d) }) 127) :: (g.st.E ++ (g.qE ++ ((g.rb, MD (kInt .u32) g.rl g.rn) :: (g.oE ++ ((g.led, C (LdV.c l) 91) :: (l.d.E ++ Z))))))) hl hh rfl (by repeat (first | exact keeps_nil | apply keeps_cons (by repeat (first | exact find_head | apply find_tail | apply find_skip)) (by first  | rfl) | exact keeps_self | exact keeps_left | apply keeps_app | apply keeps_mv | apply keeps_skip)) ?_; exact ⟨rfl, GO.same (g' := { g with ys := orB g.ys (sh1 m.d) }) (ys_ok hg (orB_bd _ _)) hl9 (by rw [hf]; rfl) (by rw [hf]) rfl⟩)
                                | (refine f_end0 (F' := (gb, C (GtV.c g) 127) :: (g.st.E ++ (g.qE ++ ((g.rb, MD (kInt .u32) g.rl g.rn) :: (g.oE ++ ((g.led, C (LdV.c l) 91) :: (l.d.E ++ Z))))))) hl hh rfl (by repeat (first | exact keeps_nil | apply keeps_cons (by repeat (first | exact find_head | apply find_tail | apply find_skip)) (by first  | rfl) | exact keeps_self | exact keeps_left | apply keeps_app | apply keeps_mv | apply keeps_skip)) ?_; exact ⟨rfl, GO.same hg hl9 (by rw [hf]) (by rw [hf]) rfl⟩)
                            · intro hg11; clear hl; intro hl
                              try simp only [decide_eq_true_eq, decide_eq_false_iff_not, Bool.not_eq_true', Bool.not_eq_false', Bool.not_eq_true, Bool.not_eq_false, Bool.and_eq_true, Bool.or_eq_true, Bool.and_eq_false_iff, Bool.or_eq_false_iff, Bool.not_not, ne_eq, Int.not_lt, Int.not_le, Decidable.not_not, beq_iff_eq, bne_iff_ne] at hg11
                              refine wl (wl_skip hl rfl ⟨_, _, rfl, rfl, rfl⟩ ?_)
                              clear hl a; intro a hl
                              refine wl (wl_skip hl rfl ⟨_, _, rfl, rfl, rfl⟩ ?_)
                              clear hl a; intro a hl
                              refine wl (wl_skip hl rfl ⟨_, _, rfl, rfl, rfl⟩ ?_)
                              clear hl a; intro a hl
                              refine wl (wl_val hl rfl trivial (r_pickF hl rfl rfl) ?_)
                              clear hl a; intro a hl
                              refine wl (wl_val hl rfl trivial (r_move hl rfl) ?_)
                              clear hl a; intro a hl
                              refine wl (wl_skip hl rfl ⟨_, _, rfl, rfl, rfl⟩ ?_)
                              clear hl a; intro a hl
                              refine wl (wl_skip hl rfl ⟨_, _, rfl, rfl, rfl⟩ ?_)
                              clear hl a; intro a hl
                              refine wl (wl_skip hl rfl ⟨_, _, rfl, rfl, rfl⟩ ?_)
                              clear hl a; intro a hl
                              refine wl (wl_skip hl rfl ⟨_, _, rfl, rfl, rfl⟩ ?_)
                              clear hl a; intro a hl
                              refine wl (wl_val hl rfl trivial (r_pickF hl rfl rfl) ?_)
                              clear hl a; intro a hl
                              refine wl (wl_val hl rfl trivial (r_assign hl rfl) ?_)
                              clear hl a; intro a hl
                              refine w_nil ?_
                              have hl2 := hl.add (t := 0) (hl.add (t := 3) (hl.add (t := 4) (hl.add (t := 5) (hl.add (t := 121) (hl.nil) rfl) rfl) rfl) rfl) rfl; clear hl; have hl := hl2; clear hl2
                              refine then_normal ?_
                              refine c_condF hl rfl ?_
                              have hn4 : ¬ (m.k = 6 ∧ g.pl.st.ph = 3 ∧ g.pl.au = true) := fun ⟨q1, q2, q3⟩ => by have q2 : g.st.ph = 3 := q2; have q3 : g.au = true := q3; first | omega | (simp_all; done)
                              have hf := dl_x (l := l.pl) hhd hn1 hn2 hn3 hn4
                              refine wp_skip ?_
                              refine blk_normal ?_
                              first
                              | (have hqq := hp2; refine f_end0 (F' := GF gb g' l' (Z ++ G9)) hl hh rfl (by first | exact keeps_self | exact keeps_left) ?_; exact ⟨rfl, g', l', G9, he9, hg', hl', hp1.trans (by rw [hf]; try rfl), hp2.trans (by rw [hf]; try rfl), rfl⟩)
                              | (have hqq := hc3; refine f_end0 (F' := (gb, C (GtV.c { g with ys := orB g.ys (sh1 m.d) }) 127) :: (g.st.E ++ (g.qE ++ ((g.rb, MD (kInt .u32) g.rl g.rn) :: (g.oE ++ ((g.led, C (LdV.c l) 91) :: (l.d.E ++ Z))))))) hl hh rfl (by repeat (first | exact keeps_nil | apply keeps_cons (by repeat (first | exact find_head | apply find_tail | apply find_skip)) (by first  | rfl) | exact keeps_self | exact keeps_left | apply keeps_app | apply keeps_mv | apply keeps_skip)) ?_; exact ⟨rfl, GO.same (g' := { g with ys := orB g.ys (sh1 m.d) }) (ys_ok hg (orB_bd _ _)) hl9 (by rw [hf]; rfl) (by rw [hf]) rfl⟩)
                              | (refine f_end0 (F' := (gb, C (GtV.c g) 127) :: (g.st.E ++ (g.qE ++ ((g.rb, MD (kInt .u32) g.rl g.rn) :: (g.oE ++ ((g.led, C (LdV.c l) 91) :: (l.d.E ++ Z))))))) hl hh rfl (by repeat (first | exact keeps_nil | apply keeps_cons (by repeat (first | exact find_head | apply find_tail | apply find_skip)) (by first  | rfl) | exact keeps_self | exact keeps_left | apply keeps_app | apply keeps_mv | apply keeps_skip)) ?_; exact ⟨rfl, GO.same hg hl9 (by rw [hf]) (by rw [hf]) rfl⟩)
                        · intro hg9; clear hl; intro hl
                          try simp only [decide_eq_true_eq, decide_eq_false_iff_not, Bool.not_eq_true', Bool.not_eq_false', Bool.not_eq_true, Bool.not_eq_false, Bool.and_eq_true, Bool.or_eq_true, Bool.and_eq_false_iff, Bool.or_eq_false_iff, Bool.not_not, ne_eq, Int.not_lt, Int.not_le, Decidable.not_not, beq_iff_eq, bne_iff_ne] at hg9
                          refine wl (wl_skip hl rfl ⟨_, _, rfl, rfl, rfl⟩ ?_)
                          clear hl a; intro a hl
                          refine wl (wl_skip hl rfl ⟨_, _, rfl, rfl, rfl⟩ ?_)
                          clear hl a; intro a hl
                          refine wl (wl_skip hl rfl ⟨_, _, rfl, rfl, rfl⟩ ?_)
                          clear hl a; intro a hl
                          refine wl (wl_skip hl rfl ⟨_, _, rfl, rfl, rfl⟩ ?_)
                          clear hl a; intro a hl
                          refine wl (wl_val hl rfl trivial (r_pickF hl rfl rfl) ?_)
                          clear hl a; intro a hl
                          refine wl (wl_val hl rfl trivial (r_assign hl rfl) ?_)
                          clear hl a; intro a hl
                          refine w_nil ?_
                          have hl2 := hl.add (t := 0) (hl.add (t := 3) (hl.add (t := 4) (hl.add (t := 5) (hl.add (t := 93) (hl.nil) rfl) rfl) rfl) rfl) rfl; clear hl; have hl := hl2; clear hl2
                          refine then_normal ?_
                          refine c_condF hl rfl ?_
                          have hn3 : ¬ (m.k = 6 ∧ g.pl.st.ph = 2 ∧ g.pl.au = true) := fun ⟨q1, q2, q3⟩ => by have q2 : g.st.ph = 2 := q2; have q3 : g.au = true := q3; first | omega | (simp_all; done)
                          refine c_seq ?_
                          refine c_region ?_
                          refine wl (wl_val hl rfl trivial (r_field hl rfl fld38_0) ?_)
                          clear hl a; intro a hl
                          refine wl (w_load hl hh rfl trivial one35 rfl (by repeat (first | exact find_head | apply find_tail | apply find_skip)) (by first | exact gtc_led _ | exact gtc_ep _ | exact gtc_vs _ | exact gtc_is _ | exact gtc_fid _ | exact gtc_ph _ | exact gtc_vd _ | exact gtc_q _ | exact gtc_rf _ | exact gtc_ys _ | exact gtc_dn _ | exact gtc_tk _ | exact gtc_au _ | exact gtc_o _ | exact gtc_off _ | rfl) ?_)
                          clear hl a; intro a hl
                          refine wl (wl_val hl rfl trivial (r_eql hl rfl rfl) ?_)
                          clear hl a; intro a hl
                          refine wl (wl_val hl rfl trivial (r_move hl rfl) ?_)
                          clear hl a; intro a hl
                          refine sl_split (t := 125) hl rfl ?_ ?_
                          · intro hg14; clear hl; intro hl
                            try simp only [decide_eq_true_eq, decide_eq_false_iff_not, Bool.not_eq_true', Bool.not_eq_false', Bool.not_eq_true, Bool.not_eq_false, Bool.and_eq_true, Bool.or_eq_true, Bool.and_eq_false_iff, Bool.or_eq_false_iff, Bool.not_not, ne_eq, Int.not_lt, Int.not_le, Decidable.not_not, beq_iff_eq, bne_iff_ne] at hg14
                            refine wl (wl_val hl rfl ⟨_, _, rfl, rfl, rfl⟩ (r_field hl rfl fld87_1) ?_)
                            clear hl a; intro a hl
                            refine wl (w_load hl hh rfl ⟨_, _, rfl, rfl, rfl⟩ one76 rfl (by repeat (first | exact find_head | apply find_tail | apply find_skip)) (by first | exact gtc_led _ | exact gtc_ep _ | exact gtc_vs _ | exact gtc_is _ | exact gtc_fid _ | exact gtc_ph _ | exact gtc_vd _ | exact gtc_q _ | exact gtc_rf _ | exact gtc_ys _ | exact gtc_dn _ | exact gtc_tk _ | exact gtc_au _ | exact gtc_o _ | exact gtc_off _ | rfl) ?_)
                            clear hl a; intro a hl
                            refine wl (wl_val hl rfl ⟨_, _, rfl, rfl, rfl⟩ (r_eql hl rfl rfl) ?_)
                            clear hl a; intro a hl
                            refine wl (wl_val hl rfl trivial (r_pickT hl rfl rfl) ?_)
                            clear hl a; intro a hl
                            refine wl (wl_val hl rfl trivial (r_move hl rfl) ?_)
                            clear hl a; intro a hl
                            refine sl_split (t := 130) hl rfl ?_ ?_
                            · intro hg15; clear hl; intro hl
                              try simp only [decide_eq_true_eq, decide_eq_false_iff_not, Bool.not_eq_true', Bool.not_eq_false', Bool.not_eq_true, Bool.not_eq_false, Bool.and_eq_true, Bool.or_eq_true, Bool.and_eq_false_iff, Bool.or_eq_false_iff, Bool.not_not, ne_eq, Int.not_lt, Int.not_le, Decidable.not_not, beq_iff_eq, bne_iff_ne] at hg15
                              refine wl (wl_val hl rfl ⟨_, _, rfl, rfl, rfl⟩ (r_move hl rfl) ?_)
                              clear hl a; intro a hl
                              refine wl (wl_val hl rfl ⟨_, _, rfl, rfl, rfl⟩ (r_nilCheck hl rfl) ?_)
                              clear hl a; intro a hl
                              refine wl (wl_val hl rfl ⟨_, _, rfl, rfl, rfl⟩ (r_field hl rfl fld127_8) ?_)
                              clear hl a; intro a hl
                              refine wl (w_load hl hh rfl ⟨_, _, rfl, rfl, rfl⟩ one4 rfl (by repeat (first | exact find_head | apply find_tail | apply find_skip)) (by first | exact gtc_led _ | exact gtc_ep _ | exact gtc_vs _ | exact gtc_is _ | exact gtc_fid _ | exact gtc_ph _ | exact gtc_vd _ | exact gtc_q _ | exact gtc_rf _ | exact gtc_ys _ | exact gtc_dn _ | exact gtc_tk _ | exact gtc_au _ | exact gtc_o _ | exact gtc_off _ | rfl) ?_)
                              clear hl a; intro a hl
                              refine wl (wl_val hl rfl trivial (r_pickT hl rfl rfl) ?_)
                              clear hl a; intro a hl
                              refine wl (wl_val hl rfl trivial (r_assign hl rfl) ?_)
                              clear hl a; intro a hl
                              refine w_nil ?_
                              have hl2 := hl.add (t := 0) (hl.add (t := 3) (hl.add (t := 4) (hl.add (t := 5) (hl.add (t := 121) (hl.nil) rfl) rfl) rfl) rfl) rfl; clear hl; have hl := hl2; clear hl2
                              refine then_normal ?_
                              refine c_cond hl rfl ?_ ?_
                              · intro hc7
                                try simp only [decide_eq_true_eq, decide_eq_false_iff_not, Bool.not_eq_true', Bool.not_eq_false', Bool.not_eq_true, Bool.not_eq_false, Bool.and_eq_true, Bool.or_eq_true, Bool.and_eq_false_iff, Bool.or_eq_false_iff, Bool.not_not, ne_eq, Int.not_lt, Int.not_le, Decidable.not_not, beq_iff_eq, bne_iff_ne] at hc7
                                have hk7 : m.k = 6 ∧ g.pl.st.ph = 3 ∧ g.pl.au = true := ⟨by omega, (show g.st.ph = 3 by omega), (show g.au = true by first | assumption | (simp_all; done))⟩
                                refine c_seq ?_
                                refine c_region ?_
                                refine wl (wl_val hl rfl trivial (r_field hl rfl fld38_5) ?_)
                                clear hl a; intro a hl
                                refine wl (w_load hl hh rfl trivial one36 rfl (by repeat (first | exact find_head | apply find_tail | apply find_skip)) (by first | exact gtc_led _ | exact gtc_ep _ | exact gtc_vs _ | exact gtc_is _ | exact gtc_fid _ | exact gtc_ph _ | exact gtc_vd _ | exact gtc_q _ | exact gtc_rf _ | exact gtc_ys _ | exact gtc_dn _ | exact gtc_tk _ | exact gtc_au _ | exact gtc_o _ | exact gtc_off _ | rfl) ?_)
                                clear hl a; intro a hl
                                refine wl (wl_val hl rfl trivial (r_field hl rfl fld87_0) ?_)
                                clear hl a; intro a hl
                                refine wl (w_load hl hh rfl trivial one36 rfl (by repeat (first | exact find_head | apply find_tail | apply find_skip)) (by first | exact gtc_led _ | exact gtc_ep _ | exact gtc_vs _ | exact gtc_is _ | exact gtc_fid _ | exact gtc_ph _ | exact gtc_vd _ | exact gtc_q _ | exact gtc_rf _ | exact gtc_ys _ | exact gtc_dn _ | exact gtc_tk _ | exact gtc_au _ | exact gtc_o _ | exact gtc_off _ | rfl) ?_)
                                clear hl a; intro a hl
                                refine wl (wl_val hl rfl trivial (r_neq hl rfl rfl) ?_)
                                clear hl a; intro a hl
                                refine wl (wl_val hl rfl trivial (r_move hl rfl) ?_)
                                clear hl a; intro a hl
                                refine sl_split (t := 141) hl rfl ?_ ?_
                                · intro hg16; clear hl; intro hl
                                  try simp only [decide_eq_true_eq, decide_eq_false_iff_not, Bool.not_eq_true', Bool.not_eq_false', Bool.not_eq_true, Bool.not_eq_false, Bool.and_eq_true, Bool.or_eq_true, Bool.and_eq_false_iff, Bool.or_eq_false_iff, Bool.not_not, ne_eq, Int.not_lt, Int.not_le, Decidable.not_not, beq_iff_eq, bne_iff_ne] at hg16
                                  refine wl (wl_val hl rfl ⟨_, _, rfl, rfl, rfl⟩ (r_field hl rfl fld38_6) ?_)
                                  clear hl a; intro a hl
                                  refine wl (w_load hl hh rfl ⟨_, _, rfl, rfl, rfl⟩ one36 rfl (by repeat (first | exact find_head | apply find_tail | apply find_skip)) (by first | exact gtc_led _ | exact gtc_ep _ | exact gtc_vs _ | exact gtc_is _ | exact gtc_fid _ | exact gtc_ph _ | exact gtc_vd _ | exact gtc_q _ | exact gtc_rf _ | exact gtc_ys _ | exact gtc_dn _ | exact gtc_tk _ | exact gtc_au _ | exact gtc_o _ | exact gtc_off _ | rfl) ?_)
                                  clear hl a; intro a hl
                                  refine wl (wl_val hl rfl ⟨_, _, rfl, rfl, rfl⟩ (r_eql hl rfl rfl) ?_)
                                  clear hl a; intro a hl
                                  refine wl (wl_val hl rfl trivial (r_pickT hl rfl rfl) ?_)
                                  clear hl a; intro a hl
                                  refine w_nil ?_
                                  have hl2 := hl.add (t := 0) (hl.add (t := 5) (hl.add (t := 145) (hl.nil) rfl) rfl) rfl; clear hl; have hl := hl2; clear hl2
                                  refine then_normal ?_
                                  refine c_cond hl rfl ?_ ?_
                                  · intro hc8
                                    try simp only [decide_eq_true_eq, decide_eq_false_iff_not, Bool.not_eq_true', Bool.not_eq_false', Bool.not_eq_true, Bool.not_eq_false, Bool.and_eq_true, Bool.or_eq_true, Bool.and_eq_false_iff, Bool.or_eq_false_iff, Bool.not_not, ne_eq, Int.not_lt, Int.not_le, Decidable.not_not, beq_iff_eq, bne_iff_ne] at hc8
                                    have hf := dl_7y (l := l.pl) hhd hk7 ⟨(show ¬ m.r = g.st.fid by omega), by omega⟩
                                    refine c_region ?_
                                    refine wl (wl_val hl rfl trivial (r_move hl rfl) ?_)
                                    clear hl a; intro a hl
                                    refine wl (wl_val hl rfl trivial (r_move hl rfl) ?_)
                                    clear hl a; intro a hl
                                    refine wl (w_call hl hh rfl trivial rfl cal52 rfl (confirm_spec Z gb g l hg hl9 (sh1 m.d) hvl) (by repeat (first | exact keeps_nil | apply keeps_cons (by repeat (first | exact find_head | apply find_tail | apply find_skip)) (by first  | rfl) | exact keeps_self | exact keeps_left | apply keeps_app | apply keeps_mv | apply keeps_skip)) trivial ?_)
                                    clear hl hh a w; intro vc Fc a w hR hl hh
                                    obtain ⟨rfl, g', l', G9, he9, hg', hl', hp1, hp2, rfl⟩ := hR
                                    try simp only [List.cons_append, List.nil_append, List.append_assoc, List.append_nil] at hh
                                    refine w_nil ?_
                                    have hl2 := hl.nil; clear hl; have hl := hl2; clear hl2
                                    refine blk_normal ?_
                                    first
                                    | (have hqq := hp2; refine f_end0 (F' := GF gb g' l' (Z ++ G9)) hl hh rfl (by first | exact keeps_self | exact keeps_left) ?_; exact ⟨rfl, g', l', G9, he9, hg', hl', hp1.trans (by rw [hf]; try rfl), hp2.trans (by rw [hf]; try rfl), rfl⟩)
                                    | (have hqq := hc3; refine f_end0 (F' := (gb, C (GtV.c { g with ys := orB g.ys (sh1 m.d) }) 127) :: (g.st.E ++ (g.qE ++ ((g.rb, MD (kInt .u32) g.rl g.rn) :: (g.oE ++ ((g.led, C (LdV.c l) 91) :: (l.d.E ++ Z))))))) hl hh rfl (by repeat (first | exact keeps_nil | apply keeps_cons (by repeat (first | exact find_head | apply find_tail | apply find_skip)) (by first  | rfl) | exact keeps_self | exact keeps_left | apply keeps_app | apply keeps_mv | apply keeps_skip)) ?_; exact ⟨rfl, GO.same (g' := { g with ys := orB g.ys (sh1 m.d) }) (ys_ok hg (orB_bd _ _)) hl9 (by rw [hf]; rfl) (by rw [hf]) rfl⟩)
                                    | (refine f_end0 (F' := (gb, C (GtV.c g) 127) :: (g.st.E ++ (g.qE ++ ((g.rb, MD (kInt .u32) g.rl g.rn) :: (g.oE ++ ((g.led, C (LdV.c l) 91) :: (l.d.E ++ Z))))))) hl hh rfl (by repeat (first | exact keeps_nil | apply keeps_cons (by repeat (first | exact find_head | apply find_tail | apply find_skip)) (by first  | rfl) | exact keeps_self | exact keeps_left | apply keeps_app | apply keeps_mv | apply keeps_skip)) ?_; exact ⟨rfl, GO.same hg hl9 (by rw [hf]) (by rw [hf]) rfl⟩)
                                  · intro hc8
                                    try simp only [decide_eq_true_eq, decide_eq_false_iff_not, Bool.not_eq_true', Bool.not_eq_false', Bool.not_eq_true, Bool.not_eq_false, Bool.and_eq_true, Bool.or_eq_true, Bool.and_eq_false_iff, Bool.or_eq_false_iff, Bool.not_not, ne_eq, Int.not_lt, Int.not_le, Decidable.not_not, beq_iff_eq, bne_iff_ne] at hc8
                                    have hf := dl_7n (l := l.pl) hhd hk7 (fun ⟨q1, q2⟩ => by have q1 : ¬ m.r = g.st.fid := q1; omega)
                                    refine wp_skip ?_
                                    refine blk_normal ?_
                                    first
                                    | (have hqq := hp2; refine f_end0 (F' := GF gb g' l' (Z ++ G9)) hl hh rfl (by first | exact keeps_self | exact keeps_left) ?_; exact ⟨rfl, g', l', G9, he9, hg', hl', hp1.trans (by rw [hf]; try rfl), hp2.trans (by rw [hf]; try rfl), rfl⟩)
                                    | (have hqq := hc3; refine f_end0 (F' := (gb, C (GtV.c { g with ys := orB g.ys (sh1 m.d) }) 127) :: (g.st.E ++ (g.qE ++ ((g.rb, MD (kInt .u32) g.rl g.rn) :: (g.oE ++ ((g.led, C (LdV.c l) 91) :: (l.d.E ++ Z))))))) hl hh rfl (by repeat (first | exact keeps_nil | apply keeps_cons (by repeat (first | exact find_head | apply find_tail | apply find_skip)) (by first  | rfl) | exact keeps_self | exact keeps_left | apply keeps_app | apply keeps_mv | apply keeps_skip)) ?_; exact ⟨rfl, GO.same (g' := { g with ys := orB g.ys (sh1 m.d) }) (ys_ok hg (orB_bd _ _)) hl9 (by rw [hf]; rfl) (by rw [hf]) rfl⟩)
                                    | (refine f_end0 (F' := (gb, C (GtV.c g) 127) :: (g.st.E ++ (g.qE ++ ((g.rb, MD (kInt .u32) g.rl g.rn) :: (g.oE ++ ((g.led, C (LdV.c l) 91) :: (l.d.E ++ Z))))))) hl hh rfl (by repeat (first | exact keeps_nil | apply keeps_cons (by repeat (first | exact find_head | apply find_tail | apply find_skip)) (by first  | rfl) | exact keeps_self | exact keeps_left | apply keeps_app | apply keeps_mv | apply keeps_skip)) ?_; exact ⟨rfl, GO.same hg hl9 (by rw [hf]) (by rw [hf]) rfl⟩)
                                · intro hg16; clear hl; intro hl
                                  try simp only [decide_eq_true_eq, decide_eq_false_iff_not, Bool.not_eq_true', Bool.not_eq_false', Bool.not_eq_true, Bool.not_eq_false, Bool.and_eq_true, Bool.or_eq_true, Bool.and_eq_false_iff, Bool.or_eq_false_iff, Bool.not_not, ne_eq, Int.not_lt, Int.not_le, Decidable.not_not, beq_iff_eq, bne_iff_ne] at hg16
                                  refine wl (wl_skip hl rfl ⟨_, _, rfl, rfl, rfl⟩ ?_)
                                  clear hl a; intro a hl
                                  refine wl (wl_skip hl rfl ⟨_, _, rfl, rfl, rfl⟩ ?_)
                                  clear hl a; intro a hl
                                  refine wl (wl_skip hl rfl ⟨_, _, rfl, rfl, rfl⟩ ?_)
                                  clear hl a; intro a hl
                                  refine wl (wl_val hl rfl trivial (r_pickF hl rfl rfl) ?_)
                                  clear hl a; intro a hl
                                  refine w_nil ?_
                                  have hl2 := hl.add (t := 0) (hl.add (t := 5) (hl.add (t := 145) (hl.nil) rfl) rfl) rfl; clear hl; have hl := hl2; clear hl2
                                  refine then_normal ?_
                                  refine c_condF hl rfl ?_
                                  have hf := dl_7n (l := l.pl) hhd hk7 (fun ⟨q1, q2⟩ => by have q1 : ¬ m.r = g.st.fid := q1; omega)
                                  refine wp_skip ?_
                                  refine blk_normal ?_
                                  first
                                  | (have hqq := hp2; refine f_end0 (F' := GF gb g' l' (Z ++ G9)) hl hh rfl (by first | exact keeps_self | exact keeps_left) ?_; exact ⟨rfl, g', l', G9, he9, hg', hl', hp1.trans (by rw [hf]; try rfl), hp2.trans (by rw [hf]; try rfl), rfl⟩)
                                  | (have hqq := hc3; refine f_end0 (F' := (gb, C (GtV.c { g with ys := orB g.ys (sh1 m.d) }) 127) :: (g.st.E ++ (g.qE ++ ((g.rb, MD (kInt .u32) g.rl g.rn) :: (g.oE ++ ((g.led, C (LdV.c l) 91) :: (l.d.E ++ Z))))))) hl hh rfl (by repeat (first | exact keeps_nil | apply keeps_cons (by repeat (first | exact find_head | apply find_tail | apply find_skip)) (by first  | rfl) | exact keeps_self | exact keeps_left | apply keeps_app | apply keeps_mv | apply keeps_skip)) ?_; exact ⟨rfl, GO.same (g' := { g with ys := orB g.ys (sh1 m.d) }) (ys_ok hg (orB_bd _ _)) hl9 (by rw [hf]; rfl) (by rw [hf]) rfl⟩)
                                  | (refine f_end0 (F' := (gb, C (GtV.c g) 127) :: (g.st.E ++ (g.qE ++ ((g.rb, MD (kInt .u32) g.rl g.rn) :: (g.oE ++ ((g.led, C (LdV.c l) 91) :: (l.d.E ++ Z))))))) hl hh rfl (by repeat (first | exact keeps_nil | apply keeps_cons (by repeat (first | exact find_head | apply find_tail | apply find_skip)) (by first  | rfl) | exact keeps_self | exact keeps_left | apply keeps_app | apply keeps_mv | apply keeps_skip)) ?_; exact ⟨rfl, GO.same hg hl9 (by rw [hf]) (by rw [hf]) rfl⟩)
                              · intro hc7
                                try simp only [decide_eq_true_eq, decide_eq_false_iff_not, Bool.not_eq_true', Bool.not_eq_false', Bool.not_eq_true, Bool.not_eq_false, Bool.and_eq_true, Bool.or_eq_true, Bool.and_eq_false_iff, Bool.or_eq_false_iff, Bool.not_not, ne_eq, Int.not_lt, Int.not_le, Decidable.not_not, beq_iff_eq, bne_iff_ne] at hc7
                                have hn4 : ¬ (m.k = 6 ∧ g.pl.st.ph = 3 ∧ g.pl.au = true) := fun ⟨q1, q2, q3⟩ => by have q2 : g.st.ph = 3 := q2; have q3 : g.au = true := q3; first | omega | (simp_all; done)
                                have hf := dl_x (l := l.pl) hhd hn1 hn2 hn3 hn4
                                refine wp_skip ?_
                                refine blk_normal ?_
                                first
                                | (have hqq := hp2; refine f_end0 (F' := GF gb g' l' (Z ++ G9)) hl hh rfl (by first | exact keeps_self | exact keeps_left) ?_; exact ⟨rfl, g', l', G9, he9, hg', hl', hp1.trans (by rw [hf]; try rfl), hp2.trans (by rw [hf]; try rfl), rfl⟩)
                                | (have hqq := hc3; refine f_end0 (F' := (gb, C (GtV.c { g with ys := orB g.ys (sh1 m.d) }) 127) :: (g.st.E ++ (g.qE ++ ((g.rb, MD (kInt .u32) g.rl g.rn) :: (g.oE ++ ((g.led, C (LdV.c l) 91) :: (l.d.E ++ Z))))))) hl hh rfl (by repeat (first | exact keeps_nil | apply keeps_cons (by repeat (first | exact find_head | apply find_tail | apply find_skip)) (by first  | rfl) | exact keeps_self | exact keeps_left | apply keeps_app | apply keeps_mv | apply keeps_skip)) ?_; exact ⟨rfl, GO.same (g' := { g with ys := orB g.ys (sh1 m.d) }) (ys_ok hg (orB_bd _ _)) hl9 (by rw [hf]; rfl) (by rw [hf]) rfl⟩)
                                | (refine f_end0 (F' := (gb, C (GtV.c g) 127) :: (g.st.E ++ (g.qE ++ ((g.rb, MD (kInt .u32) g.rl g.rn) :: (g.oE ++ ((g.led, C (LdV.c l) 91) :: (l.d.E ++ Z))))))) hl hh rfl (by repeat (first | exact keeps_nil | apply keeps_cons (by repeat (first | exact find_head | apply find_tail | apply find_skip)) (by first  | rfl) | exact keeps_self | exact keeps_left | apply keeps_app | apply keeps_mv | apply keeps_skip)) ?_; exact ⟨rfl, GO.same hg hl9 (by rw [hf]) (by rw [hf]) rfl⟩)
                            · intro hg15; clear hl; intro hl
                              try simp only [decide_eq_true_eq, decide_eq_false_iff_not, Bool.not_eq_true', Bool.not_eq_false', Bool.not_eq_true, Bool.not_eq_false, Bool.and_eq_true, Bool.or_eq_true, Bool.and_eq_false_iff, Bool.or_eq_false_iff, Bool.not_not, ne_eq, Int.not_lt, Int.not_le, Decidable.not_not, beq_iff_eq, bne_iff_ne] at hg15
                              refine wl (wl_skip hl rfl ⟨_, _, rfl, rfl, rfl⟩ ?_)
                              clear hl a; intro a hl
                              refine wl (wl_skip hl rfl ⟨_, _, rfl, rfl, rfl⟩ ?_)
                              clear hl a; intro a hl
                              refine wl (wl_skip hl rfl ⟨_, _, rfl, rfl, rfl⟩ ?_)
                              clear hl a; intro a hl
                              refine wl (wl_skip hl rfl ⟨_, _, rfl, rfl, rfl⟩ ?_)
                              clear hl a; intro a hl
                              refine wl (wl_val hl rfl trivial (r_pickF hl rfl rfl) ?_)
                              clear hl a; intro a hl
                              refine wl (wl_val hl rfl trivial (r_assign hl rfl) ?_)
                              clear hl a; intro a hl
                              refine w_nil ?_
                              have hl2 := hl.add (t := 0) (hl.add (t := 3) (hl.add (t := 4) (hl.add (t := 5) (hl.add (t := 121) (hl.nil) rfl) rfl) rfl) rfl) rfl; clear hl; have hl := hl2; clear hl2
                              refine then_normal ?_
                              refine c_condF hl rfl ?_
                              have hn4 : ¬ (m.k = 6 ∧ g.pl.st.ph = 3 ∧ g.pl.au = true) := fun ⟨q1, q2, q3⟩ => by have q2 : g.st.ph = 3 := q2; have q3 : g.au = true := q3; first | omega | (simp_all; done)
                              have hf := dl_x (l := l.pl) hhd hn1 hn2 hn3 hn4
                              refine wp_skip ?_
                              refine blk_normal ?_
                              first
                              | (have hqq := hp2; refine f_end0 (F' := GF gb g' l' (Z ++ G9)) hl hh rfl (by first | exact keeps_self | exact keeps_left) ?_; exact ⟨rfl, g', l', G9, he9, hg', hl', hp1.trans (by rw [hf]; try rfl), hp2.trans (by rw [hf]; try rfl), rfl⟩)
                              | (have hqq := hc3; refine f_end0 (F' := (gb, C (GtV.c { g with ys := orB g.ys (sh1 m.d) }) 127) :: (g.st.E ++ (g.qE ++ ((g.rb, MD (kInt .u32) g.rl g.rn) :: (g.oE ++ ((g.led, C (LdV.c l) 91) :: (l.d.E ++ Z))))))) hl hh rfl (by repeat (first | exact keeps_nil | apply keeps_cons (by repeat (first | exact find_head | apply find_tail | apply find_skip)) (by first  | rfl) | exact keeps_self | exact keeps_left | apply keeps_app | apply keeps_mv | apply keeps_skip)) ?_; exact ⟨rfl, GO.same (g' := { g with ys := orB g.ys (sh1 m.d) }) (ys_ok hg (orB_bd _ _)) hl9 (by rw [hf]; rfl) (by rw [hf]) rfl⟩)
                              | (refine f_end0 (F' := (gb, C (GtV.c g) 127) :: (g.st.E ++ (g.qE ++ ((g.rb, MD (kInt .u32) g.rl g.rn) :: (g.oE ++ ((g.led, C (LdV.c l) 91) :: (l.d.E ++ Z))))))) hl hh rfl (by repeat (first | exact keeps_nil | apply keeps_cons (by repeat (first | exact find_head | apply find_tail | apply find_skip)) (by first  | rfl) | exact keeps_self | exact keeps_left | apply keeps_app | apply keeps_mv | apply keeps_skip)) ?_; exact ⟨rfl, GO.same hg hl9 (by rw [hf]) (by rw [hf]) rfl⟩)
                          · intro hg14; clear hl; intro hl
                            try simp only [decide_eq_true_eq, decide_eq_false_iff_not, Bool.not_eq_true', Bool.not_eq_false', Bool.not_eq_true, Bool.not_eq_false, Bool.and_eq_true, Bool.or_eq_true, Bool.and_eq_false_iff, Bool.or_eq_false_iff, Bool.not_not, ne_eq, Int.not_lt, Int.not_le, Decidable.not_not, beq_iff_eq, bne_iff_ne] at hg14
                            refine wl (wl_skip hl rfl ⟨_, _, rfl, rfl, rfl⟩ ?_)
                            clear hl a; intro a hl
                            refine wl (wl_skip hl rfl ⟨_, _, rfl, rfl, rfl⟩ ?_)
                            clear hl a; intro a hl
                            refine wl (wl_skip hl rfl ⟨_, _, rfl, rfl, rfl⟩ ?_)
                            clear hl a; intro a hl
                            refine wl (wl_val hl rfl trivial (r_pickF hl rfl rfl) ?_)
                            clear hl a; intro a hl
                            refine wl (wl_val hl rfl trivial (r_move hl rfl) ?_)
                            clear hl a; intro a hl
                            refine wl (wl_skip hl rfl ⟨_, _, rfl, rfl, rfl⟩ ?_)
                            clear hl a; intro a hl
                            refine wl (wl_skip hl rfl ⟨_, _, rfl, rfl, rfl⟩ ?_)
                            clear hl a; intro a hl
                            refine wl (wl_skip hl rfl ⟨_, _, rfl, rfl, rfl⟩ ?_)
                            clear hl a; intro a hl
                            refine wl (wl_skip hl rfl ⟨_, _, rfl, rfl, rfl⟩ ?_)
                            clear hl a; intro a hl
                            refine wl (wl_val hl rfl trivial (r_pickF hl rfl rfl) ?_)
                            clear hl a; intro a hl
                            refine wl (wl_val hl rfl trivial (r_assign hl rfl) ?_)
                            clear hl a; intro a hl
                            refine w_nil ?_
                            have hl2 := hl.add (t := 0) (hl.add (t := 3) (hl.add (t := 4) (hl.add (t := 5) (hl.add (t := 121) (hl.nil) rfl) rfl) rfl) rfl) rfl; clear hl; have hl := hl2; clear hl2
                            refine then_normal ?_
                            refine c_condF hl rfl ?_
                            have hn4 : ¬ (m.k = 6 ∧ g.pl.st.ph = 3 ∧ g.pl.au = true) := fun ⟨q1, q2, q3⟩ => by have q2 : g.st.ph = 3 := q2; have q3 : g.au = true := q3; first | omega | (simp_all; done)
                            have hf := dl_x (l := l.pl) hhd hn1 hn2 hn3 hn4
                            refine wp_skip ?_
                            refine blk_normal ?_
                            first
                            | (have hqq := hp2; refine f_end0 (F' := GF gb g' l' (Z ++ G9)) hl hh rfl (by first | exact keeps_self | exact keeps_left) ?_; exact ⟨rfl, g', l', G9, he9, hg', hl', hp1.trans (by rw [hf]; try rfl), hp2.trans (by rw [hf]; try rfl), rfl⟩)
                            | (have hqq := hc3; refine f_end0 (F' := (gb, C (GtV.c { g with ys := orB g.ys (sh1 m.d) }) 127) :: (g.st.E ++ (g.qE ++ ((g.rb, MD (kInt .u32) g.rl g.rn) :: (g.oE ++ ((g.led, C (LdV.c l) 91) :: (l.d.E ++ Z))))))) hl hh rfl (by repeat (first | exact keeps_nil | apply keeps_cons (by repeat (first | exact find_head | apply find_tail | apply find_skip)) (by first  | rfl) | exact keeps_self | exact keeps_left | apply keeps_app | apply keeps_mv | apply keeps_skip)) ?_; exact ⟨rfl, GO.same (g' := { g with ys := orB g.ys (sh1 m.d) }) (ys_ok hg (orB_bd _ _)) hl9 (by rw [hf]; rfl) (by rw [hf]) rfl⟩)
                            | (refine f_end0 (F' := (gb, C (GtV.c g) 127) :: (g.st.E ++ (g.qE ++ ((g.rb, MD (kInt .u32) g.rl g.rn) :: (g.oE ++ ((g.led, C (LdV.c l) 91) :: (l.d.E ++ Z))))))) hl hh rfl (by repeat (first | exact keeps_nil | apply keeps_cons (by repeat (first | exact find_head | apply find_tail | apply find_skip)) (by first  | rfl) | exact keeps_self | exact keeps_left | apply keeps_app | apply keeps_mv | apply keeps_skip)) ?_; exact ⟨rfl, GO.same hg hl9 (by rw [hf]) (by rw [hf]) rfl⟩)
                      · intro hg8; clear hl; intro hl
                        try simp only [decide_eq_true_eq, decide_eq_false_iff_not, Bool.not_eq_true', Bool.not_eq_false', Bool.not_eq_true, Bool.not_eq_false, Bool.and_eq_true, Bool.or_eq_true, Bool.and_eq_false_iff, Bool.or_eq_false_iff, Bool.not_not, ne_eq, Int.not_lt, Int.not_le, Decidable.not_not, beq_iff_eq, bne_iff_ne] at hg8
                        refine wl (wl_skip hl rfl ⟨_, _, rfl, rfl, rfl⟩ ?_)
                        clear hl a; intro a hl
                        refine wl (wl_skip hl rfl ⟨_, _, rfl, rfl, rfl⟩ ?_)
                        clear hl a; intro a hl
                        refine wl (wl_skip hl rfl ⟨_, _, rfl, rfl, rfl⟩ ?_)
                        clear hl a; intro a hl
                        refine wl (wl_val hl rfl trivial (r_pickF hl rfl rfl) ?_)
                        clear hl a; intro a hl
                        refine wl (wl_val hl rfl trivial (r_move hl rfl) ?_)
                        clear hl a; intro a hl
                        refine wl (wl_skip hl rfl ⟨_, _, rfl, rfl, rfl⟩ ?_)
                        clear hl a; intro a hl
                        refine wl (wl_skip hl rfl ⟨_, _, rfl, rfl, rfl⟩ ?_)
                        clear hl a; intro a hl
                        refine wl (wl_skip hl rfl ⟨_, _, rfl, rfl, rfl⟩ ?_)
                        clear hl a; intro a hl
                        refine wl (wl_skip hl rfl ⟨_, _, rfl, rfl, rfl⟩ ?_)
                        clear hl a; intro a hl
                        refine wl (wl_val hl rfl trivial (r_pickF hl rfl rfl) ?_)
                        clear hl a; intro a hl
                        refine wl (wl_val hl rfl trivial (r_assign hl rfl) ?_)
                        clear hl a; intro a hl
                        refine w_nil ?_
                        have hl2 := hl.add (t := 0) (hl.add (t := 3) (hl.add (t := 4) (hl.add (t := 5) (hl.add (t := 93) (hl.nil) rfl) rfl) rfl) rfl) rfl; clear hl; have hl := hl2; clear hl2
                        refine then_normal ?_
                        refine c_condF hl rfl ?_
                        have hn3 : ¬ (m.k = 6 ∧ g.pl.st.ph = 2 ∧ g.pl.au = true) := fun ⟨q1, q2, q3⟩ => by have q2 : g.st.ph = 2 := q2; have q3 : g.au = true := q3; first | omega | (simp_all; done)
                        refine c_seq ?_
                        refine c_region ?_
                        refine wl (wl_val hl rfl trivial (r_field hl rfl fld38_0) ?_)
                        clear hl a; intro a hl
                        refine wl (w_load hl hh rfl trivial one35 rfl (by repeat (first | exact find_head | apply find_tail | apply find_skip)) (by first | exact gtc_led _ | exact gtc_ep _ | exact gtc_vs _ | exact gtc_is _ | exact gtc_fid _ | exact gtc_ph _ | exact gtc_vd _ | exact gtc_q _ | exact gtc_rf _ | exact gtc_ys _ | exact gtc_dn _ | exact gtc_tk _ | exact gtc_au _ | exact gtc_o _ | exact gtc_off _ | rfl) ?_)
                        clear hl a; intro a hl
                        refine wl (wl_val hl rfl trivial (r_eql hl rfl rfl) ?_)
                        clear hl a; intro a hl
                        refine wl (wl_val hl rfl trivial (r_move hl rfl) ?_)
                        clear hl a; intro a hl
                        refine sl_split (t := 125) hl rfl ?_ ?_
                        · intro hg17; clear hl; intro hl
                          try simp only [decide_eq_true_eq, decide_eq_false_iff_not, Bool.not_eq_true', Bool.not_eq_false', Bool.not_eq_true, Bool.not_eq_false, Bool.and_eq_true, Bool.or_eq_true, Bool.and_eq_false_iff, Bool.or_eq_false_iff, Bool.not_not, ne_eq, Int.not_lt, Int.not_le, Decidable.not_not, beq_iff_eq, bne_iff_ne] at hg17
                          refine wl (wl_val hl rfl ⟨_, _, rfl, rfl, rfl⟩ (r_field hl rfl fld87_1) ?_)
                          clear hl a; intro a hl
                          refine wl (w_load hl hh rfl ⟨_, _, rfl, rfl, rfl⟩ one76 rfl (by repeat (first | exact find_head | apply find_tail | apply find_skip)) (by first | exact gtc_led _ | exact gtc_ep _ | exact gtc_vs _ | exact gtc_is _ | exact gtc_fid _ | exact gtc_ph _ | exact gtc_vd _ | exact gtc_q _ | exact gtc_rf _ | exact gtc_ys _ | exact gtc_dn _ | exact gtc_tk _ | exact gtc_au _ | exact gtc_o _ | exact gtc_off _ | rfl) ?_)
                          clear hl a; intro a hl
                          refine wl (wl_val hl rfl ⟨_, _, rfl, rfl, rfl⟩ (r_eql hl rfl rfl) ?_)
                          clear hl a; intro a hl
                          refine wl (wl_val hl rfl trivial (r_pickT hl rfl rfl) ?_)
                          clear hl a; intro a hl
                          refine wl (wl_val hl rfl trivial (r_move hl rfl) ?_)
                          clear hl a; intro a hl
                          refine sl_split (t := 130) hl rfl ?_ ?_
                          · intro hg18; clear hl; intro hl
                            try simp only [decide_eq_true_eq, decide_eq_false_iff_not, Bool.not_eq_true', Bool.not_eq_false', Bool.not_eq_true, Bool.not_eq_false, Bool.and_eq_true, Bool.or_eq_true, Bool.and_eq_false_iff, Bool.or_eq_false_iff, Bool.not_not, ne_eq, Int.not_lt, Int.not_le, Decidable.not_not, beq_iff_eq, bne_iff_ne] at hg18
                            refine wl (wl_val hl rfl ⟨_, _, rfl, rfl, rfl⟩ (r_move hl rfl) ?_)
                            clear hl a; intro a hl
                            refine wl (wl_val hl rfl ⟨_, _, rfl, rfl, rfl⟩ (r_nilCheck hl rfl) ?_)
                            clear hl a; intro a hl
                            refine wl (wl_val hl rfl ⟨_, _, rfl, rfl, rfl⟩ (r_field hl rfl fld127_8) ?_)
                            clear hl a; intro a hl
                            refine wl (w_load hl hh rfl ⟨_, _, rfl, rfl, rfl⟩ one4 rfl (by repeat (first | exact find_head | apply find_tail | apply find_skip)) (by first | exact gtc_led _ | exact gtc_ep _ | exact gtc_vs _ | exact gtc_is _ | exact gtc_fid _ | exact gtc_ph _ | exact gtc_vd _ | exact gtc_q _ | exact gtc_rf _ | exact gtc_ys _ | exact gtc_dn _ | exact gtc_tk _ | exact gtc_au _ | exact gtc_o _ | exact gtc_off _ | rfl) ?_)
                            clear hl a; intro a hl
                            refine wl (wl_val hl rfl trivial (r_pickT hl rfl rfl) ?_)
                            clear hl a; intro a hl
                            refine wl (wl_val hl rfl trivial (r_assign hl rfl) ?_)
                            clear hl a; intro a hl
                            refine w_nil ?_
                            have hl2 := hl.add (t := 0) (hl.add (t := 3) (hl.add (t := 4) (hl.add (t := 5) (hl.add (t := 121) (hl.nil) rfl) rfl) rfl) rfl) rfl; clear hl; have hl := hl2; clear hl2
                            refine then_normal ?_
                            refine c_cond hl rfl ?_ ?_
                            · intro hc7
                              try simp only [decide_eq_true_eq, decide_eq_false_iff_not, Bool.not_eq_true', Bool.not_eq_false', Bool.not_eq_true, Bool.not_eq_false, Bool.and_eq_true, Bool.or_eq_true, Bool.and_eq_false_iff, Bool.or_eq_false_iff, Bool.not_not, ne_eq, Int.not_lt, Int.not_le, Decidable.not_not, beq_iff_eq, bne_iff_ne] at hc7
                              have hk7 : m.k = 6 ∧ g.pl.st.ph = 3 ∧ g.pl.au = true := ⟨by omega, (show g.st.ph = 3 by omega), (show g.au = true by first | assumption | (simp_all; done))⟩
                              refine c_seq ?_
                              refine c_region ?_
                              refine wl (wl_val hl rfl trivial (r_field hl rfl fld38_5) ?_)
                              clear hl a; intro a hl
                              refine wl (w_load hl hh rfl trivial one36 rfl (by repeat (first | exact find_head | apply find_tail | apply find_skip)) (by first | exact gtc_led _ | exact gtc_ep _ | exact gtc_vs _ | exact gtc_is _ | exact gtc_fid _ | exact gtc_ph _ | exact gtc_vd _ | exact gtc_q _ | exact gtc_rf _ | exact gtc_ys _ | exact gtc_dn _ | exact gtc_tk _ | exact gtc_au _ | exact gtc_o _ | exact gtc_off _ | rfl) ?_)
                              clear hl a; intro a hl
                              refine wl (wl_val hl rfl trivial (r_field hl rfl fld87_0) ?_)
                              clear hl a; intro a hl
                              refine wl (w_load hl hh rfl trivial one36 rfl (by repeat (first | exact find_head | apply find_tail | apply find_skip)) (by first | exact gtc_led _ | exact gtc_ep _ | exact gtc_vs _ | exact gtc_is _ | exact gtc_fid _ | exact gtc_ph _ | exact gtc_vd _ | exact gtc_q _ | exact gtc_rf _ | exact gtc_ys _ | exact gtc_dn _ | exact gtc_tk _ | exact gtc_au _ | exact gtc_o _ | exact gtc_off _ | rfl) ?_)
                              clear hl a; intro a hl
                              refine wl (wl_val hl rfl trivial (r_neq hl rfl rfl) ?_)
                              clear hl a; intro a hl
                              refine wl (wl_val hl rfl trivial (r_move hl rfl) ?_)
                              clear hl a; intro a hl
                              refine sl_split (t := 141) hl rfl ?_ ?_
                              · intro hg19; clear hl; intro hl
                                try simp only [decide_eq_true_eq, decide_eq_false_iff_not, Bool.not_eq_true', Bool.not_eq_false', Bool.not_eq_true, Bool.not_eq_false, Bool.and_eq_true, Bool.or_eq_true, Bool.and_eq_false_iff, Bool.or_eq_false_iff, Bool.not_not, ne_eq, Int.not_lt, Int.not_le, Decidable.not_not, beq_iff_eq, bne_iff_ne] at hg19
                                refine wl (wl_val hl rfl ⟨_, _, rfl, rfl, rfl⟩ (r_field hl rfl fld38_6) ?_)
                                clear hl a; intro a hl
                                refine wl (w_load hl hh rfl ⟨_, _, rfl, rfl, rfl⟩ one36 rfl (by repeat (first | exact find_head | apply find_tail | apply find_skip)) (by first | exact gtc_led _ | exact gtc_ep _ | exact gtc_vs _ | exact gtc_is _ | exact gtc_fid _ | exact gtc_ph _ | exact gtc_vd _ | exact gtc_q _ | exact gtc_rf _ | exact gtc_ys _ | exact gtc_dn _ | exact gtc_tk _ | exact gtc_au _ | exact gtc_o _ | exact gtc_off _ | rfl) ?_)
                                clear hl a; intro a hl
                                refine wl (wl_val hl rfl ⟨_, _, rfl, rfl, rfl⟩ (r_eql hl rfl rfl) ?_)
                                clear hl a; intro a hl
                                refine wl (wl_val hl rfl trivial (r_pickT hl rfl rfl) ?_)
                                clear hl a; intro a hl
                                refine w_nil ?_
                                have hl2 := hl.add (t := 0) (hl.add (t := 5) (hl.add (t := 145) (hl.nil) rfl) rfl) rfl; clear hl; have hl := hl2; clear hl2
                                refine then_normal ?_
                                refine c_cond hl rfl ?_ ?_
                                · intro hc8
                                  try simp only [decide_eq_true_eq, decide_eq_false_iff_not, Bool.not_eq_true', Bool.not_eq_false', Bool.not_eq_true, Bool.not_eq_false, Bool.and_eq_true, Bool.or_eq_true, Bool.and_eq_false_iff, Bool.or_eq_false_iff, Bool.not_not, ne_eq, Int.not_lt, Int.not_le, Decidable.not_not, beq_iff_eq, bne_iff_ne] at hc8
                                  have hf := dl_7y (l := l.pl) hhd hk7 ⟨(show ¬ m.r = g.st.fid by omega), by omega⟩
                                  refine c_region ?_
                                  refine wl (wl_val hl rfl trivial (r_move hl rfl) ?_)
                                  clear hl a; intro a hl
                                  refine wl (wl_val hl rfl trivial (r_move hl rfl) ?_)
                                  clear hl a; intro a hl
                                  refine wl (w_call hl hh rfl trivial rfl cal52 rfl (confirm_spec Z gb g l hg hl9 (sh1 m.d) hvl) (by repeat (first | exact keeps_nil | apply keeps_cons (by repeat (first | exact find_head | apply find_tail | apply find_skip)) (by first  | rfl) | exact keeps_self | exact keeps_left | apply keeps_app | apply keeps_mv | apply keeps_skip)) trivial ?_)
                                  clear hl hh a w; intro vc Fc a w hR hl hh
                                  obtain ⟨rfl, g', l', G9, he9, hg', hl', hp1, hp2, rfl⟩ := hR
                                  try simp only [List.cons_append, List.nil_append, List.append_assoc, List.append_nil] at hh
                                  refine w_nil ?_
                                  have hl2 := hl.nil; clear hl; have hl := hl2; clear hl2
                                  refine blk_normal ?_
                                  first
                                  | (have hqq := hp2; refine f_end0 (F' := GF gb g' l' (Z ++ G9)) hl hh rfl (by first | exact keeps_self | exact keeps_left) ?_; exact ⟨rfl, g', l', G9, he9, hg', hl', hp1.trans (by rw [hf]; try rfl), hp2.trans (by rw [hf]; try rfl), rfl⟩)
                                  | (have hqq := hc3; refine f_end0 (F' := (gb, C (GtV.c { g with ys := orB g.ys (sh1 m.d) }) 127) :: (g.st.E ++ (g.qE ++ ((g.rb, MD (kInt .u32) g.rl g.rn) :: (g.oE ++ ((g.led, C (LdV.c l) 91) :: (l.d.E ++ Z))))))) hl hh rfl (by repeat (first | exact keeps_nil | apply keeps_cons (by repeat (first | exact find_head | apply find_tail | apply find_skip)) (by first  | rfl) | exact keeps_self | exact keeps_left | apply keeps_app | apply keeps_mv | apply keeps_skip)) ?_; exact ⟨rfl, GO.same (g' := { g with ys := orB g.ys (sh1 m.d) }) (ys_ok hg (orB_bd _ _)) hl9 (by rw [hf]; rfl) (by rw [hf]) rfl⟩)
                                  | (refine f_end0 (F' := (gb, C (GtV.c g) 127) :: (g.st.E ++ (g.qE ++ ((g.rb, MD (kInt .u32) g.rl g.rn) :: (g.oE ++ ((g.led, C (LdV.c l) 91) :: (l.d.E ++ Z))))))) hl hh rfl (by repeat (first | exact keeps_nil | apply keeps_cons (by repeat (first | exact find_head | apply find_tail | apply find_skip)) (by first  | rfl) | exact keeps_self | exact keeps_left | apply keeps_app | apply keeps_mv | apply keeps_skip)) ?_; exact ⟨rfl, GO.same hg hl9 (by rw [hf]) (by rw [hf]) rfl⟩)
                                · intro hc8
                                  try simp only [decide_eq_true_eq, decide_eq_false_iff_not, Bool.not_eq_true', Bool.not_eq_false', Bool.not_eq_true, Bool.not_eq_false, Bool.and_eq_true, Bool.or_eq_true, Bool.and_eq_false_iff, Bool.or_eq_false_iff, Bool.not_not, ne_eq, Int.not_lt, Int.not_le, Decidable.not_not, beq_iff_eq, bne_iff_ne] at hc8
                                  have hf := dl_7n (l := l.pl) hhd hk7 (fun ⟨q1, q2⟩ => by have q1 : ¬ m.r = g.st.fid := q1; omega)
                                  refine wp_skip ?_
                                  refine blk_normal ?_
                                  first
                                  | (have hqq := hp2; refine f_end0 (F' := GF gb g' l' (Z ++ G9)) hl hh rfl (by first | exact keeps_self | exact keeps_left) ?_; exact ⟨rfl, g', l', G9, he9, hg', hl', hp1.trans (by rw [hf]; try rfl), hp2.trans (by rw [hf]; try rfl), rfl⟩)
                                  | (have hqq := hc3; refine f_end0 (F' := (gb, C (GtV.c { g with ys := orB g.ys (sh1 m.d) }) 127) :: (g.st.E ++ (g.qE ++ ((g.rb, MD (kInt .u32) g.rl g.rn) :: (g.oE ++ ((g.led, C (LdV.c l) 91) :: (l.d.E ++ Z))))))) hl hh rfl (by repeat (first | exact keeps_nil | apply keeps_cons (by repeat (first | exact find_head | apply find_tail | apply find_skip)) (by first  | rfl) | exact keeps_self | exact keeps_left | apply keeps_app | apply keeps_mv | apply keeps_skip)) ?_; exact ⟨rfl, GO.same (g' := { g with ys := orB g.ys (sh1 m.d) }) (ys_ok hg (orB_bd _ _)) hl9 (by rw [hf]; rfl) (by rw [hf]) rfl⟩)
                                  | (refine f_end0 (F' := (gb, C (GtV.c g) 127) :: (g.st.E ++ (g.qE ++ ((g.rb, MD (kInt .u32) g.rl g.rn) :: (g.oE ++ ((g.led, C (LdV.c l) 91) :: (l.d.E ++ Z))))))) hl hh rfl (by repeat (first | exact keeps_nil | apply keeps_cons (by repeat (first | exact find_head | apply find_tail | apply find_skip)) (by first  | rfl) | exact keeps_self | exact keeps_left | apply keeps_app | apply keeps_mv | apply keeps_skip)) ?_; exact ⟨rfl, GO.same hg hl9 (by rw [hf]) (by rw [hf]) rfl⟩)
                              · intro hg19; clear hl; intro hl
                                try simp only [decide_eq_true_eq, decide_eq_false_iff_not, Bool.not_eq_true', Bool.not_eq_false', Bool.not_eq_true, Bool.not_eq_false, Bool.and_eq_true, Bool.or_eq_true, Bool.and_eq_false_iff, Bool.or_eq_false_iff, Bool.not_not, ne_eq, Int.not_lt, Int.not_le, Decidable.not_not, beq_iff_eq, bne_iff_ne] at hg19
                                refine wl (wl_skip hl rfl ⟨_, _, rfl, rfl, rfl⟩ ?_)
                                clear hl a; intro a hl
                                refine wl (wl_skip hl rfl ⟨_, _, rfl, rfl, rfl⟩ ?_)
                                clear hl a; intro a hl
                                refine wl (wl_skip hl rfl ⟨_, _, rfl, rfl, rfl⟩ ?_)
                                clear hl a; intro a hl
                                refine wl (wl_val hl rfl trivial (r_pickF hl rfl rfl) ?_)
                                clear hl a; intro a hl
                                refine w_nil ?_
                                have hl2 := hl.add (t := 0) (hl.add (t := 5) (hl.add (t := 145) (hl.nil) rfl) rfl) rfl; clear hl; have hl := hl2; clear hl2
                                refine then_normal ?_
                                refine c_condF hl rfl ?_
                                have hf := dl_7n (l := l.pl) hhd hk7 (fun ⟨q1, q2⟩ => by have q1 : ¬ m.r = g.st.fid := q1; omega)
                                refine wp_skip ?_
                                refine blk_normal ?_
                                first
                                | (have hqq := hp2; refine f_end0 (F' := GF gb g' l' (Z ++ G9)) hl hh rfl (by first | exact keeps_self | exact keeps_left) ?_; exact ⟨rfl, g', l', G9, he9, hg', hl', hp1.trans (by rw [hf]; try rfl), hp2.trans (by rw [hf]; try rfl), rfl⟩)
                                | (have hqq := hc3; refine f_end0 (F' := (gb, C (GtV.c { g with ys := orB g.ys (sh1 m.d) }) 127) :: (g.st.E ++ (g.qE ++ ((g.rb, MD (kInt .u32) g.rl g.rn) :: (g.oE ++ ((g.led, C (LdV.c l) 91) :: (l.d.E ++ Z))))))) hl hh rfl (by repeat (first | exact keeps_nil | apply keeps_cons (by repeat (first | exact find_head | apply find_tail | apply find_skip)) (by first  | rfl) | exact keeps_self | exact keeps_left | apply keeps_app | apply keeps_mv | apply keeps_skip)) ?_; exact ⟨rfl, GO.same (g' := { g with ys := orB g.ys (sh1 m.d) }) (ys_ok hg (orB_bd _ _)) hl9 (by rw [hf]; rfl) (by rw [hf]) rfl⟩)
                                | (refine f_end0 (F' := (gb, C (GtV.c g) 127) :: (g.st.E ++ (g.qE ++ ((g.rb, MD (kInt .u32) g.rl g.rn) :: (g.oE ++ ((g.led, C (LdV.c l) 91) :: (l.d.E ++ Z))))))) hl hh rfl (by repeat (first | exact keeps_nil | apply keeps_cons (by repeat (first | exact find_head | apply find_tail | apply find_skip)) (by first  | rfl) | exact keeps_self | exact keeps_left | apply keeps_app | apply keeps_mv | apply keeps_skip)) ?_; exact ⟨rfl, GO.same hg hl9 (by rw [hf]) (by rw [hf]) rfl⟩)
                            · intro hc7
                              try simp only [decide_eq_true_eq, decide_eq_false_iff_not, Bool.not_eq_true', Bool.not_eq_false', Bool.not_eq_true, Bool.not_eq_false, Bool.and_eq_true, Bool.or_eq_true, Bool.and_eq_false_iff, Bool.or_eq_false_iff, Bool.not_not, ne_eq, Int.not_lt, Int.not_le, Decidable.not_not, beq_iff_eq, bne_iff_ne] at hc7
                              have hn4 : ¬ (m.k = 6 ∧ g.pl.st.ph = 3 ∧ g.pl.au = true) := fun ⟨q1, q2, q3⟩ => by have q2 : g.st.ph = 3 := q2; have q3 : g.au = true := q3; first | omega | (simp_all; done)
                              have hf := dl_x (l := l.pl) hhd hn1 hn2 hn3 hn4
                              refine wp_skip ?_
                              refine blk_normal ?_
                              first
                              | (have hqq := hp2; refine f_end0 (F' := GF gb g' l' (Z ++ G9)) hl hh rfl (by first | exact keeps_self | exact keeps_left) ?_; exact ⟨rfl, g', l', G9, he9, hg', hl', hp1.trans (by rw [hf]; try rfl), hp2.trans (by rw [hf]; try rfl), rfl⟩)
                              | (have hqq := hc3; refine f_end0 (F' := (gb, C (GtV.c { g with ys := orB g.ys (sh1 m.d) }) 127) :: (g.st.E ++ (g.qE ++ ((g.rb, MD (kInt .u32) g.rl g.rn) :: (g.oE ++ ((g.led, C (LdV.c l) 91) :: (l.d.E ++ Z))))))) hl hh rfl (by repeat (first | exact keeps_nil | apply keeps_cons (by repeat (first | exact find_head | apply find_tail | apply find_skip)) (by first  | rfl) | exact keeps_self | exact keeps_left | apply keeps_app | apply keeps_mv | apply keeps_skip)) ?_; exact ⟨rfl, GO.same (g' := { g with ys := orB g.ys (sh1 m.d) }) (ys_ok hg (orB_bd _ _)) hl9 (by rw [hf]; rfl) (by rw [hf]) rfl⟩)
                              | (refine f_end0 (F' := (gb, C (GtV.c g) 127) :: (g.st.E ++ (g.qE ++ ((g.rb, MD (kInt .u32) g.rl g.rn) :: (g.oE ++ ((g.led, C (LdV.c l) 91) :: (l.d.E ++ Z))))))) hl hh rfl (by repeat (first | exact keeps_nil | apply keeps_cons (by repeat (first | exact find_head | apply find_tail | apply find_skip)) (by first  | rfl) | exact keeps_self | exact keeps_left | apply keeps_app | apply keeps_mv | apply keeps_skip)) ?_; exact ⟨rfl, GO.same hg hl9 (by rw [hf]) (by rw [hf]) rfl⟩)
                          · intro hg18; clear hl; intro hl
                            try simp only [decide_eq_true_eq, decide_eq_false_iff_not, Bool.not_eq_true', Bool.not_eq_false', Bool.not_eq_true, Bool.not_eq_false, Bool.and_eq_true, Bool.or_eq_true, Bool.and_eq_false_iff, Bool.or_eq_false_iff, Bool.not_not, ne_eq, Int.not_lt, Int.not_le, Decidable.not_not, beq_iff_eq, bne_iff_ne] at hg18
                            refine wl (wl_skip hl rfl ⟨_, _, rfl, rfl, rfl⟩ ?_)
                            clear hl a; intro a hl
                            refine wl (wl_skip hl rfl ⟨_, _, rfl, rfl, rfl⟩ ?_)
                            clear hl a; intro a hl
                            refine wl (wl_skip hl rfl ⟨_, _, rfl, rfl, rfl⟩ ?_)
                            clear hl a; intro a hl
                            refine wl (wl_skip hl rfl ⟨_, _, rfl, rfl, rfl⟩ ?_)
                            clear hl a; intro a hl
                            refine wl (wl_val hl rfl trivial (r_pickF hl rfl rfl) ?_)
                            clear hl a; intro a hl
                            refine wl (wl_val hl rfl trivial (r_assign hl rfl) ?_)
                            clear hl a; intro a hl
                            refine w_nil ?_
                            have hl2 := hl.add (t := 0) (hl.add (t := 3) (hl.add (t := 4) (hl.add (t := 5) (hl.add (t := 121) (hl.nil) rfl) rfl) rfl) rfl) rfl; clear hl; have hl := hl2; clear hl2
                            refine then_normal ?_
                            refine c_condF hl rfl ?_
                            have hn4 : ¬ (m.k = 6 ∧ g.pl.st.ph = 3 ∧ g.pl.au = true) := fun ⟨q1, q2, q3⟩ => by have q2 : g.st.ph = 3 := q2; have q3 : g.au = true := q3; first | omega | (simp_all; done)
                            have hf := dl_x (l := l.pl) hhd hn1 hn2 hn3 hn4
                            refine wp_skip ?_
                            refine blk_normal ?_
                            first
                            | (have hqq := hp2; refine f_end0 (F' := GF gb g' l' (Z ++ G9)) hl hh rfl (by first | exact keeps_self | exact keeps_left) ?_; exact ⟨rfl, g', l', G9, he9, hg', hl', hp1.trans (by rw [hf]; try rfl), hp2.trans (by rw [hf]; try rfl), rfl⟩)
                            | (have hqq := hc3; refine f_end0 (F' := (gb, C (GtV.c { g with ys := orB g.ys (sh1 m.d) }) 127) :: (g.st.E ++ (g.qE ++ ((g.rb, MD (kInt .u32) g.rl g.rn) :: (g.oE ++ ((g.led, C (LdV.c l) 91) :: (l.d.E ++ Z))))))) hl hh rfl (by repeat (first | exact keeps_nil | apply keeps_cons (by repeat (first | exact find_head | apply find_tail | apply find_skip)) (by first  | rfl) | exact keeps_self | exact keeps_left | apply keeps_app | apply keeps_mv | apply keeps_skip)) ?_; exact ⟨rfl, GO.same (g' := { g with ys := orB g.ys (sh1 m.d) }) (ys_ok hg (orB_bd _ _)) hl9 (by rw [hf]; rfl) (by rw [hf]) rfl⟩)
                            | (refine f_end0 (F' := (gb, C (GtV.c g) 127) :: (g.st.E ++ (g.qE ++ ((g.rb, MD (kInt .u32) g.rl g.rn) :: (g.oE ++ ((g.led, C (LdV.c l) 91) :: (l.d.E ++ Z))))))) hl hh rfl (by repeat (first | exact keeps_nil | apply keeps_cons (by repeat (first | exact find_head | apply find_tail | apply find_skip)) (by first  | rfl) | exact keeps_self | exact keeps_left | apply keeps_app | apply keeps_mv | apply keeps_skip)) ?_; exact ⟨rfl, GO.same hg hl9 (by rw [hf]) (by rw [hf]) rfl⟩)
                        · intro hg17; clear hl; intro hl
                          try simp only [decide_eq_true_eq, decide_eq_false_iff_not, Bool.not_eq_true', Bool.not_eq_false', Bool.not_eq_true, Bool.not_eq_false, Bool.and_eq_true, Bool.or_eq_true, Bool.and_eq_false_iff, Bool.or_eq_false_iff, Bool.not_not, ne_eq, Int.not_lt, Int.not_le, Decidable.not_not, beq_iff_eq, bne_iff_ne] at hg17
                          refine wl (wl_skip hl rfl ⟨_, _, rfl, rfl, rfl⟩ ?_)
                          clear hl a; intro a hl
                          refine wl (wl_skip hl rfl ⟨_, _, rfl, rfl, rfl⟩ ?_)
                          clear hl a; intro a hl
                          refine wl (wl_skip hl rfl ⟨_, _, rfl, rfl, rfl⟩ ?_)
                          clear hl a; intro a hl
                          refine wl (wl_val hl rfl trivial (r_pickF hl rfl rfl) ?_)
                          clear hl a; intro a hl
                          refine wl (wl_val hl rfl trivial (r_move hl rfl) ?_)
                          clear hl a; intro a hl
                          refine wl (wl_skip hl rfl ⟨_, _, rfl, rfl, rfl⟩ ?_)
                          clear hl a; intro a hl
                          refine wl (wl_skip hl rfl ⟨_, _, rfl, rfl, rfl⟩ ?_)
                          clear hl a; intro a hl
                          refine wl (wl_skip hl rfl ⟨_, _, rfl, rfl, rfl⟩ ?_)
                          clear hl a; intro a hl
                          refine wl (wl_skip hl rfl ⟨_, _, rfl, rfl, rfl⟩ ?_)
                          clear hl a; intro a hl
                          refine wl (wl_val hl rfl trivial (r_pickF hl rfl rfl) ?_)
                          clear hl a; intro a hl
                          refine wl (wl_val hl rfl trivial (r_assign hl rfl) ?_)
                          clear hl a; intro a hl
                          refine w_nil ?_
                          have hl2 := hl.add (t := 0) (hl.add (t := 3) (hl.add (t := 4) (hl.add (t := 5) (hl.add (t := 121) (hl.nil) rfl) rfl) rfl) rfl) rfl; clear hl; have hl := hl2; clear hl2
                          refine then_normal ?_
                          refine c_condF hl rfl ?_
                          have hn4 : ¬ (m.k = 6 ∧ g.pl.st.ph = 3 ∧ g.pl.au = true) := fun ⟨q1, q2, q3⟩ => by have q2 : g.st.ph = 3 := q2; have q3 : g.au = true := q3; first | omega | (simp_all; done)
                          have hf := dl_x (l := l.pl) hhd hn1 hn2 hn3 hn4
                          refine wp_skip ?_
                          refine blk_normal ?_
                          first
                          | (have hqq := hp2; refine f_end0 (F' := GF gb g' l' (Z ++ G9)) hl hh rfl (by first | exact keeps_self | exact keeps_left) ?_; exact ⟨rfl, g', l', G9, he9, hg', hl', hp1.trans (by rw [hf]; try rfl), hp2.trans (by rw [hf]; try rfl), rfl⟩)
                          | (have hqq := hc3; refine f_end0 (F' := (gb, C (GtV.c { g with ys := orB g.ys (sh1 m.d) }) 127) :: (g.st.E ++ (g.qE ++ ((g.rb, MD (kInt .u32) g.rl g.rn) :: (g.oE ++ ((g.led, C (LdV.c l) 91) :: (l.d.E ++ Z))))))) hl hh rfl (by repeat (first | exact keeps_nil | apply keeps_cons (by repeat (first | exact find_head | apply find_tail | apply find_skip)) (by first  | rfl) | exact keeps_self | exact keeps_left | apply keeps_app | apply keeps_mv | apply keeps_skip)) ?_; exact ⟨rfl, GO.same (g' := { g with ys := orB g.ys (sh1 m.d) }) (ys_ok hg (orB_bd _ _)) hl9 (by rw [hf]; rfl) (by rw [hf]) rfl⟩)
                          | (refine f_end0 (F' := (gb, C (GtV.c g) 127) :: (g.st.E ++ (g.qE ++ ((g.rb, MD (kInt .u32) g.rl g.rn) :: (g.oE ++ ((g.led, C (LdV.c l) 91) :: (l.d.E ++ Z))))))) hl hh rfl (by repeat (first | exact keeps_nil | apply keeps_cons (by repeat (first | exact find_head | apply find_tail | apply find_skip)) (by first  | rfl) | exact keeps_self | exact keeps_left | apply keeps_app | apply keeps_mv | apply keeps_skip)) ?_; exact ⟨rfl, GO.same hg hl9 (by rw [hf]) (by rw [hf]) rfl⟩)
                  · intro hg7; clear hl; intro hl
                    try simp only [decide_eq_true_eq, decide_eq_false_iff_not, Bool.not_eq_true', Bool.not_eq_false', Bool.not_eq_true, Bool.not_eq_false, Bool.and_eq_true, Bool.or_eq_true, Bool.and_eq_false_iff, Bool.or_eq_false_iff, Bool.not_not, ne_eq, Int.not_lt, Int.not_le, Decidable.not_not, beq_iff_eq, bne_iff_ne] at hg7
                    refine wl (wl_skip hl rfl ⟨_, _, rfl, rfl, rfl⟩ ?_)
                    clear hl a; intro a hl
                    refine wl (wl_skip hl rfl ⟨_, _, rfl, rfl, rfl⟩ ?_)
                    clear hl a; intro a hl
                    refine wl (wl_skip hl rfl ⟨_, _, rfl, rfl, rfl⟩ ?_)
                    clear hl a; intro a hl
                    refine wl (wl_skip hl rfl ⟨_, _, rfl, rfl, rfl⟩ ?_)
                    clear hl a; intro a hl
                    refine wl (wl_skip hl rfl ⟨_, _, rfl, rfl, rfl⟩ ?_)
                    clear hl a; intro a hl
                    refine wl (wl_val hl rfl trivial (r_pickF hl rfl rfl) ?_)
                    clear hl a; intro a hl
                    refine wl (wl_val hl rfl trivial (r_assign hl rfl) ?_)
                    clear hl a; intro a hl
                    refine w_nil ?_
                    have hl2 := hl.add (t := 0) (hl.add (t := 3) (hl.add (t := 4) (hl.add (t := 5) (hl.add (t := 74) (hl.nil) rfl) rfl) rfl) rfl) rfl; clear hl; have hl := hl2; clear hl2
                    refine then_normal ?_
                    refine c_condF hl rfl ?_
                    have hn2 : ¬ (m.k = 5 ∧ ¬ g.pl.st.ph = 1 ∧ g.pl.au = false) := fun ⟨q1, q2, q3⟩ => by have q2 : ¬ g.st.ph = 1 := q2; have q3 : g.au = false := q3; first | omega | (simp_all; done)
                    refine c_seq ?_
                    refine c_region ?_
                    refine wl (wl_val hl rfl trivial (r_field hl rfl fld38_0) ?_)
                    clear hl a; intro a hl
                    refine wl (w_load hl hh rfl trivial one35 rfl (by repeat (first | exact find_head | apply find_tail | apply find_skip)) (by first | exact gtc_led _ | exact gtc_ep _ | exact gtc_vs _ | exact gtc_is _ | exact gtc_fid _ | exact gtc_ph _ | exact gtc_vd _ | exact gtc_q _ | exact gtc_rf _ | exact gtc_ys _ | exact gtc_dn _ | exact gtc_tk _ | exact gtc_au _ | exact gtc_o _ | exact gtc_off _ | rfl) ?_)
                    clear hl a; intro a hl
                    refine wl (wl_val hl rfl trivial (r_eql hl rfl rfl) ?_)
                    clear hl a; intro a hl
                    refine wl (wl_val hl rfl trivial (r_move hl rfl) ?_)
                    clear hl a; intro a hl
                    refine sl_split (t := 97) hl rfl ?_ ?_
                    · intro hg20; clear hl; intro hl
                      try simp only [decide_eq_true_eq, decide_eq_false_iff_not, Bool.not_eq_true', Bool.not_eq_false', Bool.not_eq_true, Bool.not_eq_false, Bool.and_eq_true, Bool.or_eq_true, Bool.and_eq_false_iff, Bool.or_eq_false_iff, Bool.not_not, ne_eq, Int.not_lt, Int.not_le, Decidable.not_not, beq_iff_eq, bne_iff_ne] at hg20
                      refine wl (wl_val hl rfl ⟨_, _, rfl, rfl, rfl⟩ (r_field hl rfl fld87_1) ?_)
                      clear hl a; intro a hl
                      refine wl (w_load hl hh rfl ⟨_, _, rfl, rfl, rfl⟩ one76 rfl (by repeat (first | exact find_head | apply find_tail | apply find_skip)) (by first | exact gtc_led _ | exact gtc_ep _ | exact gtc_vs _ | exact gtc_is _ | exact gtc_fid _ | exact gtc_ph _ | exact gtc_vd _ | exact gtc_q _ | exact gtc_rf _ | exact gtc_ys _ | exact gtc_dn _ | exact gtc_tk _ | exact gtc_au _ | exact gtc_o _ | exact gtc_off _ | rfl) ?_)
                      clear hl a; intro a hl
                      refine wl (wl_val hl rfl ⟨_, _, rfl, rfl, rfl⟩ (r_eql hl rfl rfl) ?_)
                      clear hl a; intro a hl
                      refine wl (wl_val hl rfl trivial (r_pickT hl rfl rfl) ?_)
                      clear hl a; intro a hl
                      refine wl (wl_val hl rfl trivial (r_move hl rfl) ?_)
                      clear hl a; intro a hl
                      refine sl_split (t := 102) hl rfl ?_ ?_
                      · intro hg21; clear hl; intro hl
                        try simp only [decide_eq_true_eq, decide_eq_false_iff_not, Bool.not_eq_true', Bool.not_eq_false', Bool.not_eq_true, Bool.not_eq_false, Bool.and_eq_true, Bool.or_eq_true, Bool.and_eq_false_iff, Bool.or_eq_false_iff, Bool.not_not, ne_eq, Int.not_lt, Int.not_le, Decidable.not_not, beq_iff_eq, bne_iff_ne] at hg21
                        refine wl (wl_val hl rfl ⟨_, _, rfl, rfl, rfl⟩ (r_move hl rfl) ?_)
                        clear hl a; intro a hl
                        refine wl (wl_val hl rfl ⟨_, _, rfl, rfl, rfl⟩ (r_nilCheck hl rfl) ?_)
                        clear hl a; intro a hl
                        refine wl (wl_val hl rfl ⟨_, _, rfl, rfl, rfl⟩ (r_field hl rfl fld127_8) ?_)
                        clear hl a; intro a hl
                        refine wl (w_load hl hh rfl ⟨_, _, rfl, rfl, rfl⟩ one4 rfl (by repeat (first | exact find_head | apply find_tail | apply find_skip)) (by first | exact gtc_led _ | exact gtc_ep _ | exact gtc_vs _ | exact gtc_is _ | exact gtc_fid _ | exact gtc_ph _ | exact gtc_vd _ | exact gtc_q _ | exact gtc_rf _ | exact gtc_ys _ | exact gtc_dn _ | exact gtc_tk _ | exact gtc_au _ | exact gtc_o _ | exact gtc_off _ | rfl) ?_)
                        clear hl a; intro a hl
                        refine wl (wl_val hl rfl trivial (r_pickT hl rfl rfl) ?_)
                        clear hl a; intro a hl
                        refine wl (wl_val hl rfl trivial (r_assign hl rfl) ?_)
                        clear hl a; intro a hl
                        refine w_nil ?_
                        have hl2 := hl.add (t := 0) (hl.add (t := 3) (hl.add (t := 4) (hl.add (t := 5) (hl.add (t := 93) (hl.nil) rfl) rfl) rfl) rfl) rfl; clear hl; have hl := hl2; clear hl2
                        refine then_normal ?_
                        refine c_cond hl rfl ?_ ?_
                        · intro hc5
                          try simp only [decide_eq_true_eq, decide_eq_false_iff_not, Bool.not_eq_true', Bool.not_eq_false', Bool.not_eq_true, Bool.not_eq_false, Bool.and_eq_true, Bool.or_eq_true, Bool.and_eq_false_iff, Bool.or_eq_false_iff, Bool.not_not, ne_eq, Int.not_lt, Int.not_le, Decidable.not_not, beq_iff_eq, bne_iff_ne] at hc5
                          have hk6 : m.k = 6 ∧ g.pl.st.ph = 2 ∧ g.pl.au = true := ⟨by omega, (show g.st.ph = 2 by omega), (show g.au = true by first | assumption | (simp_all; done))⟩
                          refine c_seq ?_
                          refine c_region ?_
                          refine wl (wl_val hl rfl trivial (r_field hl rfl fld38_5) ?_)
                          clear hl a; intro a hl
                          refine wl (w_load hl hh rfl trivial one36 rfl (by repeat (first | exact find_head | apply find_tail | apply find_skip)) (by first | exact gtc_led _ | exact gtc_ep _ | exact gtc_vs _ | exact gtc_is _ | exact gtc_fid _ | exact gtc_ph _ | exact gtc_vd _ | exact gtc_q _ | exact gtc_rf _ | exact gtc_ys _ | exact gtc_dn _ | exact gtc_tk _ | exact gtc_au _ | exact gtc_o _ | exact gtc_off _ | rfl) ?_)
                          clear hl a; intro a hl
                          refine wl (wl_val hl rfl trivial (r_field hl rfl fld87_0) ?_)
                          clear hl a; intro a hl
                          refine wl (w_load hl hh rfl trivial one36 rfl (by repeat (first | exact find_head | apply find_tail | apply find_skip)) (by first | exact gtc_led _ | exact gtc_ep _ | exact gtc_vs _ | exact gtc_is _ | exact gtc_fid _ | exact gtc_ph _ | exact gtc_vd _ | exact gtc_q _ | exact gtc_rf _ | exact gtc_ys _ | exact gtc_dn _ | exact gtc_tk _ | exact gtc_au _ | exact gtc_o _ | exact gtc_off _ | rfl) ?_)
                          clear hl a; intro a hl
                          refine wl (wl_val hl rfl trivial (r_eql hl rfl rfl) ?_)
                          clear hl a; intro a hl
                          refine wl (wl_val hl rfl trivial (r_move hl rfl) ?_)
                          clear hl a; intro a hl
                          refine sl_split (t := 113) hl rfl ?_ ?_
                          · intro hg22; clear hl; intro hl
                            try simp only [decide_eq_true_eq, decide_eq_false_iff_not, Bool.not_eq_true', Bool.not_eq_false', Bool.not_eq_true, Bool.not_eq_false, Bool.and_eq_true, Bool.or_eq_true, Bool.and_eq_false_iff, Bool.or_eq_false_iff, Bool.not_not, ne_eq, Int.not_lt, Int.not_le, Decidable.not_not, beq_iff_eq, bne_iff_ne] at hg22
                            refine wl (wl_val hl rfl ⟨_, _, rfl, rfl, rfl⟩ (r_field hl rfl fld38_6) ?_)
                            clear hl a; intro a hl
                            refine wl (w_load hl hh rfl ⟨_, _, rfl, rfl, rfl⟩ one36 rfl (by repeat (first | exact find_head | apply find_tail | apply find_skip)) (by first | exact gtc_led _ | exact gtc_ep _ | exact gtc_vs _ | exact gtc_is _ | exact gtc_fid _ | exact gtc_ph _ | exact gtc_vd _ | exact gtc_q _ | exact gtc_rf _ | exact gtc_ys _ | exact gtc_dn _ | exact gtc_tk _ | exact gtc_au _ | exact gtc_o _ | exact gtc_off _ | rfl) ?_)
                            clear hl a; intro a hl
                            refine wl (wl_val hl rfl ⟨_, _, rfl, rfl, rfl⟩ (r_eql hl rfl rfl) ?_)
                            clear hl a; intro a hl
                            refine wl (wl_val hl rfl trivial (r_pickT hl rfl rfl) ?_)
                            clear hl a; intro a hl
                            refine w_nil ?_
                            have hl2 := hl.add (t := 0) (hl.add (t := 5) (hl.add (t := 117) (hl.nil) rfl) rfl) rfl; clear hl; have hl := hl2; clear hl2
                            refine then_normal ?_
                            refine c_cond hl rfl ?_ ?_
                            · intro hc6
                              try simp only [decide_eq_true_eq, decide_eq_false_iff_not, Bool.not_eq_true', Bool.not_eq_false', Bool.not_eq_true, Bool.not_eq_false, Bool.and_eq_true, Bool.or_eq_true, Bool.and_eq_false_iff, Bool.or_eq_false_iff, Bool.not_not, ne_eq, Int.not_lt, Int.not_le, Decidable.not_not, beq_iff_eq, bne_iff_ne] at hc6
                              have hf := dl_6y (l := l.pl) hhd hk6 ⟨(show m.r = g.st.fid by omega), by omega⟩
                              refine c_region ?_
                              refine wl (wl_val hl rfl trivial (r_move hl rfl) ?_)
                              clear hl a; intro a hl
                              refine wl (wl_val hl rfl trivial (r_move hl rfl) ?_)
                              clear hl a; intro a hl
                              refine wl (w_call hl hh rfl trivial rfl cal52 rfl (confirm_spec Z gb g l hg hl9 (sh1 m.d) hvl) (by repeat (first | exact keeps_nil | apply keeps_cons (by repeat (first | exact find_head | apply find_tail | apply find_skip)) (by first  | rfl) | exact keeps_self | exact keeps_left | apply keeps_app | apply keeps_mv | apply keeps_skip)) trivial ?_)
                              clear hl hh a w; intro vc Fc a w hR hl hh
                              obtain ⟨rfl, g', l', G9, he9, hg', hl', hp1, hp2, rfl⟩ := hR
                              try simp only [List.cons_append, List.nil_append, List.append_assoc, List.append_nil] at hh
                              refine w_nil ?_
                              have hl2 := hl.nil; clear hl; have hl := hl2; clear hl2
                              refine blk_normal ?_
                              first
                              | (have hqq := hp2; refine f_end0 (F' := GF gb g' l' (Z ++ G9)) hl hh rfl (by first | exact keeps_self | exact keeps_left) ?_; exact ⟨rfl, g', l', G9, he9, hg', hl', hp1.trans (by rw [hf]; try rfl), hp2.trans (by rw [hf]; try rfl), rfl⟩)
                              | (have hqq := hc3; refine f_end0 (F' := (gb, C (GtV.c { g with ys := orB g.ys (sh1 m.d) }) 127) :: (g.st.E ++ (g.qE ++ ((g.rb, MD (kInt .u32) g.rl g.rn) :: (g.oE ++ ((g.led, C (LdV.c l) 91) :: (l.d.E ++ Z))))))) hl hh rfl (by repeat (first | exact keeps_nil | apply keeps_cons (by repeat (first | exact find_head | apply find_tail | apply find_skip)) (by first  | rfl) | exact keeps_self | exact keeps_left | apply keeps_app | apply keeps_mv | apply keeps_skip)) ?_; exact ⟨rfl, GO.same (g' := { g with ys := orB g.ys (sh1 m.d) }) (ys_ok hg (orB_bd _ _)) hl9 (by rw [hf]; rfl) (by rw [hf]) rfl⟩)
                              | (refine f_end0 (F' := (gb, C (GtV.c g) 127) :: (g.st.E ++ (g.qE ++ ((g.rb, MD (kInt .u32) g.rl g.rn) :: (g.oE ++ ((g.led, C (LdV.c l) 91) :: (l.d.E ++ Z))))))) hl hh rfl (by repeat (first | exact keeps_nil | apply keeps_cons (by repeat (first | exact find_head | apply find_tail | apply find_skip)) (by first  | rfl) | exact keeps_self | exact keeps_left | apply keeps_app | apply keeps_mv | apply keeps_skip)) ?_; exact ⟨rfl, GO.same hg hl9 (by rw [hf]) (by rw [hf]) rfl⟩)
                            · intro hc6
                              try simp only [decide_eq_true_eq, decide_eq_false_iff_not, Bool.not_eq_true', Bool.not_eq_false', Bool.not_eq_true, Bool.not_eq_false, Bool.and_eq_true, Bool.or_eq_true, Bool.and_eq_false_iff, Bool.or_eq_false_iff, Bool.not_not, ne_eq, Int.not_lt, Int.not_le, Decidable.not_not, beq_iff_eq, bne_iff_ne] at hc6
                              have hf := dl_6n (l := l.pl) hhd hk6 (fun ⟨q1, q2⟩ => by have q1 : m.r = g.st.fid := q1; omega)
                              refine wp_skip ?_
                              refine blk_normal ?_
                              first
                              | (have hqq := hp2; refine f_end0 (F' := GF gb g' l' (Z ++ G9)) hl hh rfl (by first | exact keeps_self | exact keeps_left) ?_; exact ⟨rfl, g', l', G9, he9, hg', hl', hp1.trans (by rw [hf]; try rfl), hp2.trans (by rw [hf]; try rfl), rfl⟩)
                              | (have hqq := hc3; refine f_end0 (F' := (gb, C (GtV.c { g with ys := orB g.ys (sh1 m.d) }) 127) :: (g.st.E ++ (g.qE ++ ((g.rb, MD (kInt .u32) g.rl g.rn) :: (g.oE ++ ((g.led, C (LdV.c l) 91) :: (l.d.E ++ Z))))))) hl hh rfl (by repeat (first | exact keeps_nil | apply keeps_cons (by repeat (first | exact find_head | apply find_tail | apply find_skip)) (by first  | rfl) | exact keeps_self | exact keeps_left | apply keeps_app | apply keeps_mv | apply keeps_skip)) ?_; exact ⟨rfl, GO.same (g' := { g with ys := orB g.ys (sh1 m.d) }) (ys_ok hg (orB_bd _ _)) hl9 (by rw [hf]; rfl) (by rw [hf]) rfl⟩)
                              | (refine f_end0 (F' := (gb, C (GtV.c g) 127) :: (g.st.E ++ (g.qE ++ ((g.rb, MD (kInt .u32) g.rl g.rn) :: (g.oE ++ ((g.led, C (LdV.c l) 91) :: (l.d.E ++ Z))))))) hl hh rfl (by repeat (first | exact keeps_nil | apply keeps_cons (by repeat (first | exact find_head | apply find_tail | apply find_skip)) (by first  | rfl) | exact keeps_self | exact keeps_left | apply keeps_app | apply keeps_mv | apply keeps_skip)) ?_; exact ⟨rfl, GO.same hg hl9 (by rw [hf]) (by rw [hf]) rfl⟩)
                          · intro hg22; clear hl; intro hl
                            try simp only [decide_eq_true_eq, decide_eq_false_iff_not, Bool.not_eq_true', Bool.not_eq_false', Bool.not_eq_true, Bool.not_eq_false, Bool.and_eq_true, Bool.or_eq_true, Bool.and_eq_false_iff, Bool.or_eq_false_iff, Bool.not_not, ne_eq, Int.not_lt, Int.not_le, Decidable.not_not, beq_iff_eq, bne_iff_ne] at hg22
                            refine wl (wl_skip hl rfl ⟨_, _, rfl, rfl, rfl⟩ ?_)
                            clear hl a; intro a hl
                            refine wl (wl_skip hl rfl ⟨_, _, rfl, rfl, rfl⟩ ?_)
                            clear hl a; intro a hl
                            refine wl (wl_skip hl rfl ⟨_, _, rfl, rfl, rfl⟩ ?_)
                            clear hl a; intro a hl
                            refine wl (wl_val hl rfl trivial (r_pickF hl rfl rfl) ?_)
                            clear hl a; intro a hl
                            refine w_nil ?_
                            have hl2 := hl.add (t := 0) (hl.add (t := 5) (hl.add (t := 117) (hl.nil) rfl) rfl) rfl; clear hl; have hl := hl2; clear hl2
                            refine then_normal ?_
                            refine c_condF hl rfl ?_
                            have hf := dl_6n (l := l.pl) hhd hk6 (fun ⟨q1, q2⟩ => by have q1 : m.r = g.st.fid := q1; omega)
                            refine wp_skip ?_
                            refine blk_normal ?_
                            first
                            | (have hqq := hp2; refine f_end0 (F' := GF gb g' l' (Z ++ G9)) hl hh rfl (by first | exact keeps_self | exact keeps_left) ?_; exact ⟨rfl, g', l', G9, he9, hg', hl', hp1.trans (by rw [hf]; try rfl), hp2.trans (by rw [hf]; try rfl), rfl⟩)
                            | (have hqq := hc3; refine f_end0 (F' := (gb, C (GtV.c { g with ys := orB g.ys (sh1 m.d) }) 127) :: (g.st.E ++ (g.qE ++ ((g.rb, MD (kInt .u32) g.rl g.rn) :: (g.oE ++ ((g.led, C (LdV.c l) 91) :: (l.d.E ++ Z))))))) hl hh rfl (by repeat (first | exact keeps_nil | apply keeps_cons (by repeat (first | exact find_head | apply find_tail | apply find_skip)) (by first  | rfl) | exact keeps_self | exact keeps_left | apply keeps_app | apply keeps_mv | apply keeps_skip)) ?_; exact ⟨rfl, GO.same (g' := { g with ys := orB g.ys (sh1 m.d) }) (ys_ok hg (orB_bd _ _)) hl9 (by rw [hf]; rfl) (by rw [hf]) rfl⟩)
                            | (refine f_end0 (F' := (gb, C (GtV.c g) 127) :: (g.st.E ++ (g.qE ++ ((g.rb, MD (kInt .u32) g.rl g.rn) :: (g.oE ++ ((g.led, C (LdV.c l) 91) :: (l.d.E ++ Z))))))) hl hh rfl (by repeat (first | exact keeps_nil | apply keeps_cons (by repeat (first | exact find_head | apply find_tail | apply find_skip)) (by first  | rfl) | exact keeps_self | exact keeps_left | apply keeps_app | apply keeps_mv | apply keeps_skip)) ?_; exact ⟨rfl, GO.same hg hl9 (by rw [hf]) (by rw [hf]) rfl⟩)
                        · intro hc5
                          try simp only [decide_eq_true_eq, decide_eq_false_iff_not, Bool.not_eq_true', Bool.not_eq_false', Bool.not_eq_true, Bool.not_eq_false, Bool.and_eq_true, Bool.or_eq_true, Bool.and_eq_false_iff, Bool.or_eq_false_iff, Bool.not_not, ne_eq, Int.not_lt, Int.not_le, Decidable.not_not, beq_iff_eq, bne_iff_ne] at hc5
                          have hn3 : ¬ (m.k = 6 ∧ g.pl.st.ph = 2 ∧ g.pl.au = true) := fun ⟨q1, q2, q3⟩ => by have q2 : g.st.ph = 2 := q2; have q3 : g.au = true := q3; first | omega | (simp_all; done)
                          refine c_seq ?_
                          refine c_region ?_
                          refine wl (wl_val hl rfl trivial (r_field hl rfl fld38_0) ?_)
                          clear hl a; intro a hl
                          refine wl (w_load hl hh rfl trivial one35 rfl (by repeat (first | exact find_head | apply find_tail | apply find_skip)) (by first | exact gtc_led _ | exact gtc_ep _ | exact gtc_vs _ | exact gtc_is _ | exact gtc_fid _ | exact gtc_ph _ | exact gtc_vd _ | exact gtc_q _ | exact gtc_rf _ | exact gtc_ys _ | exact gtc_dn _ | exact gtc_tk _ | exact gtc_au _ | exact gtc_o _ | exact gtc_off _ | rfl) ?_)
                          clear hl a; intro a hl
                          refine wl (wl_val hl rfl trivial (r_eql hl rfl rfl) ?_)
                          clear hl a; intro a hl
                          refine wl (wl_val hl rfl trivial (r_move hl rfl) ?_)
                          clear hl a; intro a hl
                          refine sl_split (t := 125) hl rfl ?_ ?_
                          · intro hg23; clear hl; intro hl
                            try simp only [decide_eq_true_eq, decide_eq_false_iff_not, Bool.not_eq_true', Bool.not_eq_false', Bool.not_eq_true, Bool.not_eq_false, Bool.and_eq_true, Bool.or_eq_true, Bool.and_eq_false_iff, Bool.or_eq_false_iff, Bool.not_not, ne_eq, Int.not_lt, Int.not_le, Decidable.not_not, beq_iff_eq, bne_iff_ne] at hg23
                            refine wl (wl_val hl rfl ⟨_, _, rfl, rfl, rfl⟩ (r_field hl rfl fld87_1) ?_)
                            clear hl a; intro a hl
                            refine wl (w_load hl hh rfl ⟨_, _, rfl, rfl, rfl⟩ one76 rfl (by repeat (first | exact find_head | apply find_tail | apply find_skip)) (by first | exact gtc_led _ | exact gtc_ep _ | exact gtc_vs _ | exact gtc_is _ | exact gtc_fid _ | exact gtc_ph _ | exact gtc_vd _ | exact gtc_q _ | exact gtc_rf _ | exact gtc_ys _ | exact gtc_dn _ | exact gtc_tk _ | exact gtc_au _ | exact gtc_o _ | exact gtc_off _ | rfl) ?_)
                            clear hl a; intro a hl
                            refine wl (wl_val hl rfl ⟨_, _, rfl, rfl, rfl⟩ (r_eql hl rfl rfl) ?_)
                            clear hl a; intro a hl
                            refine wl (wl_val hl rfl trivial (r_pickT hl rfl rfl) ?_)
                            clear hl a; intro a hl
                            refine wl (wl_val hl rfl trivial (r_move hl rfl) ?_)
                            clear hl a; intro a hl
                            refine sl_split (t := 130) hl rfl ?_ ?_
                            · intro hg24; clear hl; intro hl
                              try simp only [decide_eq_true_eq, decide_eq_false_iff_not, Bool.not_eq_true', Bool.not_eq_false', Bool.not_eq_true, Bool.not_eq_false, Bool.and_eq_true, Bool.or_eq_true, Bool.and_eq_false_iff, Bool.or_eq_false_iff, Bool.not_not, ne_eq, Int.not_lt, Int.not_le, Decidable.not_not, beq_iff_eq, bne_iff_ne] at hg24
                              refine wl (wl_val hl rfl ⟨_, _, rfl, rfl, rfl⟩ (r_move hl rfl) ?_)
                              clear hl a; intro a hl
                              refine wl (wl_val hl rfl ⟨_, _, rfl, rfl, rfl⟩ (r_nilCheck hl rfl) ?_)
                              clear hl a; intro a hl
                              refine wl (wl_val hl rfl ⟨_, _, rfl, rfl, rfl⟩ (r_field hl rfl fld127_8) ?_)
                              clear hl a; intro a hl
                              refine wl (w_load hl hh rfl ⟨_, _, rfl, rfl, rfl⟩ one4 rfl (by repeat (first | exact find_head | apply find_tail | apply find_skip)) (by first | exact gtc_led _ | exact gtc_ep _ | exact gtc_vs _ | exact gtc_is _ | exact gtc_fid _ | exact gtc_ph _ | exact gtc_vd _ | exact gtc_q _ | exact gtc_rf _ | exact gtc_ys _ | exact gtc_dn _ | exact gtc_tk _ | exact gtc_au _ | exact gtc_o _ | exact gtc_off _ | rfl) ?_)
                              clear hl a; intro a hl
                              refine wl (wl_val hl rfl trivial (r_pickT hl rfl rfl) ?_)
                              clear hl a; intro a hl
                              refine wl (wl_val hl rfl trivial (r_assign hl rfl) ?_)
                              clear hl a; intro a hl
                              refine w_nil ?_
                              have hl2 := hl.add (t := 0) (hl.add (t := 3) (hl.add (t := 4) (hl.add (t := 5) (hl.add (t := 121) (hl.nil) rfl) rfl) rfl) rfl) rfl; clear hl; have hl := hl2; clear hl2
                              refine then_normal ?_
                              refine c_cond hl rfl ?_ ?_
                              · intro hc7
                                try simp only [decide_eq_true_eq, decide_eq_false_iff_not, Bool.not_eq_true', Bool.not_eq_false', Bool.not_eq_true, Bool.not_eq_false, Bool.and_eq_true, Bool.or_eq_true, Bool.and_eq_false_iff, Bool.or_eq_false_iff, Bool.not_not, ne_eq, Int.not_lt, Int.not_le, Decidable.not_not, beq_iff_eq, bne_iff_ne] at hc7
                                have hk7 : m.k = 6 ∧ g.pl.st.ph = 3 ∧ g.pl.au = true := ⟨by omega, (show g.st.ph = 3 by omega), (show g.au = true by first | assumption | (simp_all; done))⟩
                                refine c_seq ?_
                                refine c_region ?_
                                refine wl (wl_val hl rfl trivial (r_field hl rfl fld38_5) ?_)
                                clear hl a; intro a hl
                                refine wl (w_load hl hh rfl trivial one36 rfl (by repeat (first | exact find_head | apply find_tail | apply find_skip)) (by first | exact gtc_led _ | exact gtc_ep _ | exact gtc_vs _ | exact gtc_is _ | exact gtc_fid _ | exact gtc_ph _ | exact gtc_vd _ | exact gtc_q _ | exact gtc_rf _ | exact gtc_ys _ | exact gtc_dn _ | exact gtc_tk _ | exact gtc_au _ | exact gtc_o _ | exact gtc_off _ | rfl) ?_)
                                clear hl a; intro a hl
                                refine wl (wl_val hl rfl trivial (r_field hl rfl fld87_0) ?_)
                                clear hl a; intro a hl
                                refine wl (w_load hl hh rfl trivial one36 rfl (by repeat (first | exact find_head | apply find_tail | apply find_skip)) (by first | exact gtc_led _ | exact gtc_ep _ | exact gtc_vs _ | exact gtc_is _ | exact gtc_fid _ | exact gtc_ph _ | exact gtc_vd _ | exact gtc_q _ | exact gtc_rf _ | exact gtc_ys _ | exact gtc_dn _ | exact gtc_tk _ | exact gtc_au _ | exact gtc_o _ | exact gtc_off _ | rfl) ?_)
                                clear hl a; intro a hl
                                refine wl (wl_val hl rfl trivial (r_neq hl rfl rfl) ?_)
                                clear hl a; intro a hl
                                refine wl (wl_val hl rfl trivial (r_move hl rfl) ?_)
                                clear hl a; intro a hl
                                refine sl_split (t := 141) hl rfl ?_ ?_
                                · intro hg25; clear hl; intro hl
                                  try simp only [decide_eq_true_eq, decide_eq_false_iff_not, Bool.not_eq_true', Bool.not_eq_false', Bool.not_eq_true, Bool.not_eq_false, Bool.and_eq_true, Bool.or_eq_true, Bool.and_eq_false_iff, Bool.or_eq_false_iff, Bool.not_not, ne_eq, Int.not_lt, Int.not_le, Decidable.not_not, beq_iff_eq, bne_iff_ne] at hg25
                                  refine wl (wl_val hl rfl ⟨_, _, rfl, rfl, rfl⟩ (r_field hl rfl fld38_6) ?_)
                                  clear hl a; intro a hl
                                  refine wl (w_load hl hh rfl ⟨_, _, rfl, rfl, rfl⟩ one36 rfl (by repeat (first | exact find_head | apply find_tail | apply find_skip)) (by first | exact gtc_led _ | exact gtc_ep _ | exact gtc_vs _ | exact gtc_is _ | exact gtc_fid _ | exact gtc_ph _ | exact gtc_vd _ | exact gtc_q _ | exact gtc_rf _ | exact gtc_ys _ | exact gtc_dn _ | exact gtc_tk _ | exact gtc_au _ | exact gtc_o _ | exact gtc_off _ | rfl) ?_)
                                  clear hl a; intro a hl
                                  refine wl (wl_val hl rfl ⟨_, _, rfl, rfl, rfl⟩ (r_eql hl rfl rfl) ?_)
                                  clear hl a; intro a hl
                                  refine wl (wl_val hl rfl trivial (r_pickT hl rfl rfl) ?_)
                                  clear hl a; intro a hl
                                  refine w_nil ?_
                                  have hl2 := hl.add (t := 0) (hl.add (t := 5) (hl.add (t := 145) (hl.nil) rfl) rfl) rfl; clear hl; have hl := hl2; clear hl2
                                  refine then_normal ?_
                                  refine c_cond hl rfl ?_ ?_
                                  · intro hc8
                                    try simp only [decide_eq_true_eq, decide_eq_false_iff_not, Bool.not_eq_true', Bool.not_eq_false', Bool.not_eq_true, Bool.not_eq_false, Bool.and_eq_true, Bool.or_eq_true, Bool.and_eq_false_iff, Bool.or_eq_false_iff, Bool.not_not, ne_eq, Int.not_lt, Int.not_le, Decidable.not_not, beq_iff_eq, bne_iff_ne] at hc8
                                    have hf := dl_7y (l := l.pl) hhd hk7 ⟨(show ¬ m.r = g.st.fid by omega), by omega⟩
                                    refine c_region ?_
                                    refine wl (wl_val hl rfl trivial (r_move hl rfl) ?_)
                                    clear hl a; intro a hl
                                    refine wl (wl_val hl rfl trivial (r_move hl rfl) ?_)
                                    clear hl a; intro a hl
                                    refine wl (w_call hl hh rfl trivial rfl cal52 rfl (confirm_spec Z gb g l hg hl9 (sh1 m.d) hvl) (by repeat (first | exact keeps_nil | apply keeps_cons (by repeat (first | exact find_head | apply find_tail | apply find_skip)) (by first  | rfl) | exact keeps_self | exact keeps_left | apply keeps_app | apply keeps_mv | apply keeps_skip)) trivial ?_)
                                    clear hl hh a w; intro vc Fc a w hR hl hh
                                    obtain ⟨rfl, g', l', G9, he9, hg', hl', hp1, hp2, rfl⟩ := hR
                                    try simp only [List.cons_append, List.nil_append, List.append_assoc, List.append_nil] at hh
                                    refine w_nil ?_
                                    have hl2 := hl.nil; clear hl; have hl := hl2; clear hl2
                                    refine blk_normal ?_
                                    first
                                    | (have hqq := hp2; refine f_end0 (F' := GF gb g' l' (Z ++ G9)) hl hh rfl (by first | exact keeps_self | exact keeps_left) ?_; exact ⟨rfl, g', l', G9, he9, hg', hl', hp1.trans (by rw [hf]; try rfl), hp2.trans (by rw [hf]; try rfl), rfl⟩)
                                    | (have hqq := hc3; refine f_end0 (F' := (gb, C (GtV.c { g with ys := orB g.ys (sh1 m.d) }) 127) :: (g.st.E ++ (g.qE ++ ((g.rb, MD (kInt .u32) g.rl g.rn) :: (g.oE ++ ((g.led, C (LdV.c l) 91) :: (l.d.E ++ Z))))))) hl hh rfl (by repeat (first | exact keeps_nil | apply keeps_cons (by repeat (first | exact find_head | apply find_tail | apply find_skip)) (by first  | rfl) | exact keeps_self | exact keeps_left | apply keeps_app | apply keeps_mv | apply keeps_skip)) ?_; exact ⟨rfl, GO.same (g' := { g with ys := orB g.ys (sh1 m.d) }) (ys_ok hg (orB_bd _ _)) hl9 (by rw [hf]; rfl) (by rw [hf]) rfl⟩)
                                    | (refine f_end0 (F' := (gb, C (GtV.c g) 127) :: (g.st.E ++ (g.qE ++ ((g.rb, MD (kInt .u32) g.rl g.rn) :: (g.oE ++ ((g.led, C (LdV.c l) 91) :: (l.d.E ++ Z))))))) hl hh rfl (by repeat (first | exact keeps_nil | apply keeps_cons (by repeat (first | exact find_head | apply find_tail | apply find_skip)) (by first  | rfl) | exact keeps_self | exact keeps_left | apply keeps_app | apply keeps_mv | apply keeps_skip)) ?_; exact ⟨rfl, GO.same hg hl9 (by rw [hf]) (by rw [hf]) rfl⟩)
                                  · intro hc8
                                    try simp only [decide_eq_true_eq, decide_eq_false_iff_not, Bool.not_eq_true', Bool.not_eq_false', Bool.not_eq_true, Bool.not_eq_false, Bool.and_eq_true, Bool.or_eq_true, Bool.and_eq_false_iff, Bool.or_eq_false_iff, Bool.not_not, ne_eq, Int.not_lt, Int.not_le, Decidable.not_not, beq_iff_eq, bne_iff_ne] at hc8
                                    have hf := dl_7n (l := l.pl) hhd hk7 (fun ⟨q1, q2⟩ => by have q1 : ¬ m.r = g.st.fid := q1; omega)
                                    refine wp_skip ?_
                                    refine blk_normal ?_
                                    first
                                    | (have hqq := hp2; refine f_end0 (F' := GF gb g' l' (Z ++ G9)) hl hh rfl (by first | exact keeps_self | exact keeps_left) ?_; exact ⟨rfl, g', l', G9, he9, hg', hl', hp1.trans (by rw [hf]; try rfl), hp2.trans (by rw [hf]; try rfl), rfl⟩)
                                    | (have hqq := hc3; refine f_end0 (F' := (gb, C (GtV.c { g with ys := orB g.ys (sh1 m.d) }) 127) :: (g.st.E ++ (g.qE ++ ((g.rb, MD (kInt .u32) g.rl g.rn) :: (g.oE ++ ((g.led, C (LdV.c l) 91) :: (l.d.E ++ Z))))))) hl hh rfl (by repeat (first | exact keeps_nil | apply keeps_cons (by repeat (first | exact find_head | apply find_tail | apply find_skip)) (by first  | rfl) | exact keeps_self | exact keeps_left | apply keeps_app | apply keeps_mv | apply keeps_skip)) ?_; exact ⟨rfl, GO.same (g' := { g with ys := orB g.ys (sh1 m.d) }) (ys_ok hg (orB_bd _ _)) hl9 (by rw [hf]; rfl) (by rw [hf]) rfl⟩)
                                    | (refine f_end0 (F' := (gb, C (GtV.c g) 127) :: (g.st.E ++ (g.qE ++ ((g.rb, MD (kInt .u32) g.rl g.rn) :: (g.oE ++ ((g.led, C (LdV.c l) 91) :: (l.d.E ++ Z))))))) hl hh rfl (by repeat (first | exact keeps_nil | apply keeps_cons (by repeat (first | exact find_head | apply find_tail | apply find_skip)) (by first  | rfl) | exact keeps_self | exact keeps_left | apply keeps_app | apply keeps_mv | apply keeps_skip)) ?_; exact ⟨rfl, GO.same hg hl9 (by rw [hf]) (by rw [hf]) rfl⟩)
                                · intro hg25; clear hl; intro hl
                                  try simp only [decide_eq_true_eq, decide_eq_false_iff_not, Bool.not_eq_true', Bool.not_eq_false', Bool.not_eq_true, Bool.not_eq_false, Bool.and_eq_true, Bool.or_eq_true, Bool.and_eq_false_iff, Bool.or_eq_false_iff, Bool.not_not, ne_eq, Int.not_lt, Int.not_le, Decidable.not_not, beq_iff_eq, bne_iff_ne] at hg25
                                  refine wl (wl_skip hl rfl ⟨_, _, rfl, rfl, rfl⟩ ?_)
                                  clear hl a; intro a hl
                                  refine wl (wl_skip hl rfl ⟨_, _, rfl, rfl, rfl⟩ ?_)
                                  clear hl a; intro a hl
                                  refine wl (wl_skip hl rfl ⟨_, _, rfl, rfl, rfl⟩ ?_)
                                  clear hl a; intro a hl
                                  refine wl (wl_val hl rfl trivial (r_pickF hl rfl rfl) ?_)
                                  clear hl a; intro a hl
                                  refine w_nil ?_
                                  have hl2 := hl.add (t := 0) (hl.add (t := 5) (hl.add (t := 145) (hl.nil) rfl) rfl) rfl; clear hl; have hl := hl2; clear hl2
                                  refine then_normal ?_
                                  refine c_condF hl rfl ?_
                                  have hf := dl_7n (l := l.pl) hhd hk7 (fun ⟨q1, q2⟩ => by have q1 : ¬ m.r = g.st.fid := q1; omega)
                                  refine wp_skip ?_
                                  refine blk_normal ?_
                                  first
                                  | (have hqq := hp2; refine f_end0 (F' := GF gb g' l' (Z ++ G9)) hl hh rfl (by first | exact keeps_self | exact keeps_left) ?_; exact ⟨rfl, g', l', G9, he9, hg', hl', hp1.trans (by rw [hf]; try rfl), hp2.trans (by rw [hf]; try rfl), rfl⟩)
                                  | (have hqq := hc3; refine f_end0 (F' := (gb, C (GtV.c { g with ys := orB g.ys (sh1 m.d) }) 127) :: (g.st.E ++ (g.qE ++ ((g.rb, MD (kInt .u32) g.rl g.rn) :: (g.oE ++ ((g.led, C (LdV.c l) 91) :: (l.d.E ++ Z))))))) hl hh rfl (by repeat (first | exact keeps_nil | apply keeps_cons (by repeat (first | exact find_head | apply find_tail | apply find_skip)) (by first  | rfl) | exact keeps_self | exact keeps_left | apply keeps_app | apply keeps_mv | apply keeps_skip)) ?_; exact ⟨rfl, GO.same (g' := { g with ys := orB g.ys (sh1 m.d) }) (ys_ok hg (orB_bd _ _)) hl9 (by rw [hf]; rfl) (by rw [hf]) rfl⟩)
                                  | (refine f_end0 (F' := (gb, C (GtV.c g) 127) :: (g.st.E ++ (g.qE ++ ((g.rb, MD (kInt .u32) g.rl g.rn) :: (g.oE ++ ((g.led, C (LdV.c l) 91) :: (l.d.E ++ Z))))))) hl hh rfl (by repeat (first | exact keeps_nil | apply keeps_cons (by repeat (first | exact find_head | apply find_tail | apply find_skip)) (by first  | rfl) | exact keeps_self | exact keeps_left | apply keeps_app | apply keeps_mv | apply keeps_skip)) ?_; exact ⟨rfl, GO.same hg hl9 (by rw [hf]) (by rw [hf]) rfl⟩)
                              · intro hc7
                                try simp only [decide_eq_true_eq, decide_eq_false_iff_not, Bool.not_eq_true', Bool.not_eq_false', Bool.not_eq_true, Bool.not_eq_false, Bool.and_eq_true, Bool.or_eq_true, Bool.and_eq_false_iff, Bool.or_eq_false_iff, Bool.not_not, ne_eq, Int.not_lt, Int.not_le, Decidable.not_not, beq_iff_eq, bne_iff_ne] at hc7
                                have hn4 : ¬ (m.k = 6 ∧ g.pl.st.ph = 3 ∧ g.pl.au = true) := fun ⟨q1, q2, q3⟩ => by have q2 : g.st.ph = 3 := q2; have q3 : g.au = true := q3; first | omega | (simp_all; done)
                                have hf := dl_x (l := l.pl) hhd hn1 hn2 hn3 hn4
                                refine wp_skip ?_
                                refine blk_normal ?_
                                first
                                | (have hqq := hp2; refine f_end0 (F' := GF gb g' l' (Z ++ G9)) hl hh rfl (by first | exact keeps_self | exact keeps_left) ?_; exact ⟨rfl, g', l', G9, he9, hg', hl', hp1.trans (by rw [hf]; try rfl), hp2.trans (by rw [hf]; try rfl), rfl⟩)
                                | (have hqq := hc3; refine f_end0 (F' := (gb, C (GtV.c { g with ys := orB g.ys (sh1 m.d) }) 127) :: (g.st.E ++ (g.qE ++ ((g.rb, MD (kInt .u32) g.rl g.rn) :: (g.oE ++ ((g.led, C (LdV.c l) 91) :: (l.d.E ++ Z))))))) hl hh rfl (by repeat (first | exact keeps_nil | apply keeps_cons (by repeat (first | exact find_head | apply find_tail | apply find_skip)) (by first  | rfl) | exact keeps_self | exact keeps_left | apply keeps_app | apply keeps_mv | apply keeps_skip)) ?_; exact ⟨rfl, GO.same (g' := { g with ys := orB g.ys (sh1 m.d) }) (ys_ok hg (orB_bd _ _)) hl9 (by rw [hf]; rfl) (by rw [hf]) rfl⟩)
                                | (refine f_end0 (F' := (gb, C (GtV.c g) 127) :: (g.st.E ++ (g.qE ++ ((g.rb, MD (kInt .u32) g.rl g.rn) :: (g.oE ++ ((g.led, C (LdV.c l) 91) :: (l.d.E ++ Z))))))) hl hh rfl (by repeat (first | exact keeps_nil | apply keeps_cons (by repeat (first | exact find_head | apply find_tail | apply find_skip)) (by first  | rfl) | exact keeps_self | exact keeps_left | apply keeps_app | apply keeps_mv | apply keeps_skip)) ?_; exact ⟨rfl, GO.same hg hl9 (by rw [hf]) (by rw [hf]) rfl⟩)
                            · intro hg24; clear hl; intro hl
                              try simp only [decide_eq_true_eq, decide_eq_false_iff_not, Bool.not_eq_true', Bool.not_eq_false', Bool.not_eq_true, Bool.not_eq_false, Bool.and_eq_true, Bool.or_eq_true, Bool.and_eq_false_iff, Bool.or_eq_false_iff, Bool.not_not, ne_eq, Int.not_lt, Int.not_le, Decidable.not_not, beq_iff_eq, bne_iff_ne] at hg24
                              refine wl (wl_skip hl rfl ⟨_, _, rfl, rfl, rfl⟩ ?_)
                              clear hl a; intro a hl
                              refine wl (wl_skip hl rfl ⟨_, _, rfl, rfl, rfl⟩ ?_)
                              clear hl a; intro a hl
                              refine wl (wl_skip hl rfl ⟨_, _, rfl, rfl, rfl⟩ ?_)
                              clear hl a; intro a hl
                              refine wl (wl_skip hl rfl ⟨_, _, rfl, rfl, rfl⟩ ?_)
                              clear hl a; intro a hl
                              refine wl (wl_val hl rfl trivial (r_pickF hl rfl rfl) ?_)
                              clear hl a; intro a hl
                              refine wl (wl_val hl rfl trivial (r_assign hl rfl) ?_)
                              clear hl a; intro a hl
                              refine w_nil ?_
                              have hl2 := hl.add (t := 0) (hl.add (t := 3) (hl.add (t := 4) (hl.add (t := 5) (hl.add (t := 121) (hl.nil) rfl) rfl) rfl) rfl) rfl; clear hl; have hl := hl2; clear hl2
                              refine then_normal ?_
                              refine c_condF hl rfl ?_
                              have hn4 : ¬ (m.k = 6 ∧ g.pl.st.ph = 3 ∧ g.pl.au = true) := fun ⟨q1, q2, q3⟩ => by have q2 : g.st.ph = 3 := q2; have q3 : g.au = true := q3; first | omega | (simp_all; done)
                              have hf := dl_x (l := l.pl) hhd hn1 hn2 hn3 hn4
                              refine wp_skip ?_
                              refine blk_normal ?_
                              first
                              | (have hqq := hp2; refine f_end0 (F' := GF gb g' l' (Z ++ G9)) hl hh rfl (by first | exact keeps_self | exact keeps_left) ?_; exact ⟨rfl, g', l', G9, he9, hg', hl', hp1.trans (by rw [hf]; try rfl), hp2.trans (by rw [hf]; try rfl), rfl⟩)
                              | (have hqq := hc3; refine f_end0 (F' := (gb, C (GtV.c { g with ys := orB g.ys (sh1 m.d) }) 127) :: (g.st.E ++ (g.qE ++ ((g.rb, MD (kInt .u32) g.rl g.rn) :: (g.oE ++ ((g.led, C (LdV.c l) 91) :: (l.d.E ++ Z))))))) hl hh rfl (by repeat (first | exact keeps_nil | apply keeps_cons (by repeat (first | exact find_head | apply find_tail | apply find_skip)) (by first  | rfl) | exact keeps_self | exact keeps_left | apply keeps_app | apply keeps_mv | apply keeps_skip)) ?_; exact ⟨rfl, GO.same (g' := { g with ys := orB g.ys (sh1 m.d) }) (ys_ok hg (orB_bd _ _)) hl9 (by rw [hf]; rfl) (by rw [hf]) rfl⟩)
                              | (refine f_end0 (F' := (gb, C (GtV.c g) 127) :: (g.st.E ++ (g.qE ++ ((g.rb, MD (kInt .u32) g.rl g.rn) :: (g.oE ++ ((g.led, C (LdV.c l) 91) :: (l.d.E ++ Z))))))) hl hh rfl (by repeat (first | exact keeps_nil | apply keeps_cons (by repeat (first | exact find_head | apply find_tail | apply find_skip)) (by first  | rfl) | exact keeps_self | exact keeps_left | apply keeps_app | apply keeps_mv | apply keeps_skip)) ?_; exact ⟨rfl, GO.same hg hl9 (by rw [hf]) (by rw [hf]) rfl⟩)
                          · intro hg23; clear hl; intro hl
                            try simp only [decide_eq_true_eq, decide_eq_false_iff_not, Bool.not_eq_true', Bool.not_eq_false', Bool.not_eq_true, Bool.not_eq_false, Bool.and_eq_true, Bool.or_eq_true, Bool.and_eq_false_iff, Bool.or_eq_false_iff, Bool.not_not, ne_eq, Int.not_lt, Int.not_le, Decidable.not_not, beq_iff_eq, bne_iff_ne] at hg23
                            refine wl (wl_skip hl rfl ⟨_, _, rfl, rfl, rfl⟩ ?_)
                            clear hl a; intro a hl
                            refine wl (wl_skip hl rfl ⟨_, _, rfl, rfl, rfl⟩ ?_)
                            clear hl a; intro a hl
                            refine wl (wl_skip hl rfl ⟨_, _, rfl, rfl, rfl⟩ ?_)
                            clear hl a; intro a hl
                            refine wl (wl_val hl rfl trivial (r_pickF hl rfl rfl) ?_)
                            clear hl a; intro a hl
                            refine wl (wl_val hl rfl trivial (r_move hl rfl) ?_)
                            clear hl a; intro a hl
                            refine wl (wl_skip hl rfl ⟨_, _, rfl, rfl, rfl⟩ ?_)
                            clear hl a; intro a hl
                            refine wl (wl_skip hl rfl ⟨_, _, rfl, rfl, rfl⟩ ?_)
                            clear hl a; intro a hl
                            refine wl (wl_skip hl rfl ⟨_, _, rfl, rfl, rfl⟩ ?_)
                            clear hl a; intro a hl
                            refine wl (wl_skip hl rfl ⟨_, _, rfl, rfl, rfl⟩ ?_)
                            clear hl a; intro a hl
                            refine wl (wl_val hl rfl trivial (r_pickF hl rfl rfl) ?_)
                            clear hl a; intro a hl
                            refine wl (wl_val hl rfl trivial (r_assign hl rfl) ?_)
                            clear hl a; intro a hl
                            refine w_nil ?_
                            have hl2 := hl.add (t := 0) (hl.add (t := 3) (hl.add (t := 4) (hl.add (t := 5) (hl.add (t := 121) (hl.nil) rfl) rfl) rfl) rfl) rfl; clear hl; have hl := hl2; clear hl2
                            refine then_normal ?_
                            refine c_condF hl rfl ?_
                            have hn4 : ¬ (m.k = 6 ∧ g.pl.st.ph = 3 ∧ g.pl.au = true) := fun ⟨q1, q2, q3⟩ => by have q2 : g.st.ph = 3 := q2; have q3 : g.au = true := q3; first | omega | (simp_all; done)
                            have hf := dl_x (l := l.pl) hhd hn1 hn2 hn3 hn4
                            refine wp_skip ?_
                            refine blk_normal ?_
                            first
                            | (have hqq := hp2; refine f_end0 (F' := GF gb g' l' (Z ++ G9)) hl hh rfl (by first | exact keeps_self | exact keeps_left) ?_; exact ⟨rfl, g', l', G9, he9, hg', hl', hp1.trans (by rw [hf]; try rfl), hp2.trans (by rw [hf]; try rfl), rfl⟩)
                            | (have hqq := hc3; refine f_end0 (F' := (gb, C (GtV.c { g with ys := orB g.ys (sh1 m.d) }) 127) :: (g.st.E ++ (g.qE ++ ((g.rb, MD (kInt .u32) g.rl g.rn) :: (g.oE ++ ((g.led, C (LdV.c l) 91) :: (l.d.E ++ Z))))))) hl hh rfl (by repeat (first | exact keeps_nil | apply keeps_cons (by repeat (first | exact find_head | apply find_tail | apply find_skip)) (by first  | rfl) | exact keeps_self | exact keeps_left | apply keeps_app | apply keeps_mv | apply keeps_skip)) ?_; exact ⟨rfl, GO.same (g' := { g with ys := orB g.ys (sh1 m.d) }) (ys_ok hg (orB_bd _ _)) hl9 (by rw [hf]; rfl) (by rw [hf]) rfl⟩)
                            | (refine f_end0 (F' := (gb, C (GtV.c g) 127) :: (g.st.E ++ (g.qE ++ ((g.rb, MD (kInt .u32) g.rl g.rn) :: (g.oE ++ ((g.led, C (LdV.c l) 91) :: (l.d.E ++ Z))))))) hl hh rfl (by repeat (first | exact keeps_nil | apply keeps_cons (by repeat (first | exact find_head | apply find_tail | apply find_skip)) (by first  | rfl) | exact keeps_self | exact keeps_left | apply keeps_app | apply keeps_mv | apply keeps_skip)) ?_; exact ⟨rfl, GO.same hg hl9 (by rw [hf]) (by rw [hf]) rfl⟩)
                      · intro hg21; clear hl; intro hl
                        try simp only [decide_eq_true_eq, decide_eq_false_iff_not, Bool.not_eq_true', Bool.not_eq_false', Bool.not_eq_true, Bool.not_eq_false, Bool.and_eq_true, Bool.or_eq_true, Bool.and_eq_false_iff, Bool.or_eq_false_iff, Bool.not_not, ne_eq, Int.not_lt, Int.not_le, Decidable.not_not, beq_iff_eq, bne_iff_ne] at hg21
                        refine wl (wl_skip hl rfl ⟨_, _, rfl, rfl, rfl⟩ ?_)
                        clear hl a; intro a hl
                        refine wl (wl_skip hl rfl ⟨_, _, rfl, rfl, rfl⟩ ?_)
                        clear hl a; intro a hl
                        refine wl (wl_skip hl rfl ⟨_, _, rfl, rfl, rfl⟩ ?_)
                        clear hl a; intro a hl
                        refine wl (wl_skip hl rfl ⟨_, _, rfl, rfl, rfl⟩ ?_)
                        clear hl a; intro a hl
                        refine wl (wl_val hl rfl trivial (r_pickF hl rfl rfl) ?_)
                        clear hl a; intro a hl
                        refine wl (wl_val hl rfl trivial (r_assign hl rfl) ?_)
                        clear hl a; intro a hl
                        refine w_nil ?_
                        have hl2 := hl.add (t := 0) (hl.add (t := 3) (hl.add (t := 4) (hl.add (t := 5) (hl.add (t := 93) (hl.nil) rfl) rfl) rfl) rfl) rfl; clear hl; have hl := hl2; clear hl2
                        refine then_normal ?_
                        refine c_condF hl rfl ?_
                        have hn3 : ¬ (m.k = 6 ∧ g.pl.st.ph = 2 ∧ g.pl.au = true) := fun ⟨q1, q2, q3⟩ => by have q2 : g.st.ph = 2 := q2; have q3 : g.au = true := q3; first | omega | (simp_all; done)
                        refine c_seq ?_
                        refine c_region ?_
                        refine wl (wl_val hl rfl trivial (r_field hl rfl fld38_0) ?_)
                        clear hl a; intro a hl
                        refine wl (w_load hl hh rfl trivial one35 rfl (by repeat (first | exact find_head | apply find_tail | apply find_skip)) (by first | exact gtc_led _ | exact gtc_ep _ | exact gtc_vs _ | exact gtc_is _ | exact gtc_fid _ | exact gtc_ph _ | exact gtc_vd _ | exact gtc_q _ | exact gtc_rf _ | exact gtc_ys _ | exact gtc_dn _ | exact gtc_tk _ | exact gtc_au _ | exact gtc_o _ | exact gtc_off _ | rfl) ?_)
                        clear hl a; intro a hl
                        refine wl (wl_val hl rfl trivial (r_eql hl rfl rfl) ?_)
                        clear hl a; intro a hl
                        refine wl (wl_val hl rfl trivial (r_move hl rfl) ?_)
                        clear hl a; intro a hl
                        refine sl_split (t := 125) hl rfl ?_ ?_
                        · intro hg26; clear hl; intro hl
                          try simp only [decide_eq_true_eq, decide_eq_false_iff_not, Bool.not_eq_true', Bool.not_eq_false', Bool.not_eq_true, Bool.not_eq_false, Bool.and_eq_true, Bool.or_eq_true, Bool.and_eq_false_iff, Bool.or_eq_false_iff, Bool.not_not, ne_eq, Int.not_lt, Int.not_le, Decidable.not_not, beq_iff_eq, bne_iff_ne] at hg26
                          refine wl (wl_val hl rfl ⟨_, _, rfl, rfl, rfl⟩ (r_field hl rfl fld87_1) ?_)
                          clear hl a; intro a hl
                          refine wl (w_load hl hh rfl ⟨_, _, rfl, rfl, rfl⟩ one76 rfl (by repeat (first | exact find_head | apply find_tail | apply find_skip)) (by first | exact gtc_led _ | exact gtc_ep _ | exact gtc_vs _ | exact gtc_is _ | exact gtc_fid _ | exact gtc_ph _ | exact gtc_vd _ | exact gtc_q _ | exact gtc_rf _ | exact gtc_ys _ | exact gtc_dn _ | exact gtc_tk _ | exact gtc_au _ | exact gtc_o _ | exact gtc_off _ | rfl) ?_)
                          clear hl a; intro a hl
                          refine wl (wl_val hl rfl ⟨_, _, rfl, rfl, rfl⟩ (r_eql hl rfl rfl) ?_)
                          clear hl a; intro a hl
                          refine wl (wl_val hl rfl trivial (r_pickT hl rfl rfl) ?_)
                          clear hl a; intro a hl
                          refine wl (wl_val hl rfl trivial (r_move hl rfl) ?_)
                          clear hl a; intro a hl
                          refine sl_split (t := 130) hl rfl ?_ ?_
                          · intro hg27; clear hl; intro hl
                            try simp only [decide_eq_true_eq, decide_eq_false_iff_not, Bool.not_eq_true', Bool.not_eq_false', Bool.not_eq_true, Bool.not_eq_false, Bool.and_eq_true, Bool.or_eq_true, Bool.and_eq_false_iff, Bool.or_eq_false_iff, Bool.not_not, ne_eq, Int.not_lt, Int.not_le, Decidable.not_not, beq_iff_eq, bne_iff_ne] at hg27
                            refine wl (wl_val hl rfl ⟨_, _, rfl, rfl, rfl⟩ (r_move hl rfl) ?_)
                            clear hl a; intro a hl
                            refine wl (wl_val hl rfl ⟨_, _, rfl, rfl, rfl⟩ (r_nilCheck hl rfl) ?_)
                            clear hl a; intro a hl
                            refine wl (wl_val hl rfl ⟨_, _, rfl, rfl, rfl⟩ (r_field hl rfl fld127_8) ?_)
                            clear hl a; intro a hl
                            refine wl (w_load hl hh rfl ⟨_, _, rfl, rfl, rfl⟩ one4 rfl (by repeat (first | exact find_head | apply find_tail | apply find_skip)) (by first | exact gtc_led _ | exact gtc_ep _ | exact gtc_vs _ | exact gtc_is _ | exact gtc_fid _ | exact gtc_ph _ | exact gtc_vd _ | exact gtc_q _ | exact gtc_rf _ | exact gtc_ys _ | exact gtc_dn _ | exact gtc_tk _ | exact gtc_au _ | exact gtc_o _ | exact gtc_off _ | rfl) ?_)
                            clear hl a; intro a hl
                            refine wl (wl_val hl rfl trivial (r_pickT hl rfl rfl) ?_)
                            clear hl a; intro a hl
                            refine wl (wl_val hl rfl trivial (r_assign hl rfl) ?_)
                            clear hl a; intro a hl
                            refine w_nil ?_
                            have hl2 := hl.add (t := 0) (hl.add (t := 3) (hl.add (t := 4) (hl.add (t := 5) (hl.add (t := 121) (hl.nil) rfl) rfl) rfl) rfl) rfl; clear hl; have hl := hl2; clear hl2
                            refine then_normal ?_
                            refine c_cond hl rfl ?_ ?_
                            · intro hc7
                              try simp only [decide_eq_true_eq, decide_eq_false_iff_not, Bool.not_eq_true', Bool.not_eq_false', Bool.not_eq_true, Bool.not_eq_false, Bool.and_eq_true, Bool.or_eq_true, Bool.and_eq_false_iff, Bool.or_eq_false_iff, Bool.not_not, ne_eq, Int.not_lt, Int.not_le, Decidable.not_not, beq_iff_eq, bne_iff_ne] at hc7
                              have hk7 : m.k = 6 ∧ g.pl.st.ph = 3 ∧ g.pl.au = true := ⟨by omega, (show g.st.ph = 3 by omega), (show g.au = true by first | assumption | (simp_all; done))⟩
                              refine c_seq ?_
                              refine c_region ?_
                              refine wl (wl_val hl rfl trivial (r_field hl rfl fld38_5) ?_)
                              clear hl a; intro a hl
                              refine wl (w_load hl hh rfl trivial one36 rfl (by repeat (first | exact find_head | apply find_tail | apply find_skip)) (by first | exact gtc_led _ | exact gtc_ep _ | exact gtc_vs _ | exact gtc_is _ | exact gtc_fid _ | exact gtc_ph _ | exact gtc_vd _ | exact gtc_q _ | exact gtc_rf _ | exact gtc_ys _ | exact gtc_dn _ | exact gtc_tk _ | exact gtc_au _ | exact gtc_o _ | exact gtc_off _ | rfl) ?_)
                              clear hl a; intro a hl
                              refine wl (wl_val hl rfl trivial (r_field hl rfl fld87_0) ?_)
                              clear hl a; intro a hl
                              refine wl (w_load hl hh rfl trivial one36 rfl (by repeat (first | exact find_head | apply find_tail | apply find_skip)) (by first | exact gtc_led _ | exact gtc_ep _ | exact gtc_vs _ | exact gtc_is _ | exact gtc_fid _ | exact gtc_ph _ | exact gtc_vd _ | exact gtc_q _ | exact gtc_rf _ | exact gtc_ys _ | exact gtc_dn _ | exact gtc_tk _ | exact gtc_au _ | exact gtc_o _ | exact gtc_off _ | rfl) ?_)
                              clear hl a; intro a hl
                              refine wl (wl_val hl rfl trivial (r_neq hl rfl rfl) ?_)
                              clear hl a; intro a hl
                              refine wl (wl_val hl rfl trivial (r_move hl rfl) ?_)
                              clear hl a; intro a hl
                              refine sl_split (t := 141) hl rfl ?_ ?_
                              · intro hg28; clear hl; intro hl
                                try simp only [decide_eq_true_eq, decide_eq_false_iff_not, Bool.not_eq_true', Bool.not_eq_false', Bool.not_eq_true, Bool.not_eq_false, Bool.and_eq_true, Bool.or_eq_true, Bool.and_eq_false_iff, Bool.or_eq_false_iff, Bool.not_not, ne_eq, Int.not_lt, Int.not_le, Decidable.not_not, beq_iff_eq, bne_iff_ne] at hg28
                                refine wl (wl_val hl rfl ⟨_, _, rfl, rfl, rfl⟩ (r_field hl rfl fld38_6) ?_)
                                clear hl a; intro a hl
                                refine wl (w_load hl hh rfl ⟨_, _, rfl, rfl, rfl⟩ one36 rfl (by repeat (first | exact find_head | apply find_tail | apply find_skip)) (by first | exact gtc_led _ | exact gtc_ep _ | exact gtc_vs _ | exact gtc_is _ | exact gtc_fid _ | exact gtc_ph _ | exact gtc_vd _ | exact gtc_q _ | exact gtc_rf _ | exact gtc_ys _ | exact gtc_dn _ | exact gtc_tk _ | exact gtc_au _ | exact gtc_o _ | exact gtc_off _ | rfl) ?_)
                                clear hl a; intro a hl
                                refine wl (wl_val hl rfl ⟨_, _, rfl, rfl, rfl⟩ (r_eql hl rfl rfl) ?_)
                                clear hl a; intro a hl
                                refine wl (wl_val hl rfl trivial (r_pickT hl rfl rfl) ?_)
                                clear hl a; intro a hl
                                refine w_nil ?_
                                have hl2 := hl.add (t := 0) (hl.add (t := 5) (hl.add (t := 145) (hl.nil) rfl) rfl) rfl; clear hl; have hl := hl2; clear hl2
                                refine then_normal ?_
                                refine c_cond hl rfl ?_ ?_
                                · intro hc8
                                  try simp only [decide_eq_true_eq, decide_eq_false_iff_not, Bool.not_eq_true', Bool.not_eq_false', Bool.not_eq_true, Bool.not_eq_false, Bool.and_eq_true, Bool.or_eq_true, Bool.and_eq_false_iff, Bool.or_eq_false_iff, Bool.not_not, ne_eq, Int.not_lt, Int.not_le, Decidable.not_not, beq_iff_eq, bne_iff_ne] at hc8
                                  have hf := dl_7y (l := l.pl) hhd hk7 ⟨(show ¬ m.r = g.st.fid by omega), by omega⟩
                                  refine c_region ?_
                                  refine wl (wl_val hl rfl trivial (r_move hl rfl) ?_)
                                  clear hl a; intro a hl
                                  refine wl (wl_val hl rfl trivial (r_move hl rfl) ?_)
                                  clear hl a; intro a hl
                                  refine wl (w_call hl hh rfl trivial rfl cal52 rfl (confirm_spec Z gb g l hg hl9 (sh1 m.d) hvl) (by repeat (first | exact keeps_nil | apply keeps_cons (by repeat (first | exact find_head | apply find_tail | apply find_skip)) (by first  | rfl) | exact keeps_self | exact keeps_left | apply keeps_app | apply keeps_mv | apply keeps_skip)) trivial ?_)
                                  clear hl hh a w; intro vc Fc a w hR hl hh
                                  obtain ⟨rfl, g', l', G9, he9, hg', hl', hp1, hp2, rfl⟩ := hR
                                  try simp only [List.cons_append, List.nil_append, List.append_assoc, List.append_nil] at hh
                                  refine w_nil ?_
                                  have hl2 := hl.nil; clear hl; have hl := hl2; clear hl2
                                  refine blk_normal ?_
                                  first
                                  | (have hqq := hp2; refine f_end0 (F' := GF gb g' l' (Z ++ G9)) hl hh rfl (by first | exact keeps_self | exact keeps_left) ?_; exact ⟨rfl, g', l', G9, he9, hg', hl', hp1.trans (by rw [hf]; try rfl), hp2.trans (by rw [hf]; try rfl), rfl⟩)
                                  | (have hqq := hc3; refine f_end0 (F' := (gb, C (GtV.c { g with ys := orB g.ys (sh1 m.d) }) 127) :: (g.st.E ++ (g.qE ++ ((g.rb, MD (kInt .u32) g.rl g.rn) :: (g.oE ++ ((g.led, C (LdV.c l) 91) :: (l.d.E ++ Z))))))) hl hh rfl (by repeat (first | exact keeps_nil | apply keeps_cons (by repeat (first | exact find_head | apply find_tail | apply find_skip)) (by first  | rfl) | exact keeps_self | exact keeps_left | apply keeps_app | apply keeps_mv | apply keeps_skip)) ?_; exact ⟨rfl, GO.same (g' := { g with ys := orB g.ys (sh1 m.d) }) (ys_ok hg (orB_bd _ _)) hl9 (by rw [hf]; rfl) (by rw [hf]) rfl⟩)
                                  | (refine f_end0 (F' := (gb, C (GtV.c g) 127) :: (g.st.E ++ (g.qE ++ ((g.rb, MD (kInt .u32) g.rl g.rn) :: (g.oE ++ ((g.led, C (LdV.c l) 91) :: (l.d.E ++ Z))))))) hl hh rfl (by repeat (first | exact keeps_nil | apply keeps_cons (by repeat (first | exact find_head | apply find_tail | apply find_skip)) (by first  | rfl) | exact keeps_self | exact keeps_left | apply keeps_app | apply keeps_mv | apply keeps_skip)) ?_; exact ⟨rfl, GO.same hg hl9 (by rw [hf]) (by rw [hf]) rfl⟩)
                                · intro hc8
                                  try simp only [decide_eq_true_eq, decide_eq_false_iff_not, Bool.not_eq_true', Bool.not_eq_false', Bool.not_eq_true, Bool.not_eq_false, Bool.and_eq_true, Bool.or_eq_true, Bool.and_eq_false_iff, Bool.or_eq_false_iff, Bool.not_not, ne_eq, Int.not_lt, Int.not_le, Decidable.not_not, beq_iff_eq, bne_iff_ne] at hc8
                                  have hf := dl_7n (l := l.pl) hhd hk7 (fun ⟨q1, q2⟩ => by have q1 : ¬ m.r = g.st.fid := q1; omega)
                                  refine wp_skip ?_
                                  refine blk_normal ?_
                                  first
                                  | (have hqq := hp2; refine f_end0 (F' := GF gb g' l' (Z ++ G9)) hl hh rfl (by first | exact keeps_self | exact keeps_left) ?_; exact ⟨rfl, g', l', G9, he9, hg', hl', hp1.trans (by rw [hf]; try rfl), hp2.trans (by rw [hf]; try rfl), rfl⟩)
                                  | (have hqq := hc3; refine f_end0 (F' := (gb, C (GtV.c { g with ys := orB g.ys (sh1 m.d) }) 127) :: (g.st.E ++ (g.qE ++ ((g.rb, MD (kInt .u32) g.rl g.rn) :: (g.oE ++ ((g.led, C (LdV.c l) 91) :: (l.d.E ++ Z))))))) hl hh rfl (by repeat (first | exact keeps_nil | apply keeps_cons (by repeat (first | exact find_head | apply find_tail | apply find_skip)) (by first  | rfl) | exact keeps_self | exact keeps_left | apply keeps_app | apply keeps_mv | apply keeps_skip)) ?_; exact ⟨rfl, GO.same (g' := { g with ys := orB g.ys (sh1 m.d) }) (ys_ok hg (orB_bd _ _)) hl9 (by rw [hf]; rfl) (by rw [hf]) rfl⟩)
                                  | (refine f_end0 (F' := (gb, C (GtV.c g) 127) :: (g.st.E ++ (g.qE ++ ((g.rb, MD (kInt .u32) g.rl g.rn) :: (g.oE ++ ((g.led, C (LdV.c l) 91) :: (l.d.E ++ Z))))))) hl hh rfl (by repeat (first | exact keeps_nil | apply keeps_cons (by repeat (first | exact find_head | apply find_tail | apply find_skip)) (by first  | rfl) | exact keeps_self | exact keeps_left | apply keeps_app | apply keeps_mv | apply keeps_skip)) ?_; exact ⟨rfl, GO.same hg hl9 (by rw [hf]) (by rw [hf]) rfl⟩)
                              · intro hg28; clear hl; intro hl
                                try simp only [decide_eq_true_eq, decide_eq_false_iff_not, Bool.not_eq_true', Bool.not_eq_false', Bool.not_eq_true, Bool.not_eq_false, Bool.and_eq_true, Bool.or_eq_true, Bool.and_eq_false_iff, Bool.or_eq_false_iff, Bool.not_not, ne_eq, Int.not_lt, Int.not_le, Decidable.not_not, beq_iff_eq, bne_iff_ne] at hg28
                                refine wl (wl_skip hl rfl ⟨_, _, rfl, rfl, rfl⟩ ?_)
                                clear hl a; intro a hl
                                refine wl (wl_skip hl rfl ⟨_, _, rfl, rfl, rfl⟩ ?_)
                                clear hl a; intro a hl
                                refine wl (wl_skip hl rfl ⟨_, _, rfl, rfl, rfl⟩ ?_)
                                clear hl a; intro a hl
                                refine wl (wl_val hl rfl trivial (r_pickF hl rfl rfl) ?_)
                                clear hl a; intro a hl
                                refine w_nil ?_
                                have hl2 := hl.add (t := 0) (hl.add (t := 5) (hl.add (t := 145) (hl.nil) rfl) rfl) rfl; clear hl; have hl := hl2; clear hl2
                                refine then_normal ?_
                                refine c_condF hl rfl ?_
                                have hf := dl_7n (l := l.pl) hhd hk7 (fun ⟨q1, q2⟩ => by have q1 : ¬ m.r = g.st.fid := q1; omega)
                                refine wp_skip ?_
                                refine blk_normal ?_
                                first
                                | (have hqq := hp2; refine f_end0 (F' := GF gb g' l' (Z ++ G9)) hl hh rfl (by first | exact keeps_self | exact keeps_left) ?_; exact ⟨rfl, g', l', G9, he9, hg', hl', hp1.trans (by rw [hf]; try rfl), hp2.trans (by rw [hf]; try rfl), rfl⟩)
                                | (have hqq := hc3; refine f_end0 (F' := (gb, C (GtV.c { g with ys := orB g.ys (sh1 m.d) }) 127) :: (g.st.E ++ (g.qE ++ ((g.rb, MD (kInt .u32) g.rl g.rn) :: (g.oE ++ ((g.led, C (LdV.c l) 91) :: (l.d.E ++ Z))))))) hl hh rfl (by repeat (first | exact keeps_nil | apply keeps_cons (by repeat (first | exact find_head | apply find_tail | apply find_skip)) (by first  | rfl) | exact keeps_self | exact keeps_left | apply keeps_app | apply keeps_mv | apply keeps_skip)) ?_; exact ⟨rfl, GO.same (g' := { g with ys := orB g.ys (sh1 m.d) }) (ys_ok hg (orB_bd _ _)) hl9 (by rw [hf]; rfl) (by rw [hf]) rfl⟩)
                                | (refine f_end0 (F' := (gb, C (GtV.c g) 127) :: (g.st.E ++ (g.qE ++ ((g.rb, MD (kInt .u32) g.rl g.rn) :: (g.oE ++ ((g.led, C (LdV.c l) 91) :: (l.d.E ++ Z))))))) hl hh rfl (by repeat (first | exact keeps_nil | apply keeps_cons (by repeat (first | exact find_head | apply find_tail | apply find_skip)) (by first  | rfl) | exact keeps_self | exact keeps_left | apply keeps_app | apply keeps_mv | apply keeps_skip)) ?_; exact ⟨rfl, GO.same hg hl9 (by rw [hf]) (by rw [hf]) rfl⟩)
                            · intro hc7
                              try simp only [decide_eq_true_eq, decide_eq_false_iff_not, Bool.not_eq_true', Bool.not_eq_false', Bool.not_eq_true, Bool.not_eq_false, Bool.and_eq_true, Bool.or_eq_true, Bool.and_eq_false_iff, Bool.or_eq_false_iff, Bool.not_not, ne_eq, Int.not_lt, Int.not_le, Decidable.not_not, beq_iff_eq, bne_iff_ne] at hc7
                              have hn4 : ¬ (m.k = 6 ∧ g.pl.st.ph = 3 ∧ g.pl.au = true) := fun ⟨q1, q2, q3⟩ => by have q2 : g.st.ph = 3 := q2; have q3 : g.au = true := q3; first | omega | (simp_all; done)
                              have hf := dl_x (l := l.pl) hhd hn1 hn2 hn3 hn4
                              refine wp_skip ?_
                              refine blk_normal ?_
                              first
                              | (have hqq := hp2; refine f_end0 (F' := GF gb g' l' (Z ++ G9)) hl hh rfl (by first | exact keeps_self | exact keeps_left) ?_; exact ⟨rfl, g', l', G9, he9, hg', hl', hp1.trans (by rw [hf]; try rfl), hp2.trans (by rw [hf]; try rfl), rfl⟩)
                              | (have hqq := hc3; refine f_end0 (F' := (gb, C (GtV.c { g with ys := orB g.ys (sh1 m.d) }) 127) :: (g.st.E ++ (g.qE ++ ((g.rb, MD (kInt .u32) g.rl g.rn) :: (g.oE ++ ((g.led, C (LdV.c l) 91) :: (l.d.E ++ Z))))))) hl hh rfl (by repeat (first | exact keeps_nil | apply keeps_cons (by repeat (first | exact find_head | apply find_tail | apply find_skip)) (by first  | rfl) | exact keeps_self | exact keeps_left | apply keeps_app | apply keeps_mv | apply keeps_skip)) ?_; exact ⟨rfl, GO.same (g' := { g with ys := orB g.ys (sh1 m.d) }) (ys_ok hg (orB_bd _ _)) hl9 (by rw [hf]; rfl) (by rw [hf]) rfl⟩)
                              | (refine f_end0 (F' := (gb, C (GtV.c g) 127) :: (g.st.E ++ (g.qE ++ ((g.rb, MD (kInt .u32) g.rl g.rn) :: (g.oE ++ ((g.led, C (LdV.c l) 91) :: (l.d.E ++ Z))))))) hl hh rfl (by repeat (first | exact keeps_nil | apply keeps_cons (by repeat (first | exact find_head | apply find_tail | apply find_skip)) (by first  | rfl) | exact keeps_self | exact keeps_left | apply keeps_app | apply keeps_mv | apply keeps_skip)) ?_; exact ⟨rfl, GO.same hg hl9 (by rw [hf]) (by rw [hf]) rfl⟩)
                          · intro hg27; clear hl; intro hl
                            try simp only [decide_eq_true_eq, decide_eq_false_iff_not, Bool.not_eq_true', Bool.not_eq_false', Bool.not_eq_true, Bool.not_eq_false, Bool.and_eq_true, Bool.or_eq_true, Bool.and_eq_false_iff, Bool.or_eq_false_iff, Bool.not_not, ne_eq, Int.not_lt, Int.not_le, Decidable.not_not, beq_iff_eq, bne_iff_ne] at hg27
                            refine wl (wl_skip hl rfl ⟨_, _, rfl, rfl, rfl⟩ ?_)
                            clear hl a; intro a hl
                            refine wl (wl_skip hl rfl ⟨_, _, rfl, rfl, rfl⟩ ?_)
                            clear hl a; intro a hl
                            refine wl (wl_skip hl rfl ⟨_, _, rfl, rfl, rfl⟩ ?_)
                            clear hl a; intro a hl
                            refine wl (wl_skip hl rfl ⟨_, _, rfl, rfl, rfl⟩ ?_)
                            clear hl a; intro a hl
                            refine wl (wl_val hl rfl trivial (r_pickF hl rfl rfl) ?_)
                            clear hl a; intro a hl
                            refine wl (wl_val hl rfl trivial (r_assign hl rfl) ?_)
                            clear hl a; intro a hl
                            refine w_nil ?_
                            have hl2 := hl.add (t := 0) (hl.add (t := 3) (hl.add (t := 4) (hl.add (t := 5) (hl.add (t := 121) (hl.nil) rfl) rfl) rfl) rfl) rfl; clear hl; have hl := hl2; clear hl2
                            refine then_normal ?_
                            refine c_condF hl rfl ?_
                            have hn4 : ¬ (m.k = 6 ∧ g.pl.st.ph = 3 ∧ g.pl.au = true) := fun ⟨q1, q2, q3⟩ => by have q2 : g.st.ph = 3 := q2; have q3 : g.au = true := q3; first | omega | (simp_all; done)
                            have hf := dl_x (l := l.pl) hhd hn1 hn2 hn3 hn4
                            refine wp_skip ?_
                            refine blk_normal ?_
                            first
                            | (have hqq := hp2; refine f_end0 (F' := GF gb g' l' (Z ++ G9)) hl hh rfl (by first | exact keeps_self | exact keeps_left) ?_; exact ⟨rfl, g', l', G9, he9, hg', hl', hp1.trans (by rw [hf]; try rfl), hp2.trans (by rw [hf]; try rfl), rfl⟩)
                            | (have hqq := hc3; refine f_end0 (F' := (gb, C (GtV.c { g with ys := orB g.ys (sh1 m.d) }) 127) :: (g.st.E ++ (g.qE ++ ((g.rb, MD (kInt .u32) g.rl g.rn) :: (g.oE ++ ((g.led, C (LdV.c l) 91) :: (l.d.E ++ Z))))))) hl hh rfl (by repeat (first | exact keeps_nil | apply keeps_cons (by repeat (first | exact find_head | apply find_tail | apply find_skip)) (by first  | rfl) | exact keeps_self | exact keeps_left | apply keeps_app | apply keeps_mv | apply keeps_skip)) ?_; exact ⟨rfl, GO.same (g' := { g with ys := orB g.ys (sh1 m.d) }) (ys_ok hg (orB_bd _ _)) hl9 (by rw [hf]; rfl) (by rw [hf]) rfl⟩)
                            | (refine f_end0 (F' := (gb, C (GtV.c g) 127) :: (g.st.E ++ (g.qE ++ ((g.rb, MD (kInt .u32) g.rl g.rn) :: (g.oE ++ ((g.led, C (LdV.c l) 91) :: (l.d.E ++ Z))))))) hl hh rfl (by repeat (first | exact keeps_nil | apply keeps_cons (by repeat (first | exact find_head | apply find_tail | apply find_skip)) (by first  | rfl) | exact keeps_self | exact keeps_left | apply keeps_app | apply keeps_mv | apply keeps_skip)) ?_; exact ⟨rfl, GO.same hg hl9 (by rw [hf]) (by rw [hf]) rfl⟩)
                        · intro hg26; clear hl; intro hl
                          try simp only [decide_eq_true_eq, decide_eq_false_iff_not, Bool.not_eq_true', Bool.not_eq_false', Bool.not_eq_true, Bool.not_eq_false, Bool.and_eq_true, Bool.or_eq_true, Bool.and_eq_false_iff, Bool.or_eq_false_iff, Bool.not_not, ne_eq, Int.not_lt, Int.not_le, Decidable.not_not, beq_iff_eq, bne_iff_ne] at hg26
                          refine wl (wl_skip hl rfl ⟨_, _, rfl, rfl, rfl⟩ ?_)
                          clear hl a; intro a hl
                          refine wl (wl_skip hl rfl ⟨_, _, rfl, rfl, rfl⟩ ?_)
                          clear hl a; intro a hl
                          refine wl (wl_skip hl rfl ⟨_, _, rfl, rfl, rfl⟩ ?_)
                          clear hl a; intro a hl
                          refine wl (wl_val hl rfl trivial (r_pickF hl rfl rfl) ?_)
                          clear hl a; intro a hl
                          refine wl (wl_val hl rfl trivial (r_move hl rfl) ?_)
                          clear hl a; intro a hl
                          refine wl (wl_skip hl rfl ⟨_, _, rfl, rfl, rfl⟩ ?_)
                          clear hl a; intro a hl
                          refine wl (wl_skip hl rfl ⟨_, _, rfl, rfl, rfl⟩ ?_)
                          clear hl a; intro a hl
                          refine wl (wl_skip hl rfl ⟨_, _, rfl, rfl, rfl⟩ ?_)
                          clear hl a; intro a hl
                          refine wl (wl_skip hl rfl ⟨_, _, rfl, rfl, rfl⟩ ?_)
                          clear hl a; intro a hl
                          refine wl (wl_val hl rfl trivial (r_pickF hl rfl rfl) ?_)
                          clear hl a; intro a hl
                          refine wl (wl_val hl rfl trivial (r_assign hl rfl) ?_)
                          clear hl a; intro a hl
                          refine w_nil ?_
                          have hl2 := hl.add (t := 0) (hl.add (t := 3) (hl.add (t := 4) (hl.add (t := 5) (hl.add (t := 121) (hl.nil) rfl) rfl) rfl) rfl) rfl; clear hl; have hl := hl2; clear hl2
                          refine then_normal ?_
                          refine c_condF hl rfl ?_
                          have hn4 : ¬ (m.k = 6 ∧ g.pl.st.ph = 3 ∧ g.pl.au = true) := fun ⟨q1, q2, q3⟩ => by have q2 : g.st.ph = 3 := q2; have q3 : g.au = true := q3; first | omega | (simp_all; done)
                          have hf := dl_x (l := l.pl) hhd hn1 hn2 hn3 hn4
                          refine wp_skip ?_
                          refine blk_normal ?_
                          first
                          | (have hqq := hp2; refine f_end0 (F' := GF gb g' l' (Z ++ G9)) hl hh rfl (by first | exact keeps_self | exact keeps_left) ?_; exact ⟨rfl, g', l', G9, he9, hg', hl', hp1.trans (by rw [hf]; try rfl), hp2.trans (by rw [hf]; try rfl), rfl⟩)
                          | (have hqq := hc3; refine f_end0 (F' := (gb, C (GtV.c { g with ys := orB g.ys (sh1 m.d) }) 127) :: (g.st.E ++ (g.qE ++ ((g.rb, MD (kInt .u32) g.rl g.rn) :: (g.oE ++ ((g.led, C (LdV.c l) 91) :: (l.d.E ++ Z))))))) hl hh rfl (by repeat (first | exact keeps_nil | apply keeps_cons (by repeat (first | exact find_head | apply find_tail | apply find_skip)) (by first  | rfl) | exact keeps_self | exact keeps_left | apply keeps_app | apply keeps_mv | apply keeps_skip)) ?_; exact ⟨rfl, GO.same (g' := { g with ys := orB g.ys (sh1 m.d) }) (ys_ok hg (orB_bd _ _)) hl9 (by rw [hf]; rfl) (by rw [hf]) rfl⟩)
                          | (refine f_end0 (F' := (gb, C (GtV.c g) 127) :: (g.st.E ++ (g.qE ++ ((g.rb, MD (kInt .u32) g.rl g.rn) :: (g.oE ++ ((g.led, C (LdV.c l) 91) :: (l.d.E ++ Z))))))) hl hh rfl (by repeat (first | exact keeps_nil | apply keeps_cons (by repeat (first | exact find_head | apply find_tail | apply find_skip)) (by first  | rfl) | exact keeps_self | exact keeps_left | apply keeps_app | apply keeps_mv | apply keeps_skip)) ?_; exact ⟨rfl, GO.same hg hl9 (by rw [hf]) (by rw [hf]) rfl⟩)
                    · intro hg20; clear hl; intro hl
                      try simp only [decide_eq_true_eq, decide_eq_false_iff_not, Bool.not_eq_true', Bool.not_eq_false', Bool.not_eq_true, Bool.not_eq_false, Bool.and_eq_true, Bool.or_eq_true, Bool.and_eq_false_iff, Bool.or_eq_false_iff, Bool.not_not, ne_eq, Int.not_lt, Int.not_le, Decidable.not_not, beq_iff_eq, bne_iff_ne] at hg20
                      refine wl (wl_skip hl rfl ⟨_, _, rfl, rfl, rfl⟩ ?_)
                      clear hl a; intro a hl
                      refine wl (wl_skip hl rfl ⟨_, _, rfl, rfl, rfl⟩ ?_)
                      clear hl a; intro a hl
                      refine wl (wl_skip hl rfl ⟨_, _, rfl, rfl, rfl⟩ ?_)
                      clear hl a; intro a hl
                      refine wl (wl_val hl rfl trivial (r_pickF hl rfl rfl) ?_)
                      clear hl a; intro a hl
                      refine wl (wl_val hl rfl trivial (r_move hl rfl) ?_)
                      clear hl a; intro a hl
                      refine wl (wl_skip hl rfl ⟨_, _, rfl, rfl, rfl⟩ ?_)
                      clear hl a; intro a hl
                      refine wl (wl_skip hl rfl ⟨_, _, rfl, rfl, rfl⟩ ?_)
                      clear hl a; intro a hl
                      refine wl (wl_skip hl rfl ⟨_, _, rfl, rfl, rfl⟩ ?_)
                      clear hl a; intro a hl
                      refine wl (wl_skip hl rfl ⟨_, _, rfl, rfl, rfl⟩ ?_)
                      clear hl a; intro a hl
                      refine wl (wl_val hl rfl trivial (r_pickF hl rfl rfl) ?_)
                      clear hl a; intro a hl
                      refine wl (wl_val hl rfl trivial (r_assign hl rfl) ?_)
                      clear hl a; intro a hl
                      refine w_nil ?_
                      have hl2 := hl.add (t := 0) (hl.add (t := 3) (hl.add (t := 4) (hl.add (t := 5) (hl.add (t := 93) (hl.nil) rfl) rfl) rfl) rfl) rfl; clear hl; have hl := hl2; clear hl2
                      refine then_normal ?_
                      refine c_condF hl rfl ?_
                      have hn3 : ¬ (m.k = 6 ∧ g.pl.st.ph = 2 ∧ g.pl.au = true) := fun ⟨q1, q2, q3⟩ => by have q2 : g.st.ph = 2 := q2; have q3 : g.au = true := q3; first | omega | (simp_all; done)
                      refine c_seq ?_
                      refine c_region ?_
                      refine wl (wl_val hl rfl trivial (r_field hl rfl fld38_0) ?_)
                      clear hl a; intro a hl
                      refine wl (w_load hl hh rfl trivial one35 rfl (by repeat (first | exact find_head | apply find_tail | apply find_skip)) (by first | exact gtc_led _ | exact gtc_ep _ | exact gtc_vs _ | exact gtc_is _ | exact gtc_fid _ | exact gtc_ph _ | exact gtc_vd _ | exact gtc_q _ | exact gtc_rf _ | exact gtc_ys _ | exact gtc_dn _ | exact gtc_tk _ | exact gtc_au _ | exact gtc_o _ | exact gtc_off _ | rfl) ?_)
                      clear hl a; intro a hl
                      refine wl (wl_val hl rfl trivial (r_eql hl rfl rfl) ?_)
                      clear hl a; intro a hl
                      refine wl (wl_val hl rfl trivial (r_move hl rfl) ?_)
                      clear hl a; intro a hl
                      refine sl_split (t := 125) hl rfl ?_ ?_
                      · intro hg29; clear hl; intro hl
                        try simp only [decide_eq_true_eq, decide_eq_false_iff_not, Bool.not_eq_true', Bool.not_eq_false', Bool.not_eq_true, Bool.not_eq_false, Bool.and_eq_true, Bool.or_eq_true, Bool.and_eq_false_iff, Bool.or_eq_false_iff, Bool.not_not, ne_eq, Int.not_lt, Int.not_le, Decidable.not_not, beq_iff_eq, bne_iff_ne] at hg29
                        refine wl (wl_val hl rfl ⟨_, _, rfl, rfl, rfl⟩ (r_field hl rfl fld87_1) ?_)
                        clear hl a; intro a hl
                        refine wl (w_load hl hh rfl ⟨_, _, rfl, rfl, rfl⟩ one76 rfl (by repeat (first | exact find_head | apply find_tail | apply find_skip)) (by first | exact gtc_led _ | exact gtc_ep _ | exact gtc_vs _ | exact gtc_is _ | exact gtc_fid _ | exact gtc_ph _ | exact gtc_vd _ | exact gtc_q _ | exact gtc_rf _ | exact gtc_ys _ | exact gtc_dn _ | exact gtc_tk _ | exact gtc_au _ | exact gtc_o _ | exact gtc_off _ | rfl) ?_)
                        clear hl a; intro a hl
                        refine wl (wl_val hl rfl ⟨_, _, rfl, rfl, rfl⟩ (r_eql hl rfl rfl) ?_)
                        clear hl a; intro a hl
                        refine wl (wl_val hl rfl trivial (r_pickT hl rfl rfl) ?_)
                        clear hl a; intro a hl
                        refine wl (wl_val hl rfl trivial (r_move hl rfl) ?_)
                        clear hl a; intro a hl
                        refine sl_split (t := 130) hl rfl ?_ ?_
                        · intro hg30; clear hl; intro hl
                          try simp only [decide_eq_true_eq, decide_eq_false_iff_not, Bool.not_eq_true', Bool.not_eq_false', Bool.not_eq_true, Bool.not_eq_false, Bool.and_eq_true, Bool.or_eq_true, Bool.and_eq_false_iff, Bool.or_eq_false_iff, Bool.not_not, ne_eq, Int.not_lt, Int.not_le, Decidable.not_not, beq_iff_eq, bne_iff_ne] at hg30
                          refine wl (wl_val hl rfl ⟨_, _, rfl, rfl, rfl⟩ (r_move hl rfl) ?_)
                          clear hl a; intro a hl
                          refine wl (wl_val hl rfl ⟨_, _, rfl, rfl, rfl⟩ (r_nilCheck hl rfl) ?_)
                          clear hl a; intro a hl
                          refine wl (wl_val hl rfl ⟨_, _, rfl, rfl, rfl⟩ (r_field hl rfl fld127_8) ?_)
                          clear hl a; intro a hl
                          refine wl (w_load hl hh rfl ⟨_, _, rfl, rfl, rfl⟩ one4 rfl (by repeat (first | exact find_head | apply find_tail | apply find_skip)) (by first | exact gtc_led _ | exact gtc_ep _ | exact gtc_vs _ | exact gtc_is _ | exact gtc_fid _ | exact gtc_ph _ | exact gtc_vd _ | exact gtc_q _ | exact gtc_rf _ | exact gtc_ys _ | exact gtc_dn _ | exact gtc_tk _ | exact gtc_au _ | exact gtc_o _ | exact gtc_off _ | rfl) ?_)
                          clear hl a; intro a hl
                          refine wl (wl_val hl rfl trivial (r_pickT hl rfl rfl) ?_)
                          clear hl a; intro a hl
                          refine wl (wl_val hl rfl trivial (r_assign hl rfl) ?_)
                          clear hl a; intro a hl
                          refine w_nil ?_
                          have hl2 := hl.add (t := 0) (hl.add (t := 3) (hl.add (t := 4) (hl.add (t := 5) (hl.add (t := 121) (hl.nil) rfl) rfl) rfl) rfl) rfl; clear hl; have hl := hl2; clear hl2
                          refine then_normal ?_
                          refine c_cond hl rfl ?_ ?_
                          · intro hc7
                            try simp only [decide_eq_true_eq, decide_eq_false_iff_not, Bool.not_eq_true', Bool.not_eq_false', Bool.not_eq_true, Bool.not_eq_false, Bool.and_eq_true, Bool.or_eq_true, Bool.and_eq_false_iff, Bool.or_eq_false_iff, Bool.not_not, ne_eq, Int.not_lt, Int.not_le, Decidable.not_not, beq_iff_eq, bne_iff_ne] at hc7
                            have hk7 : m.k = 6 ∧ g.pl.st.ph = 3 ∧ g.pl.au = true := ⟨by omega, (show g.st.ph = 3 by omega), (show g.au = true by first | assumption | (simp_all; done))⟩
                            refine c_seq ?_
                            refine c_region ?_
                            refine wl (wl_val hl rfl trivial (r_field hl rfl fld38_5) ?_)
                            clear hl a; intro a hl
                            refine wl (w_load hl hh rfl trivial one36 rfl (by repeat (first | exact find_head | apply find_tail | apply find_skip)) (by first | exact gtc_led _ | exact gtc_ep _ | exact gtc_vs _ | exact gtc_is _ | exact gtc_fid _ | exact gtc_ph _ | exact gtc_vd _ | exact gtc_q _ | exact gtc_rf _ | exact gtc_ys _ | exact gtc_dn _ | exact gtc_tk _ | exact gtc_au _ | exact gtc_o _ | exact gtc_off _ | rfl) ?_)
                            clear hl a; intro a hl
                            refine wl (wl_val hl rfl trivial (r_field hl rfl fld87_0) ?_)
                            clear hl a; intro a hl
                            refine wl (w_load hl hh rfl trivial one36 rfl (by repeat (first | exact find_head | apply find_tail | apply find_skip)) (by first | exact gtc_led _ | exact gtc_ep _ | exact gtc_vs _ | exact gtc_is _ | exact gtc_fid _ | exact gtc_ph _ | exact gtc_vd _ | exact gtc_q _ | exact gtc_rf _ | exact gtc_ys _ | exact gtc_dn _ | exact gtc_tk _ | exact gtc_au _ | exact gtc_o _ | exact gtc_off _ | rfl) ?_)
                            clear hl a; intro a hl
                            refine wl (wl_val hl rfl trivial (r_neq hl rfl rfl) ?_)
                            clear hl a; intro a hl
                            refine wl (wl_val hl rfl trivial (r_move hl rfl) ?_)
                            clear hl a; intro a hl
                            refine sl_split (t := 141) hl rfl ?_ ?_
                            · intro hg31; clear hl; intro hl
                              try simp only [decide_eq_true_eq, decide_eq_false_iff_not, Bool.not_eq_true', Bool.not_eq_false', Bool.not_eq_true, Bool.not_eq_false, Bool.and_eq_true, Bool.or_eq_true, Bool.and_eq_false_iff, Bool.or_eq_false_iff, Bool.not_not, ne_eq, Int.not_lt, Int.not_le, Decidable.not_not, beq_iff_eq, bne_iff_ne] at hg31
                              refine wl (wl_val hl rfl ⟨_, _, rfl, rfl, rfl⟩ (r_field hl rfl fld38_6) ?_)
                              clear hl a; intro a hl
                              refine wl (w_load hl hh rfl ⟨_, _, rfl, rfl, rfl⟩ one36 rfl (by repeat (first | exact find_head | apply find_tail | apply find_skip)) (by first | exact gtc_led _ | exact gtc_ep _ | exact gtc_vs _ | exact gtc_is _ | exact gtc_fid _ | exact gtc_ph _ | exact gtc_vd _ | exact gtc_q _ | exact gtc_rf _ | exact gtc_ys _ | exact gtc_dn _ | exact gtc_tk _ | exact gtc_au _ | exact gtc_o _ | exact gtc_off _ | rfl) ?_)
                              clear hl a; intro a hl
                              refine wl (wl_val hl rfl ⟨_, _, rfl, rfl, rfl⟩ (r_eql hl rfl rfl) ?_)
                              clear hl a; intro a hl
                              refine wl (wl_val hl rfl trivial (r_pickT hl rfl rfl) ?_)
                              clear hl a; intro a hl
                              refine w_nil ?_
                              have hl2 := hl.add (t := 0) (hl.add (t := 5) (hl.add (t := 145) (hl.nil) rfl) rfl) rfl; clear hl; have hl := hl2; clear hl2
                              refine then_normal ?_
                              refine c_cond hl rfl ?_ ?_
                              · intro hc8
                                try simp only [decide_eq_true_eq, decide_eq_false_iff_not, Bool.not_eq_true', Bool.not_eq_false', Bool.not_eq_true, Bool.not_eq_false, Bool.and_eq_true, Bool.or_eq_true, Bool.and_eq_false_iff, Bool.or_eq_false_iff, Bool.not_not, ne_eq, Int.not_lt, Int.not_le, Decidable.not_not, beq_iff_eq, bne_iff_ne] at hc8
                                have hf := dl_7y (l := l.pl) hhd hk7 ⟨(show ¬ m.r = g.st.fid by omega), by omega⟩
                                refine c_region ?_
                                refine wl (wl_val hl rfl trivial (r_move hl rfl) ?_)
                                clear hl a; intro a hl
                                refine wl (wl_val hl rfl trivial (r_move hl rfl) ?_)
                                clear hl a; intro a hl
                                refine wl (w_call hl hh rfl trivial rfl cal52 rfl (confirm_spec Z gb g l hg hl9 (sh1 m.d) hvl) (by repeat (first | exact keeps_nil | apply keeps_cons (by repeat (first | exact find_head | apply find_tail | apply find_skip)) (by first  | rfl) | exact keeps_self | exact keeps_left | apply keeps_app | apply keeps_mv | apply keeps_skip)) trivial ?_)
                                clear hl hh a w; intro vc Fc a w hR hl hh
                                obtain ⟨rfl, g', l', G9, he9, hg', hl', hp1, hp2, rfl⟩ := hR
                                try simp only [List.cons_append, List.nil_append, List.append_assoc, List.append_nil] at hh
                                refine w_nil ?_
                                have hl2 := hl.nil; clear hl; have hl := hl2; clear hl2
                                refine blk_normal ?_
                                first
                                | (have hqq := hp2; refine f_end0 (F' := GF gb g' l' (Z ++ G9)) hl hh rfl (by first | exact keeps_self | exact keeps_left) ?_; exact ⟨rfl, g', l', G9, he9, hg', hl', hp1.trans (by rw [hf]; try rfl), hp2.trans (by rw [hf]; try rfl), rfl⟩)
                                | (have hqq := hc3; refine f_end0 (F' := (gb, C (GtV.c { g with ys := orB g.ys (sh1 m.d) }) 127) :: (g.st.E ++ (g.qE ++ ((g.rb, MD (kInt .u32) g.rl g.rn) :: (g.oE ++ ((g.led, C (LdV.c l) 91) :: (l.d.E ++ Z))))))) hl hh rfl (by repeat (first | exact keeps_nil | apply keeps_cons (by repeat (first | exact find_head | apply find_tail | apply find_skip)) (by first  | rfl) | exact keeps_self | exact keeps_left | apply keeps_app | apply keeps_mv | apply keeps_skip)) ?_; exact ⟨rfl, GO.same (g' := { g with ys := orB g.ys (sh1 m.d) }) (ys_ok hg (orB_bd _ _)) hl9 (by rw [hf]; rfl) (by rw [hf]) rfl⟩)
                                | (refine f_end0 (F' := (gb, C (GtV.c g) 127) :: (g.st.E ++ (g.qE ++ ((g.rb, MD (kInt .u32) g.rl g.rn) :: (g.oE ++ ((g.led, C (LdV.c l) 91) :: (l.d.E ++ Z))))))) hl hh rfl (by repeat (first | exact keeps_nil | apply keeps_cons (by repeat (first | exact find_head | apply find_tail | apply find_skip)) (by first  | rfl) | exact keeps_self | exact keeps_left | apply keeps_app | apply keeps_mv | apply keeps_skip)) ?_; exact ⟨rfl, GO.same hg hl9 (by rw [hf]) (by rw [hf]) rfl⟩)
                              · intro hc8
                                try simp only [decide_eq_true_eq, decide_eq_false_iff_not, Bool.not_eq_true', Bool.not_eq_false', Bool.not_eq_true, Bool.not_eq_false, Bool.and_eq_true, Bool.or_eq_true, Bool.and_eq_false_iff, Bool.or_eq_false_iff, Bool.not_not, ne_eq, Int.not_lt, Int.not_le, Decidable.not_not, beq_iff_eq, bne_iff_ne] at hc8
                                have hf := dl_7n (l := l.pl) hhd hk7 (fun ⟨q1, q2⟩ => by have q1 : ¬ m.r = g.st.fid := q1; omega)
                                refine wp_skip ?_
                                refine blk_normal ?_
                                first
                                | (have hqq := hp2; refine f_end0 (F' := GF gb g' l' (Z ++ G9)) hl hh rfl (by first | exact keeps_self | exact keeps_left) ?_; exact ⟨rfl, g', l', G9, he9, hg', hl', hp1.trans (by rw [hf]; try rfl), hp2.trans (by rw [hf]; try rfl), rfl⟩)
                                | (have hqq := hc3; refine f_end0 (F' := (gb, C (GtV.c { g with ys := orB g.ys (sh1 m.d) }) 127) :: (g.st.E ++ (g.qE ++ ((g.rb, MD (kInt .u32) g.rl g.rn) :: (g.oE ++ ((g.led, C (LdV.c l) 91) :: (l.d.E ++ Z))))))) hl hh rfl (by repeat (first | exact keeps_nil | apply keeps_cons (by repeat (first | exact find_head | apply find_tail | apply find_skip)) (by first  | rfl) | exact keeps_self | exact keeps_left | apply keeps_app | apply keeps_mv | apply keeps_skip)) ?_; exact ⟨rfl, GO.same (g' := { g with ys := orB g.ys (sh1 m.d) }) (ys_ok hg (orB_bd _ _)) hl9 (by rw [hf]; rfl) (by rw [hf]) rfl⟩)
                                | (refine f_end0 (F' := (gb, C (GtV.c g) 127) :: (g.st.E ++ (g.qE ++ ((g.rb, MD (kInt .u32) g.rl g.rn) :: (g.oE ++ ((g.led, C (LdV.c l) 91) :: (l.d.E ++ Z))))))) hl hh rfl (by repeat (first | exact keeps_nil | apply keeps_cons (by repeat (first | exact find_head | apply find_tail | apply find_skip)) (by first  | rfl) | exact keeps_self | exact keeps_left | apply keeps_app | apply keeps_mv | apply keeps_skip)) ?_; exact ⟨rfl, GO.same hg hl9 (by rw [hf]) (by rw [hf]) rfl⟩)
                            · intro hg31; clear hl; intro hl
                              try simp only [decide_eq_true_eq, decide_eq_false_iff_not, Bool.not_eq_true', Bool.not_eq_false', Bool.not_eq_true, Bool.not_eq_false, Bool.and_eq_true, Bool.or_eq_true, Bool.and_eq_false_iff, Bool.or_eq_false_iff, Bool.not_not, ne_eq, Int.not_lt, Int.not_le, Decidable.not_not, beq_iff_eq, bne_iff_ne] at hg31
                              refine wl (wl_skip hl rfl ⟨_, _, rfl, rfl, rfl⟩ ?_)
                              clear hl a; intro a hl
                              refine wl (wl_skip hl rfl ⟨_, _, rfl, rfl, rfl⟩ ?_)
                              clear hl a; intro a hl
                              refine wl (wl_skip hl rfl ⟨_, _, rfl, rfl, rfl⟩ ?_)
                              clear hl a; intro a hl
                              refine wl (wl_val hl rfl trivial (r_pickF hl rfl rfl) ?_)
                              clear hl a; intro a hl
                              refine w_nil ?_
                              have hl2 := hl.add (t := 0) (hl.add (t := 5) (hl.add (t := 145) (hl.nil) rfl) rfl) rfl; clear hl; have hl := hl2; clear hl2
                              refine then_normal ?_
                              refine c_condF hl rfl ?_
                              have hf := dl_7n (l := l.pl) hhd hk7 (fun ⟨q1, q2⟩ => by have q1 : ¬ m.r = g.st.fid := q1; omega)
                              refine wp_skip ?_
                              refine blk_normal ?_
                              first
                              | (have hqq := hp2; refine f_end0 (F' := GF gb g' l' (Z ++ G9)) hl hh rfl (by first | exact keeps_self | exact keeps_left) ?_; exact ⟨rfl, g', l', G9, he9, hg', hl', hp1.trans (by rw [hf]; try rfl), hp2.trans (by rw [hf]; try rfl), rfl⟩)
                              | (have hqq := hc3; refine f_end0 (F' := (gb, C (GtV.c { g with ys := orB g.ys (sh1 m.d) }) 127) :: (g.st.E ++ (g.qE ++ ((g.rb, MD (kInt .u32) g.rl g.rn) :: (g.oE ++ ((g.led, C (LdV.c l) 91) :: (l.d.E ++ Z))))))) hl hh rfl (by repeat (first | exact keeps_nil | apply keeps_cons (by repeat (first | exact find_head | apply find_tail | apply find_skip)) (by first  | rfl) | exact keeps_self | exact keeps_left | apply keeps_app | apply keeps_mv | apply keeps_skip)) ?_; exact ⟨rfl, GO.same (g' := { g with ys := orB g.ys (sh1 m.d) }) (ys_ok hg (orB_bd _ _)) hl9 (by rw [hf]; rfl) (by rw [hf]) rfl⟩)
                              | (refine f_end0 (F' := (gb, C (GtV.c g) 127) :: (g.st.E ++ (g.qE ++ ((g.rb, MD (kInt .u32) g.rl g.rn) :: (g.oE ++ ((g.led, C (LdV.c l) 91) :: (l.d.E ++ Z))))))) hl hh rfl (by repeat (first | exact keeps_nil | apply keeps_cons (by repeat (first | exact find_head | apply find_tail | apply find_skip)) (by first  | rfl) | exact keeps_self | exact keeps_left | apply keeps_app | apply keeps_mv | apply keeps_skip)) ?_; exact ⟨rfl, GO.same hg hl9 (by rw [hf]) (by rw [hf]) rfl⟩)
                          · intro hc7
                            try simp only [decide_eq_true_eq, decide_eq_false_iff_not, Bool.not_eq_true', Bool.not_eq_false', Bool.not_eq_true, Bool.not_eq_false, Bool.and_eq_true, Bool.or_eq_true, Bool.and_eq_false_iff, Bool.or_eq_false_iff, Bool.not_not, ne_eq, Int.not_lt, Int.not_le, Decidable.not_not, beq_iff_eq, bne_iff_ne] at hc7
                            have hn4 : ¬ (m.k = 6 ∧ g.pl.st.ph = 3 ∧ g.pl.au = true) := fun ⟨q1, q2, q3⟩ => by have q2 : g.st.ph = 3 := q2; have q3 : g.au = true := q3; first | omega | (simp_all; done)
                            have hf := dl_x (l := l.pl) hhd hn1 hn2 hn3 hn4
                            refine wp_skip ?_
                            refine blk_normal ?_
                            first
                            | (have hqq := hp2; refine f_end0 (F' := GF gb g' l' (Z ++ G9)) hl hh rfl (by first | exact keeps_self | exact keeps_left) ?_; exact ⟨rfl, g', l', G9, he9, hg', hl', hp1.trans (by rw [hf]; try rfl), hp2.trans (by rw [hf]; try rfl), rfl⟩)
                            | (have hqq := hc3; refine f_end0 (F' := (gb, C (GtV.c { g with ys := orB g.ys (sh1 m.d) }) 127) :: (g.st.E ++ (g.qE ++ ((g.rb, MD (kInt .u32) g.rl g.rn) :: (g.oE ++ ((g.led, C (LdV.c l) 91) :: (l.d.E ++ Z))))))) hl hh rfl (by repeat (first | exact keeps_nil | apply keeps_cons (by repeat (first | exact find_head | apply find_tail | apply find_skip)) (by first  | rfl) | exact keeps_self | exact keeps_left | apply keeps_app | apply keeps_mv | apply keeps_skip)) ?_; exact ⟨rfl, GO.same (g' := { g with ys := orB g.ys (sh1 m.d) }) (ys_ok hg (orB_bd _ _)) hl9 (by rw [hf]; rfl) (by rw [hf]) rfl⟩)
                            | (refine f_end0 (F' := (gb, C (GtV.c g) 127) :: (g.st.E ++ (g.qE ++ ((g.rb, MD (kInt .u32) g.rl g.rn) :: (g.oE ++ ((g.led, C (LdV.c l) 91) :: (l.d.E ++ Z))))))) hl hh rfl (by repeat (first | exact keeps_nil | apply keeps_cons (by repeat (first | exact find_head | apply find_tail | apply find_skip)) (by first  | rfl) | exact keeps_self | exact keeps_left | apply keeps_app | apply keeps_mv | apply keeps_skip)) ?_; exact ⟨rfl, GO.same hg hl9 (by rw [hf]) (by rw [hf]) rfl⟩)
                        · intro hg30; clear hl; intro hl
                          try simp only [decide_eq_true_eq, decide_eq_false_iff_not, Bool.not_eq_true', Bool.not_eq_false', Bool.not_eq_true, Bool.not_eq_false, Bool.and_eq_true, Bool.or_eq_true, Bool.and_eq_false_iff, Bool.or_eq_false_iff, Bool.not_not, ne_eq, Int.not_lt, Int.not_le, Decidable.not_not, beq_iff_eq, bne_iff_ne] at hg30
                          refine wl (wl_skip hl rfl ⟨_, _, rfl, rfl, rfl⟩ ?_)
                          clear hl a; intro a hl
                          refine wl (wl_skip hl rfl ⟨_, _, rfl, rfl, rfl⟩ ?_)
                          clear hl a; intro a hl
                          refine wl (wl_skip hl rfl ⟨_, _, rfl, rfl, rfl⟩ ?_)
                          clear hl a; intro a hl
                          refine wl (wl_skip hl rfl ⟨_, _, rfl, rfl, rfl⟩ ?_)
                          clear hl a; intro a hl
                          refine wl (wl_val hl rfl trivial (r_pickF hl rfl rfl) ?_)
                          clear hl a; intro a hl
                          refine wl (wl_val hl rfl trivial (r_assign hl rfl) ?_)
                          clear hl a; intro a hl
                          refine w_nil ?_
                          have hl2 := hl.add (t := 0) (hl.add (t := 3) (hl.add (t := 4) (hl.add (t := 5) (hl.add (t := 121) (hl.nil) rfl) rfl) rfl) rfl) rfl; clear hl; have hl := hl2; clear hl2
                          refine then_normal ?_
                          refine c_condF hl rfl ?_
                          have hn4 : ¬ (m.k = 6 ∧ g.pl.st.ph = 3 ∧ g.pl.au = true) := fun ⟨q1, q2, q3⟩ => by have q2 : g.st.ph = 3 := q2; have q3 : g.au = true := q3; first | omega | (simp_all; done)
                          have hf := dl_x (l := l.pl) hhd hn1 hn2 hn3 hn4
                          refine wp_skip ?_
                          refine blk_normal ?_
                          first
                          | (have hqq := hp2; refine f_end0 (F' := GF gb g' l' (Z ++ G9)) hl hh rfl (by first | exact keeps_self | exact keeps_left) ?_; exact ⟨rfl, g', l', G9, he9, hg', hl', hp1.trans (by rw [hf]; try rfl), hp2.trans (by rw [hf]; try rfl), rfl⟩)
                          | (have hqq := hc3; refine f_end0 (F' := (gb, C (GtV.c { g with ys := orB g.ys (sh1 m.d) }) 127) :: (g.st.E ++ (g.qE ++ ((g.rb, MD (kInt .u32) g.rl g.rn) :: (g.oE ++ ((g.led, C (LdV.c l) 91) :: (l.d.E ++ Z))))))) hl hh rfl (by repeat (first | exact keeps_nil | apply keeps_cons (by repeat (first | exact find_head | apply find_tail | apply find_skip)) (by first  | rfl) | exact keeps_self | exact keeps_left | apply keeps_app | apply keeps_mv | apply keeps_skip)) ?_; exact ⟨rfl, GO.same (g' := { g with ys := orB g.ys (sh1 m.d) }) (ys_ok hg (orB_bd _ _)) hl9 (by rw [hf]; rfl) (by rw [hf]) rfl⟩)
                          | (refine f_end0 (F' := (gb, C (GtV.c g) 127) :: (g.st.E ++ (g.qE ++ ((g.rb, MD (kInt .u32) g.rl g.rn) :: (g.oE ++ ((g.led, C (LdV.c l) 91) :: (l.d.E ++ Z))))))) hl hh rfl (by repeat (first | exact keeps_nil | apply keeps_cons (by repeat (first | exact find_head | apply find_tail | apply find_skip)) (by first  | rfl) | exact keeps_self | exact keeps_left | apply keeps_app | apply keeps_mv | apply keeps_skip)) ?_; exact ⟨rfl, GO.same hg hl9 (by rw [hf]) (by rw [hf]) rfl⟩)
                      · intro hg29; clear hl; intro hl
                        try simp only [decide_eq_true_eq, decide_eq_false_iff_not, Bool.not_eq_true', Bool.not_eq_false', Bool.not_eq_true, Bool.not_eq_false, Bool.and_eq_true, Bool.or_eq_true, Bool.and_eq_false_iff, Bool.or_eq_false_iff, Bool.not_not, ne_eq, Int.not_lt, Int.not_le, Decidable.not_not, beq_iff_eq, bne_iff_ne] at hg29
                        refine wl (wl_skip hl rfl ⟨_, _, rfl, rfl, rfl⟩ ?_)
                        clear hl a; intro a hl
                        refine wl (wl_skip hl rfl ⟨_, _, rfl, rfl, rfl⟩ ?_)
                        clear hl a; intro a hl
                        refine wl (wl_skip hl rfl ⟨_, _, rfl, rfl, rfl⟩ ?_)
                        clear hl a; intro a hl
                        refine wl (wl_val hl rfl trivial (r_pickF hl rfl rfl) ?_)
                        clear hl a; intro a hl
                        refine wl (wl_val hl rfl trivial (r_move hl rfl) ?_)
                        clear hl a; intro a hl
                        refine wl (wl_skip hl rfl ⟨_, _, rfl, rfl, rfl⟩ ?_)
                        clear hl a; intro a hl
                        refine wl (wl_skip hl rfl ⟨_, _, rfl, rfl, rfl⟩ ?_)
                        clear hl a; intro a hl
                        refine wl (wl_skip hl rfl ⟨_, _, rfl, rfl, rfl⟩ ?_)
                        clear hl a; intro a hl
                        refine wl (wl_skip hl rfl ⟨_, _, rfl, rfl, rfl⟩ ?_)
                        clear hl a; intro a hl
                        refine wl (wl_val hl rfl trivial (r_pickF hl rfl rfl) ?_)
                        clear hl a; intro a hl
                        refine wl (wl_val hl rfl trivial (r_assign hl rfl) ?_)
                        clear hl a; intro a hl
                        refine w_nil ?_
                        have hl2 := hl.add (t := 0) (hl.add (t := 3) (hl.add (t := 4) (hl.add (t := 5) (hl.add (t := 121) (hl.nil) rfl) rfl) rfl) rfl) rfl; clear hl; have hl := hl2; clear hl2
                        refine then_normal ?_
                        refine c_condF hl rfl ?_
                        have hn4 : ¬ (m.k = 6 ∧ g.pl.st.ph = 3 ∧ g.pl.au = true) := fun ⟨q1, q2, q3⟩ => by have q2 : g.st.ph = 3 := q2; have q3 : g.au = true := q3; first | omega | (simp_all; done)
                        have hf := dl_x (l := l.pl) hhd hn1 hn2 hn3 hn4
                        refine wp_skip ?_
                        refine blk_normal ?_
                        first
                        | (have hqq := hp2; refine f_end0 (F' := GF gb g' l' (Z ++ G9)) hl hh rfl (by first | exact keeps_self | exact keeps_left) ?_; exact ⟨rfl, g', l', G9, he9, hg', hl', hp1.trans (by rw [hf]; try rfl), hp2.trans (by rw [hf]; try rfl), rfl⟩)
                        | (have hqq := hc3; refine f_end0 (F' := (gb, C (GtV.c { g with ys := orB g.ys (sh1 m.d) }) 127) :: (g.st.E ++ (g.qE ++ ((g.rb, MD (kInt .u32) g.rl g.rn) :: (g.oE ++ ((g.led, C (LdV.c l) 91) :: (l.d.E ++ Z))))))) hl hh rfl (by repeat (first | exact keeps_nil | apply keeps_cons (by repeat (first | exact find_head | apply find_tail | apply find_skip)) (by first  | rfl) | exact keeps_self | exact keeps_left | apply keeps_app | apply keeps_mv | apply keeps_skip)) ?_; exact ⟨rfl, GO.same (g' := { g with ys := orB g.ys (sh1 m.d) }) (ys_ok hg (orB_bd _ _)) hl9 (by rw [hf]; rfl) (by rw [hf]) rfl⟩)
                        | (refine f_end0 (F' := (gb, C (GtV.c g) 127) :: (g.st.E ++ (g.qE ++ ((g.rb, MD (kInt .u32) g.rl g.rn) :: (g.oE ++ ((g.led, C (LdV.c l) 91) :: (l.d.E ++ Z))))))) hl hh rfl (by repeat (first | exact keeps_nil | apply keeps_cons (by repeat (first | exact find_head | apply find_tail | apply find_skip)) (by first  | rfl) | exact keeps_self | exact keeps_left | apply keeps_app | apply keeps_mv | apply keeps_skip)) ?_; exact ⟨rfl, GO.same hg hl9 (by rw [hf]) (by rw [hf]) rfl⟩)
                · intro hg6; clear hl; intro hl
                  try simp only [decide_eq_true_eq, decide_eq_false_iff_not, Bool.not_eq_true', Bool.not_eq_false', Bool.not_eq_true, Bool.not_eq_false, Bool.and_eq_true, Bool.or_eq_true, Bool.and_eq_false_iff, Bool.or_eq_false_iff, Bool.not_not, ne_eq, Int.not_lt, Int.not_le, Decidable.not_not, beq_iff_eq, bne_iff_ne] at hg6
                  refine wl (wl_skip hl rfl ⟨_, _, rfl, rfl, rfl⟩ ?_)
                  clear hl a; intro a hl
                  refine wl (wl_skip hl rfl ⟨_, _, rfl, rfl, rfl⟩ ?_)
                  clear hl a; intro a hl
                  refine wl (wl_skip hl rfl ⟨_, _, rfl, rfl, rfl⟩ ?_)
                  clear hl a; intro a hl
                  refine wl (wl_val hl rfl trivial (r_pickF hl rfl rfl) ?_)
                  clear hl a; intro a hl
                  refine wl (wl_val hl rfl trivial (r_move hl rfl) ?_)
                  clear hl a; intro a hl
                  refine wl (wl_skip hl rfl ⟨_, _, rfl, rfl, rfl⟩ ?_)
                  clear hl a; intro a hl
                  refine wl (wl_skip hl rfl ⟨_, _, rfl, rfl, rfl⟩ ?_)
                  clear hl a; intro a hl
                  refine wl (wl_skip hl rfl ⟨_, _, rfl, rfl, rfl⟩ ?_)
                  clear hl a; intro a hl
                  refine wl (wl_skip hl rfl ⟨_, _, rfl, rfl, rfl⟩ ?_)
                  clear hl a; intro a hl
                  refine wl (wl_skip hl rfl ⟨_, _, rfl, rfl, rfl⟩ ?_)
                  clear hl a; intro a hl
                  refine wl (wl_val hl rfl trivial (r_pickF hl rfl rfl) ?_)
                  clear hl a; intro a hl
                  refine wl (wl_val hl rfl trivial (r_assign hl rfl) ?_)
                  clear hl a; intro a hl
                  refine w_nil ?_
                  have hl2 := hl.add (t := 0) (hl.add (t := 3) (hl.add (t := 4) (hl.add (t := 5) (hl.add (t := 74) (hl.nil) rfl) rfl) rfl) rfl) rfl; clear hl; have hl := hl2; clear hl2
                  refine then_normal ?_
                  refine c_condF hl rfl ?_
                  have hn2 : ¬ (m.k = 5 ∧ ¬ g.pl.st.ph = 1 ∧ g.pl.au = false) := fun ⟨q1, q2, q3⟩ => by have q2 : ¬ g.st.ph = 1 := q2; have q3 : g.au = false := q3; first | omega | (simp_all; done)
                  refine c_seq ?_
                  refine c_region ?_
                  refine wl (wl_val hl rfl trivial (r_field hl rfl fld38_0) ?_)
                  clear hl a; intro a hl
                  refine wl (w_load hl hh rfl trivial one35 rfl (by repeat (first | exact find_head | apply find_tail | apply find_skip)) (by first | exact gtc_led _ | exact gtc_ep _ | exact gtc_vs _ | exact gtc_is _ | exact gtc_fid _ | exact gtc_ph _ | exact gtc_vd _ | exact gtc_q _ | exact gtc_rf _ | exact gtc_ys _ | exact gtc_dn _ | exact gtc_tk _ | exact gtc_au _ | exact gtc_o _ | exact gtc_off _ | rfl) ?_)
                  clear hl a; intro a hl
                  refine wl (wl_val hl rfl trivial (r_eql hl rfl rfl) ?_)
                  clear hl a; intro a hl
                  refine wl (wl_val hl rfl trivial (r_move hl rfl) ?_)
                  clear hl a; intro a hl
                  refine sl_split (t := 97) hl rfl ?_ ?_
                  · intro hg32; clear hl; intro hl
                    try simp only [decide_eq_true_eq, decide_eq_false_iff_not, Bool.not_eq_true', Bool.not_eq_false', Bool.not_eq_true, Bool.not_eq_false, Bool.and_eq_true, Bool.or_eq_true, Bool.and_eq_false_iff, Bool.or_eq_false_iff, Bool.not_not, ne_eq, Int.not_lt, Int.not_le, Decidable.not_not, beq_iff_eq, bne_iff_ne] at hg32
                    refine wl (wl_val hl rfl ⟨_, _, rfl, rfl, rfl⟩ (r_field hl rfl fld87_1) ?_)
                    clear hl a; intro a hl
                    refine wl (w_load hl hh rfl ⟨_, _, rfl, rfl, rfl⟩ one76 rfl (by repeat (first | exact find_head | apply find_tail | apply find_skip)) (by first | exact gtc_led _ | exact gtc_ep _ | exact gtc_vs _ | exact gtc_is _ | exact gtc_fid _ | exact gtc_ph _ | exact gtc_vd _ | exact gtc_q _ | exact gtc_rf _ | exact gtc_ys _ | exact gtc_dn _ | exact gtc_tk _ | exact gtc_au _ | exact gtc_o _ | exact gtc_off _ | rfl) ?_)
                    clear hl a; intro a hl
                    refine wl (wl_val hl rfl ⟨_, _, rfl, rfl, rfl⟩ (r_eql hl rfl rfl) ?_)
                    clear hl a; intro a hl
                    refine wl (wl_val hl rfl trivial (r_pickT hl rfl rfl) ?_)
                    clear hl a; intro a hl
                    refine wl (wl_val hl rfl trivial (r_move hl rfl) ?_)
                    clear hl a; intro a hl
                    refine sl_split (t := 102) hl rfl ?_ ?_
                    · intro hg33; clear hl; intro hl
                      try simp only [decide_eq_true_eq, decide_eq_false_iff_not, Bool.not_eq_true', Bool.not_eq_false', Bool.not_eq_true, Bool.not_eq_false, Bool.and_eq_true, Bool.or_eq_true, Bool.and_eq_false_iff, Bool.or_eq_false_iff, Bool.not_not, ne_eq, Int.not_lt, Int.not_le, Decidable.not_not, beq_iff_eq, bne_iff_ne] at hg33
                      refine wl (wl_val hl rfl ⟨_, _, rfl, rfl, rfl⟩ (r_move hl rfl) ?_)
                      clear hl a; intro a hl
                      refine wl (wl_val hl rfl ⟨_, _, rfl, rfl, rfl⟩ (r_nilCheck hl rfl) ?_)
                      clear hl a; intro a hl
                      refine wl (wl_val hl rfl ⟨_, _, rfl, rfl, rfl⟩ (r_field hl rfl fld127_8) ?_)
                      clear hl a; intro a hl
                      refine wl (w_load hl hh rfl ⟨_, _, rfl, rfl, rfl⟩ one4 rfl (by repeat (first | exact find_head | apply find_tail | apply find_skip)) (by first | exact gtc_led _ | exact gtc_ep _ | exact gtc_vs _ | exact gtc_is _ | exact gtc_fid _ | exact gtc_ph _ | exact gtc_vd _ | exact gtc_q _ | exact gtc_rf _ | exact gtc_ys _ | exact gtc_dn _ | exact gtc_tk _ | exact gtc_au _ | exact gtc_o _ | exact gtc_off _ | rfl) ?_)
                      clear hl a; intro a hl
                      refine wl (wl_val hl rfl trivial (r_pickT hl rfl rfl) ?_)
                      clear hl a; intro a hl
                      refine wl (wl_val hl rfl trivial (r_assign hl rfl) ?_)
                      clear hl a; intro a hl
                      refine w_nil ?_
                      have hl2 := hl.add (t := 0) (hl.add (t := 3) (hl.add (t := 4) (hl.add (t := 5) (hl.add (t := 93) (hl.nil) rfl) rfl) rfl) rfl) rfl; clear hl; have hl := hl2; clear hl2
                      refine then_normal ?_
                      refine c_cond hl rfl ?_ ?_
                      · intro hc5
                        try simp only [decide_eq_true_eq, decide_eq_false_iff_not, Bool.not_eq_true', Bool.not_eq_false', Bool.not_eq_true, Bool.not_eq_false, Bool.and_eq_true, Bool.or_eq_true, Bool.and_eq_false_iff, Bool.or_eq_false_iff, Bool.not_not, ne_eq, Int.not_lt, Int.not_le, Decidable.not_not, beq_iff_eq, bne_iff_ne] at hc5
                        have hk6 : m.k = 6 ∧ g.pl.st.ph = 2 ∧ g.pl.au = true := ⟨by omega, (show g.st.ph = 2 by omega), (show g.au = true by first | assumption | (simp_all; done))⟩
                        refine c_seq ?_
                        refine c_region ?_
                        refine wl (wl_val hl rfl trivial (r_field hl rfl fld38_5) ?_)
                        clear hl a; intro a hl
                        refine wl (w_load hl hh rfl trivial one36 rfl (by repeat (first | exact find_head | apply find_tail | apply find_skip)) (by first | exact gtc_led _ | exact gtc_ep _ | exact gtc_vs _ | exact gtc_is _ | exact gtc_fid _ | exact gtc_ph _ | exact gtc_vd _ | exact gtc_q _ | exact gtc_rf _ | exact gtc_ys _ | exact gtc_dn _ | exact gtc_tk _ | exact gtc_au _ | exact gtc_o _ | exact gtc_off _ | rfl) ?_)
                        clear hl a; intro a hl
                        refine wl (wl_val hl rfl trivial (r_field hl rfl fld87_0) ?_)
                        clear hl a; intro a hl
                        refine wl (w_load hl hh rfl trivial one36 rfl (by repeat (first | exact find_head | apply find_tail | apply find_skip)) (by first | exact gtc_led _ | exact gtc_ep _ | exact gtc_vs _ | exact gtc_is _ | exact gtc_fid _ | exact gtc_ph _ | exact gtc_vd _ | exact gtc_q _ | exact gtc_rf _ | exact gtc_ys _ | exact gtc_dn _ | exact gtc_tk _ | exact gtc_au _ | exact gtc_o _ | exact gtc_off _ | rfl) ?_)
                        clear hl a; intro a hl
                        refine wl (wl_val hl rfl trivial (r_eql hl rfl rfl) ?_)
                        clear hl a; intro a hl
                        refine wl (wl_val hl rfl trivial (r_move hl rfl) ?_)
                        clear hl a; intro a hl
                        refine sl_split (t := 113) hl rfl ?_ ?_
                        · intro hg34; clear hl; intro hl
                          try simp only [decide_eq_true_eq, decide_eq_false_iff_not, Bool.not_eq_true', Bool.not_eq_false', Bool.not_eq_true, Bool.not_eq_false, Bool.and_eq_true, Bool.or_eq_true, Bool.and_eq_false_iff, Bool.or_eq_false_iff, Bool.not_not, ne_eq, Int.not_lt, Int.not_le, Decidable.not_not, beq_iff_eq, bne_iff_ne] at hg34
                          refine wl (wl_val hl rfl ⟨_, _, rfl, rfl, rfl⟩ (r_field hl rfl fld38_6) ?_)
                          clear hl a; intro a hl
                          refine wl (w_load hl hh rfl ⟨_, _, rfl, rfl, rfl⟩ one36 rfl (by repeat (first | exact find_head | apply find_tail | apply find_skip)) (by first | exact gtc_led _ | exact gtc_ep _ | exact gtc_vs _ | exact gtc_is _ | exact gtc_fid _ | exact gtc_ph _ | exact gtc_vd _ | exact gtc_q _ | exact gtc_rf _ | exact gtc_ys _ | exact gtc_dn _ | exact gtc_tk _ | exact gtc_au _ | exact gtc_o _ | exact gtc_off _ | rfl) ?_)
                          clear hl a; intro a hl
                          refine wl (wl_val hl rfl ⟨_, _, rfl, rfl, rfl⟩ (r_eql hl rfl rfl) ?_)
                          clear hl a; intro a hl
                          refine wl (wl_val hl rfl trivial (r_pickT hl rfl rfl) ?_)
                          clear hl a; intro a hl
                          refine w_nil ?_
                          have hl2 := hl.add (t := 0) (hl.add (t := 5) (hl.add (t := 117) (hl.nil) rfl) rfl) rfl; clear hl; have hl := hl2; clear hl2
                          refine then_normal ?_
                          refine c_cond hl rfl ?_ ?_
                          · intro hc6
                            try simp only [decide_eq_true_eq, decide_eq_false_iff_not, Bool.not_eq_true', Bool.not_eq_false', Bool.not_eq_true, Bool.not_eq_false, Bool.and_eq_true, Bool.or_eq_true, Bool.and_eq_false_iff, Bool.or_eq_false_iff, Bool.not_not, ne_eq, Int.not_lt, Int.not_le, Decidable.not_not, beq_iff_eq, bne_iff_ne] at hc6
                            have hf := dl_6y (l := l.pl) hhd hk6 ⟨(show m.r = g.st.fid by omega), by omega⟩
                            refine c_region ?_
                            refine wl (wl_val hl rfl trivial (r_move hl rfl) ?_)
                            clear hl a; intro a hl
                            refine wl (wl_val hl rfl trivial (r_move hl rfl) ?_)
                            clear hl a; intro a hl
                            refine wl (w_call hl hh rfl trivial rfl cal52 rfl (confirm_spec Z gb g l hg hl9 (sh1 m.d) hvl) (by repeat (first | exact keeps_nil | apply keeps_cons (by repeat (first | exact find_head | apply find_tail | apply find_skip)) (by first  | rfl) | exact keeps_self | exact keeps_left | apply keeps_app | apply keeps_mv | apply keeps_skip)) trivial ?_)
                            clear hl hh a w; intro vc Fc a w hR hl hh
                            obtain ⟨rfl, g', l', G9, he9, hg', hl', hp1, hp2, rfl⟩ := hR
                            try simp only [List.cons_append, List.nil_append, List.append_assoc, List.append_nil] at hh
                            refine w_nil ?_
                            have hl2 := hl.nil; clear hl; have hl := hl2; clear hl2
                            refine blk_normal ?_
                            first
                            | (have hqq := hp2; refine f_end0 (F' := GF gb g' l' (Z ++ G9)) hl hh rfl (by first | exact keeps_self | exact keeps_left) ?_; exact ⟨rfl, g', l', G9, he9, hg', hl', hp1.trans (by rw [hf]; try rfl), hp2.trans (by rw [hf]; try rfl), rfl⟩)
                            | (have hqq := hc3; refine f_end0 (F' := (gb, C (GtV.c { g with ys := orB g.ys (sh1 m.d) }) 127) :: (g.st.E ++ (g.qE ++ ((g.rb, MD (kInt .u32) g.rl g.rn) :: (g.oE ++ ((g.led, C (LdV.c l) 91) :: (l.d.E ++ Z))))))) hl hh rfl (by repeat (first | exact keeps_nil | apply keeps_cons (by repeat (first | exact find_head | apply find_tail | apply find_skip)) (by first  | rfl) | exact keeps_self | exact keeps_left | apply keeps_app | apply keeps_mv | apply keeps_skip)) ?_; exact ⟨rfl, GO.same (g' := { g with ys := orB g.ys (sh1 m.d) }) (ys_ok hg (orB_bd _ _)) hl9 (by rw [hf]; rfl) (by rw [hf]) rfl⟩)
                            | (refine f_end0 (F' := (gb, C (GtV.c g) 127) :: (g.st.E ++ (g.qE ++ ((g.rb, MD (kInt .u32) g.rl g.rn) :: (g.oE ++ ((g.led, C (LdV.c l) 91) :: (l.d.E ++ Z))))))) hl hh rfl (by repeat (first | exact keeps_nil | apply keeps_cons (by repeat (first | exact find_head | apply find_tail | apply find_skip)) (by first  | rfl) | exact keeps_self | exact keeps_left | apply keeps_app | apply keeps_mv | apply keeps_skip)) ?_; exact ⟨rfl, GO.same hg hl9 (by rw [hf]) (by rw [hf]) rfl⟩)
                          · intro hc6
                            try simp only [decide_eq_true_eq, decide_eq_false_iff_not, Bool.not_eq_true', Bool.not_eq_false', Bool.not_eq_true, Bool.not_eq_false, Bool.and_eq_true, Bool.or_eq_true, Bool.and_eq_false_iff, Bool.or_eq_false_iff, Bool.not_not, ne_eq, Int.not_lt, Int.not_le, Decidable.not_not, beq_iff_eq, bne_iff_ne] at hc6
                            have hf := dl_6n (l := l.pl) hhd hk6 (fun ⟨q1, q2⟩ => by have q1 : m.r = g.st.fid := q1; omega)
                            refine wp_skip ?_
                            refine blk_normal ?_
                            first
                            | (have hqq := hp2; refine f_end0 (F' := GF gb g' l' (Z ++ G9)) hl hh rfl (by first | exact keeps_self | exact keeps_left) ?_; exact ⟨rfl, g', l', G9, he9, hg', hl', hp1.trans (by rw [hf]; try rfl), hp2.trans (by rw [hf]; try rfl), rfl⟩)
                            | (have hqq := hc3; refine f_end0 (F' := (gb, C (GtV.c { g with ys := orB g.ys (sh1 m.d) }) 127) :: (g.st.E ++ (g.qE ++ ((g.rb, MD (kInt .u32) g.rl g.rn) :: (g.oE ++ ((g.led, C (LdV.c l) 91) :: (l.d.E ++ Z))))))) hl hh rfl (by repeat (first | exact keeps_nil | apply keeps_cons (by repeat (first | exact find_head | apply find_tail | apply find_skip)) (by first  | rfl) | exact keeps_self | exact keeps_left | apply keeps_app | apply keeps_mv | apply keeps_skip)) ?_; exact ⟨rfl, GO.same (g' := { g with ys := orB g.ys (sh1 m.d) }) (ys_ok hg (orB_bd _ _)) hl9 (by rw [hf]; rfl) (by rw [hf]) rfl⟩)
                            | (refine f_end0 (F' := (gb, C (GtV.c g) 127) :: (g.st.E ++ (g.qE ++ ((g.rb, MD (kInt .u32) g.rl g.rn) :: (g.oE ++ ((g.led, C (LdV.c l) 91) :: (l.d.E ++ Z))))))) hl hh rfl (by repeat (first | exact keeps_nil | apply keeps_cons (by repeat (first | exact find_head | apply find_tail | apply find_skip)) (by first  | rfl) | exact keeps_self | exact keeps_left | apply keeps_app | apply keeps_mv | apply keeps_skip)) ?_; exact ⟨rfl, GO.same hg hl9 (by rw [hf]) (by rw [hf]) rfl⟩)
                        · intro hg34; clear hl; intro hl
                          try simp only [decide_eq_true_eq, decide_eq_false_iff_not, Bool.not_eq_true', Bool.not_eq_false', Bool.not_eq_true, Bool.not_eq_false, Bool.and_eq_true, Bool.or_eq_true, Bool.and_eq_false_iff, Bool.or_eq_false_iff, Bool.not_not, ne_eq, Int.not_lt, Int.not_le, Decidable.not_not, beq_iff_eq, bne_iff_ne] at hg34
                          refine wl (wl_skip hl rfl ⟨_, _, rfl, rfl, rfl⟩ ?_)
                          clear hl a; intro a hl
                          refine wl (wl_skip hl rfl ⟨_, _, rfl, rfl, rfl⟩ ?_)
                          clear hl a; intro a hl
                          refine wl (wl_skip hl rfl ⟨_, _, rfl, rfl, rfl⟩ ?_)
                          clear hl a; intro a hl
                          refine wl (wl_val hl rfl trivial (r_pickF hl rfl rfl) ?_)
                          clear hl a; intro a hl
                          refine w_nil ?_
                          have hl2 := hl.add (t := 0) (hl.add (t := 5) (hl.add (t := 117) (hl.nil) rfl) rfl) rfl; clear hl; have hl := hl2; clear hl2
                          refine then_normal ?_
                          refine c_condF hl rfl ?_
                          have hf := dl_6n (l := l.pl) hhd hk6 (fun ⟨q1, q2⟩ => by have q1 : m.r = g.st.fid := q1; omega)
                          refine wp_skip ?_
                          refine blk_normal ?_
                          first
                          | (have hqq := hp2; refine f_end0 (F' := GF gb g' l' (Z ++ G9)) hl hh rfl (by first | exact keeps_self | exact keeps_left) ?_; exact ⟨rfl, g', l', G9, he9, hg', hl', hp1.trans (by rw [hf]; try rfl), hp2.trans (by rw [hf]; try rfl), rfl⟩)
                          | (have hqq := hc3; refine f_end0 (F' := (gb, C (GtV.c { g with ys := orB g.ys (sh1 m.d) }) 127) :: (g.st.E ++ (g.qE ++ ((g.rb, MD (kInt .u32) g.rl g.rn) :: (g.oE ++ ((g.led, C (LdV.c l) 91) :: (l.d.E ++ Z))))))) hl hh rfl (by repeat (first | exact keeps_nil | apply keeps_cons (by repeat (first | exact find_head | apply find_tail | apply find_skip)) (by first  | rfl) | exact keeps_self | exact keeps_left | apply keeps_app | apply keeps_mv | apply keeps_skip)) ?_; exact ⟨rfl, GO.same (g' := { g with ys := orB g.ys (sh1 m.d) }) (ys_ok hg (orB_bd _ _)) hl9 (by rw [hf]; rfl) (by rw [hf]) rfl⟩)
                          | (refine f_end0 (F' := (gb, C (GtV.c g) 127) :: (g.st.E ++ (g.qE ++ ((g.rb, MD (kInt .u32) g.rl g.rn) :: (g.oE ++ ((g.led, C (LdV.c l) 91) :: (l.d.E ++ Z))))))) hl hh rfl (by repeat (first | exact keeps_nil | apply keeps_cons (by repeat (first | exact find_head | apply find_tail | apply find_skip)) (by first  | rfl) | exact keeps_self | exact keeps_left | apply keeps_app | apply keeps_mv | apply keeps_skip)) ?_; exact ⟨rfl, GO.same hg hl9 (by rw [hf]) (by rw [hf]) rfl⟩)
                      · intro hc5
                        try simp only [decide_eq_true_eq, decide_eq_false_iff_not, Bool.not_eq_true', Bool.not_eq_false', Bool.not_eq_true, Bool.not_eq_false, Bool.and_eq_true, Bool.or_eq_true, Bool.and_eq_false_iff, Bool.or_eq_false_iff, Bool.not_not, ne_eq, Int.not_lt, Int.not_le, Decidable.not_not, beq_iff_eq, bne_iff_ne] at hc5
                        have hn3 : ¬ (m.k = 6 ∧ g.pl.st.ph = 2 ∧ g.pl.au = true) := fun ⟨q1, q2, q3⟩ => by have q2 : g.st.ph = 2 := q2; have q3 : g.au = true := q3; first | omega | (simp_all; done)
                        refine c_seq ?_
                        refine c_region ?_
                        refine wl (wl_val hl rfl trivial (r_field hl rfl fld38_0) ?_)
                        clear hl a; intro a hl
                        refine wl (w_load hl hh rfl trivial one35 rfl (by repeat (first | exact find_head | apply find_tail | apply find_skip)) (by first | exact gtc_led _ | exact gtc_ep _ | exact gtc_vs _ | exact gtc_is _ | exact gtc_fid _ | exact gtc_ph _ | exact gtc_vd _ | exact gtc_q _ | exact gtc_rf _ | exact gtc_ys _ | exact gtc_dn _ | exact gtc_tk _ | exact gtc_au _ | exact gtc_o _ | exact gtc_off _ | rfl) ?_)
                        clear hl a; intro a hl
                        refine wl (wl_val hl rfl trivial (r_eql hl rfl rfl) ?_)
                        clear hl a; intro a hl
                        refine wl (wl_val hl rfl trivial (r_move hl rfl) ?_)
                        clear hl a; intro a hl
                        refine sl_split (t := 125) hl rfl ?_ ?_
                        · intro hg35; clear hl; intro hl
                          try simp only [decide_eq_true_eq, decide_eq_false_iff_not, Bool.not_eq_true', Bool.not_eq_false', Bool.not_eq_true, Bool.not_eq_false, Bool.and_eq_true, Bool.or_eq_true, Bool.and_eq_false_iff, Bool.or_eq_false_iff, Bool.not_not, ne_eq, Int.not_lt, Int.not_le, Decidable.not_not, beq_iff_eq, bne_iff_ne] at hg35
                          refine wl (wl_val hl rfl ⟨_, _, rfl, rfl, rfl⟩ (r_field hl rfl fld87_1) ?_)
                          clear hl a; intro a hl
                          refine wl (w_load hl hh rfl ⟨_, _, rfl, rfl, rfl⟩ one76 rfl (by repeat (first | exact find_head | apply find_tail | apply find_skip)) (by first | exact gtc_led _ | exact gtc_ep _ | exact gtc_vs _ | exact gtc_is _ | exact gtc_fid _ | exact gtc_ph _ | exact gtc_vd _ | exact gtc_q _ | exact gtc_rf _ | exact gtc_ys _ | exact gtc_dn _ | exact gtc_tk _ | exact gtc_au _ | exact gtc_o _ | exact gtc_off _ | rfl) ?_)
                          clear hl a; intro a hl
                          refine wl (wl_val hl rfl ⟨_, _, rfl, rfl, rfl⟩ (r_eql hl rfl rfl) ?_)
                          clear hl a; intro a hl
                          refine wl (wl_val hl rfl trivial (r_pickT hl rfl rfl) ?_)
                          clear hl a; intro a hl
                          refine wl (wl_val hl rfl trivial (r_move hl rfl) ?_)
                          clear hl a; intro a hl
                          refine sl_split (t := 130) hl rfl ?_ ?_
                          · intro hg36; clear hl; intro hl
                            try simp only [decide_eq_true_eq, decide_eq_false_iff_not, Bool.not_eq_true', Bool.not_eq_false', Bool.not_eq_true, Bool.not_eq_false, Bool.and_eq_true, Bool.or_eq_true, Bool.and_eq_false_iff, Bool.or_eq_false_iff, Bool.not_not, ne_eq, Int.not_lt, Int.not_le, Decidable.not_not, beq_iff_eq, bne_iff_ne] at hg36
                            refine wl (wl_val hl rfl ⟨_, _, rfl, rfl, rfl⟩ (r_move hl rfl) ?_)
                            clear hl a; intro a hl
                            refine wl (wl_val hl rfl ⟨_, _, rfl, rfl, rfl⟩ (r_nilCheck hl rfl) ?_)
                            clear hl a; intro a hl
                            refine wl (wl_val hl rfl ⟨_, _, rfl, rfl, rfl⟩ (r_field hl rfl fld127_8) ?_)
                            clear hl a; intro a hl
                            refine wl (w_load hl hh rfl ⟨_, _, rfl, rfl, rfl⟩ one4 rfl (by repeat (first | exact find_head | apply find_tail | apply find_skip)) (by first | exact gtc_led _ | exact gtc_ep _ | exact gtc_vs _ | exact gtc_is _ | exact gtc_fid _ | exact gtc_ph _ | exact gtc_vd _ | exact gtc_q _ | exact gtc_rf _ | exact gtc_ys _ | exact gtc_dn _ | exact gtc_tk _ | exact gtc_au _ | exact gtc_o _ | exact gtc_off _ | rfl) ?_)
                            clear hl a; intro a hl
                            refine wl (wl_val hl rfl trivial (r_pickT hl rfl rfl) ?_)
                            clear hl a; intro a hl
                            refine wl (wl_val hl rfl trivial (r_assign hl rfl) ?_)
                            clear hl a; intro a hl
                            refine w_nil ?_
                            have hl2 := hl.add (t := 0) (hl.add (t := 3) (hl.add (t := 4) (hl.add (t := 5) (hl.add (t := 121) (hl.nil) rfl) rfl) rfl) rfl) rfl; clear hl; have hl := hl2; clear hl2
                            refine then_normal ?_
                            refine c_cond hl rfl ?_ ?_
                            · intro hc7
                              try simp only [decide_eq_true_eq, decide_eq_false_iff_not, Bool.not_eq_true', Bool.not_eq_false', Bool.not_eq_true, Bool.not_eq_false, Bool.and_eq_true, Bool.or_eq_true, Bool.and_eq_false_iff, Bool.or_eq_false_iff, Bool.not_not, ne_eq, Int.not_lt, Int.not_le, Decidable.not_not, beq_iff_eq, bne_iff_ne] at hc7
                              have hk7 : m.k = 6 ∧ g.pl.st.ph = 3 ∧ g.pl.au = true := ⟨by omega, (show g.st.ph = 3 by omega), (show g.au = true by first | assumption | (simp_all; done))⟩
                              refine c_seq ?_
                              refine c_region ?_
                              refine wl (wl_val hl rfl trivial (r_field hl rfl fld38_5) ?_)
                              clear hl a; intro a hl
                              refine wl (w_load hl hh rfl trivial one36 rfl (by repeat (first | exact find_head | apply find_tail | apply find_skip)) (by first | exact gtc_led _ | exact gtc_ep _ | exact gtc_vs _ | exact gtc_is _ | exact gtc_fid _ | exact gtc_ph _ | exact gtc_vd _ | exact gtc_q _ | exact gtc_rf _ | exact gtc_ys _ | exact gtc_dn _ | exact gtc_tk _ | exact gtc_au _ | exact gtc_o _ | exact gtc_off _ | rfl) ?_)
                              clear hl a; intro a hl
                              refine wl (wl_val hl rfl trivial (r_field hl rfl fld87_0) ?_)
                              clear hl a; intro a hl
                              refine wl (w_load hl hh rfl trivial one36 rfl (by repeat (first | exact find_head | apply find_tail | apply find_skip)) (by first | exact gtc_led _ | exact gtc_ep _ | exact gtc_vs _ | exact gtc_is _ | exact gtc_fid _ | exact gtc_ph _ | exact gtc_vd _ | exact gtc_q _ | exact gtc_rf _ | exact gtc_ys _ | exact gtc_dn _ | exact gtc_tk _ | exact gtc_au _ | exact gtc_o _ | exact gtc_off _ | rfl) ?_)
                              clear hl a; intro a hl
                              refine wl (wl_val hl rfl trivial (r_neq hl rfl rfl) ?_)
                              clear hl a; intro a hl
                              refine wl (wl_val hl rfl trivial (r_move hl rfl) ?_)
                              clear hl a; intro a hl
                              refine sl_split (t := 141) hl rfl ?_ ?_
                              · intro hg37; clear hl; intro hl
                                try simp only [decide_eq_true_eq, decide_eq_false_iff_not, Bool.not_eq_true', Bool.not_eq_false', Bool.not_eq_true, Bool.not_eq_false, Bool.and_eq_true, Bool.or_eq_true, Bool.and_eq_false_iff, Bool.or_eq_false_iff, Bool.not_not, ne_eq, Int.not_lt, Int.not_le, Decidable.not_not, beq_iff_eq, bne_iff_ne] at hg37
                                refine wl (wl_val hl rfl ⟨_, _, rfl, rfl, rfl⟩ (r_field hl rfl fld38_6) ?_)
                                clear hl a; intro a hl
                                refine wl (w_load hl hh rfl ⟨_, _, rfl, rfl, rfl⟩ one36 rfl (by repeat (first | exact find_head | apply find_tail | apply find_skip)) (by first | exact gtc_led _ | exact gtc_ep _ | exact gtc_vs _ | exact gtc_is _ | exact gtc_fid _ | exact gtc_ph _ | exact gtc_vd _ | exact gtc_q _ | exact gtc_rf _ | exact gtc_ys _ | exact gtc_dn _ | exact gtc_tk _ | exact gtc_au _ | exact gtc_o _ | exact gtc_off _ | rfl) ?_)
                                clear hl a; intro a hl
                                refine wl (wl_val hl rfl ⟨_, _, rfl, rfl, rfl⟩ (r_eql hl rfl rfl) ?_)
                                clear hl a; intro a hl
                                refine wl (wl_val hl rfl trivial (r_pickT hl rfl rfl) ?_)
                                clear hl a; intro a hl
                                refine w_nil ?_
                                have hl2 := hl.add (t := 0) (hl.add (t := 5) (hl.add (t := 145) (hl.nil) rfl) rfl) rfl; clear hl; have hl := hl2; clear hl2
                                refine then_normal ?_
                                refine c_cond hl rfl ?_ ?_
                                · intro hc8
                                  try simp only [decide_eq_true_eq, decide_eq_false_iff_not, Bool.not_eq_true', Bool.not_eq_false', Bool.not_eq_true, Bool.not_eq_false, Bool.and_eq_true, Bool.or_eq_true, Bool.and_eq_false_iff, Bool.or_eq_false_iff, Bool.not_not, ne_eq, Int.not_lt, Int.not_le, Decidable.not_not, beq_iff_eq, bne_iff_ne] at hc8
                                  have hf := dl_7y (l := l.pl) hhd hk7 ⟨(show ¬ m.r = g.st.fid by omega), by omega⟩
                                  refine c_region ?_
                                  refine wl (wl_val hl rfl trivial (r_move hl rfl) ?_)
                                  clear hl a; intro a hl
                                  refine wl (wl_val hl rfl trivial (r_move hl rfl) ?_)
                                  clear hl a; intro a hl
                                  refine wl (w_call hl hh rfl trivial rfl cal52 rfl (confirm_spec Z gb g l hg hl9 (sh1 m.d) hvl) (by repeat (first | exact keeps_nil | apply keeps_cons (by repeat (first | exact find_head | apply find_tail | apply find_skip)) (by first  | rfl) | exact keeps_self | exact keeps_left | apply keeps_app | apply keeps_mv | apply keeps_skip)) trivial ?_)
                                  clear hl hh a w; intro vc Fc a w hR hl hh
                                  obtain ⟨rfl, g', l', G9, he9, hg', hl', hp1, hp2, rfl⟩ := hR
                                  try simp only [List.cons_append, List.nil_append, List.append_assoc, List.append_nil] at hh
                                  refine w_nil ?_
                                  have hl2 := hl.nil; clear hl; have hl := hl2; clear hl2
                                  refine blk_normal ?_
                                  first
                                  | (have hqq := hp2; refine f_end0 (F' := GF gb g' l' (Z ++ G9)) hl hh rfl (by first | exact keeps_self | exact keeps_left) ?_; exact ⟨rfl, g', l', G9, he9, hg', hl', hp1.trans (by rw [hf]; try rfl), hp2.trans (by rw [hf]; try rfl), rfl⟩)
                                  | (have hqq := hc3; refine f_end0 (F' := (gb, C (GtV.c { g with ys := orB g.ys (sh1 m.d) }) 127) :: (g.st.E ++ (g.qE ++ ((g.rb, MD (kInt .u32) g.rl g.rn) :: (g.oE ++ ((g.led, C (LdV.c l) 91) :: (l.d.E ++ Z))))))) hl hh rfl (by repeat (first | exact keeps_nil | apply keeps_cons (by repeat (first | exact find_head | apply find_tail | apply find_skip)) (by first  | rfl) | exact keeps_self | exact keeps_left | apply keeps_app | apply keeps_mv | apply keeps_skip)) ?_; exact ⟨rfl, GO.same (g' := { g with ys := orB g.ys (sh1 m.d) }) (ys_ok hg (orB_bd _ _)) hl9 (by rw [hf]; rfl) (by rw [hf]) rfl⟩)
                                  | (refine f_end0 (F' := (gb, C (GtV.c g) 127) :: (g.st.E ++ (g.qE ++ ((g.rb, MD (kInt .u32) g.rl g.rn) :: (g.oE ++ ((g.led, C (LdV.c l) 91) :: (l.d.E ++ Z))))))) hl hh rfl (by repeat (first | exact keeps_nil | apply keeps_cons (by repeat (first | exact find_head | apply find_tail | apply find_skip)) (by first  | rfl) | exact keeps_self | exact keeps_left | apply keeps_app | apply keeps_mv | apply keeps_skip)) ?_; exact ⟨rfl, GO.same hg hl9 (by rw [hf]) (by rw [hf]) rfl⟩)
                                · intro hc8
                                  try simp only [decide_eq_true_eq, decide_eq_false_iff_not, Bool.not_eq_true', Bool.not_eq_false', Bool.not_eq_true, Bool.not_eq_false, Bool.and_eq_true, Bool.or_eq_true, Bool.and_eq_false_iff, Bool.or_eq_false_iff, Bool.not_not, ne_eq, Int.not_lt, Int.not_le, Decidable.not_not, beq_iff_eq, bne_iff_ne] at hc8
                                  have hf := dl_7n (l := l.pl) hhd hk7 (fun ⟨q1, q2⟩ => by have q1 : ¬ m.r = g.st.fid := q1; omega)
                                  refine wp_skip ?_
                                  refine blk_normal ?_
                                  first
                                  | (have hqq := hp2; refine f_end0 (F' := GF gb g' l' (Z ++ G9)) hl hh rfl (by first | exact keeps_self | exact keeps_left) ?_; exact ⟨rfl, g', l', G9, he9, hg', hl', hp1.trans (by rw [hf]; try rfl), hp2.trans (by rw [hf]; try rfl), rfl⟩)
                                  | (have hqq := hc3; refine f_end0 (F' := (gb, C (GtV.c { g with ys := orB g.ys (sh1 m.d) }) 127) :: (g.st.E ++ (g.qE ++ ((g.rb, MD (kInt .u32) g.rl g.rn) :: (g.oE ++ ((g.led, C (LdV.c l) 91) :: (l.d.E ++ Z))))))) hl hh rfl (by repeat (first | exact keeps_nil | apply keeps_cons (by repeat (first | exact find_head | apply find_tail | apply find_skip)) (by first  | rfl) | exact keeps_self | exact keeps_left | apply keeps_app | apply keeps_mv | apply keeps_skip)) ?_; exact ⟨rfl, GO.same (g' := { g with ys := orB g.ys (sh1 m.d) }) (ys_ok hg (orB_bd _ _)) hl9 (by rw [hf]; rfl) (by rw [hf]) rfl⟩)
                                  | (refine f_end0 (F' := (gb, C (GtV.c g) 127) :: (g.st.E ++ (g.qE ++ ((g.rb, MD (kInt .u32) g.rl g.rn) :: (g.oE ++ ((g.led, C (LdV.c l) 91) :: (l.d.E ++ Z))))))) hl hh rfl (by repeat (first | exact keeps_nil | apply keeps_cons (by repeat (first | exact find_head | apply find_tail | apply find_skip)) (by first  | rfl) | exact keeps_self | exact keeps_left | apply keeps_app | apply keeps_mv | apply keeps_skip)) ?_; exact ⟨rfl, GO.same hg hl9 (by rw [hf]) (by rw [hf]) rfl⟩)
                              · intro hg37; clear hl; intro hl
                                try simp only [decide_eq_true_eq, decide_eq_false_iff_not, Bool.not_eq_true', Bool.not_eq_false', Bool.not_eq_true, Bool.not_eq_false, Bool.and_eq_true, Bool.or_eq_true, Bool.and_eq_false_iff, Bool.or_eq_false_iff, Bool.not_not, ne_eq, Int.not_lt, Int.not_le, Decidable.not_not, beq_iff_eq, bne_iff_ne] at hg37
                                refine wl (wl_skip hl rfl ⟨_, _, rfl, rfl, rfl⟩ ?_)
                                clear hl a; intro a hl
                                refine wl (wl_skip hl rfl ⟨_, _, rfl, rfl, rfl⟩ ?_)
                                clear hl a; intro a hl
                                refine wl (wl_skip hl rfl ⟨_, _, rfl, rfl, rfl⟩ ?_)
                                clear hl a; intro a hl
                                refine wl (wl_val hl rfl trivial (r_pickF hl rfl rfl) ?_)
                                clear hl a; intro a hl
                                refine w_nil ?_
                                have hl2 := hl.add (t := 0) (hl.add (t := 5) (hl.add (t := 145) (hl.nil) rfl) rfl) rfl; clear hl; have hl := hl2; clear hl2
                                refine then_normal ?_
                                refine c_condF hl rfl ?_
                                have hf := dl_7n (l := l.pl) hhd hk7 (fun ⟨q1, q2⟩ => by have q1 : ¬ m.r = g.st.fid := q1; omega)
                                refine wp_skip ?_
                                refine blk_normal ?_
                                first
                                | (have hqq := hp2; refine f_end0 (F' := GF gb g' l' (Z ++ G9)) hl hh rfl (by first | exact keeps_self | exact keeps_left) ?_; exact ⟨rfl, g', l', G9, he9, hg', hl', hp1.trans (by rw [hf]; try rfl), hp2.trans (by rw [hf]; try rfl), rfl⟩)
                                | (have hqq := hc3; refine f_end0 (F' := (gb, C (GtV.c { g with ys := orB g.ys (sh1 m.d) }) 127) :: (g.st.E ++ (g.qE ++ ((g.rb, MD (kInt .u32) g.rl g.rn) :: (g.oE ++ ((g.led, C (LdV.c l) 91) :: (l.d.E ++ Z))))))) hl hh rfl (by repeat (first | exact keeps_nil | apply keeps_cons (by repeat (first | exact find_head | apply find_tail | apply find_skip)) (by first  | rfl) | exact keeps_self | exact keeps_left | apply keeps_app | apply keeps_mv | apply keeps_skip)) ?_; exact ⟨rfl, GO.same (g' := { g with ys := orB g.ys (sh1 m.d) }) (ys_ok hg (orB_bd _ _)) hl9 (by rw [hf]; rfl) (by rw [hf]) rfl⟩)
                                | (refine f_end0 (F' := (gb, C (GtV.c g) 127) :: (g.st.E ++ (g.qE ++ ((g.rb, MD (kInt .u32) g.rl g.rn) :: (g.oE ++ ((g.led, C (LdV.c l) 91) :: (l.d.E ++ Z))))))) hl hh rfl (by repeat (first | exact keeps_nil | apply keeps_cons (by repeat (first | exact find_head | apply find_tail | apply find_skip)) (by first  | rfl) | exact keeps_self | exact keeps_left | apply keeps_app | apply keeps_mv | apply keeps_skip)) ?_; exact ⟨rfl, GO.same hg hl9 (by rw [hf]) (by rw [hf]) rfl⟩)
                            · intro hc7
                              try simp only [decide_eq_true_eq, decide_eq_false_iff_not, Bool.not_eq_true', Bool.not_eq_false', Bool.not_eq_true, Bool.not_eq_false, Bool.and_eq_true, Bool.or_eq_true, Bool.and_eq_false_iff, Bool.or_eq_false_iff, Bool.not_not, ne_eq, Int.not_lt, Int.not_le, Decidable.not_not, beq_iff_eq, bne_iff_ne] at hc7
                              have hn4 : ¬ (m.k = 6 ∧ g.pl.st.ph = 3 ∧ g.pl.au = true) := fun ⟨q1, q2, q3⟩ => by have q2 : g.st.ph = 3 := q2; have q3 : g.au = true := q3; first | omega | (simp_all; done)
                              have hf := dl_x (l := l.pl) hhd hn1 hn2 hn3 hn4
                              refine wp_skip ?_
                              refine blk_normal ?_
                              first
                              | (have hqq := hp2; refine f_end0 (F' := GF gb g' l' (Z ++ G9)) hl hh rfl (by first | exact keeps_self | exact keeps_left) ?_; exact ⟨rfl, g', l', G9, he9, hg', hl', hp1.trans (by rw [hf]; try rfl), hp2.trans (by rw [hf]; try rfl), rfl⟩)
                              | (have hqq := hc3; refine f_end0 (F' := (gb, C (GtV.c { g with ys := orB g.ys (sh1 m.d) }) 127) :: (g.st.E ++ (g.qE ++ ((g.rb, MD (kInt .u32) g.rl g.rn) :: (g.oE ++ ((g.led, C (LdV.c l) 91) :: (l.d.E ++ Z))))))) hl hh rfl (by repeat (first | exact keeps_nil | apply keeps_cons (by repeat (first | exact find_head | apply find_tail | apply find_skip)) (by first  | rfl) | exact keeps_self | exact keeps_left | apply keeps_app | apply keeps_mv | apply keeps_skip)) ?_; exact ⟨rfl, GO.same (g' := { g with ys := orB g.ys (sh1 m.d) }) (ys_ok hg (orB_bd _ _)) hl9 (by rw [hf]; rfl) (by rw [hf]) rfl⟩)
                              | (refine f_end0 (F' := (gb, C (GtV.c g) 127) :: (g.st.E ++ (g.qE ++ ((g.rb, MD (kInt .u32) g.rl g.rn) :: (g.oE ++ ((g.led, C (LdV.c l) 91) :: (l.d.E ++ Z))))))) hl hh rfl (by repeat (first | exact keeps_nil | apply keeps_cons (by repeat (first | exact find_head | apply find_tail | apply find_skip)) (by first  | rfl) | exact keeps_self | exact keeps_left | apply keeps_app | apply keeps_mv | apply keeps_skip)) ?_; exact ⟨rfl, GO.same hg hl9 (by rw [hf]) (by rw [hf]) rfl⟩)
                          · intro hg36; clear hl; intro hl
                            try simp only [decide_eq_true_eq, decide_eq_false_iff_not, Bool.not_eq_true', Bool.not_eq_false', Bool.not_eq_true, Bool.not_eq_false, Bool.and_eq_true, Bool.or_eq_true, Bool.and_eq_false_iff, Bool.or_eq_false_iff, Bool.not_not, ne_eq, Int.not_lt, Int.not_le, Decidable.not_not, beq_iff_eq, bne_iff_ne] at hg36
                            refine wl (wl_skip hl rfl ⟨_, _, rfl, rfl, rfl⟩ ?_)
                            clear hl a; intro a hl
                            refine wl (wl_skip hl rfl ⟨_, _, rfl, rfl, rfl⟩ ?_)
                            clear hl a; intro a hl
                            refine wl (wl_skip hl rfl ⟨_, _, rfl, rfl, rfl⟩ ?_)
                            clear hl a; intro a hl
                            refine wl (wl_skip hl rfl ⟨_, _, rfl, rfl, rfl⟩ ?_)
                            clear hl a; intro a hl
                            refine wl (wl_val hl rfl trivial (r_pickF hl rfl rfl) ?_)
                            clear hl a; intro a hl
                            refine wl (wl_val hl rfl trivial (r_assign hl rfl) ?_)
                            clear hl a; intro a hl
                            refine w_nil ?_
                            have hl2 := hl.add (t := 0) (hl.add (t := 3) (hl.add (t := 4) (hl.add (t := 5) (hl.add (t := 121) (hl.nil) rfl) rfl) rfl) rfl) rfl; clear hl; have hl := hl2; clear hl2
                            refine then_normal ?_
                            refine c_condF hl rfl ?_
                            have hn4 : ¬ (m.k = 6 ∧ g.pl.st.ph = 3 ∧ g.pl.au = true) := fun ⟨q1, q2, q3⟩ => by have q2 : g.st.ph = 3 := q2; have q3 : g.au = true := q3; first | omega | (simp_all; done)
                            have hf := dl_x (l := l.pl) hhd hn1 hn2 hn3 hn4
                            refine wp_skip ?_
                            refine blk_normal ?_
                            first
                            | (have hqq := hp2; refine f_end0 (F' := GF gb g' l' (Z ++ G9)) hl hh rfl (by first | exact keeps_self | exact keeps_left) ?_; exact ⟨rfl, g', l', G9, he9, hg', hl', hp1.trans (by rw [hf]; try rfl), hp2.trans (by rw [hf]; try rfl), rfl⟩)
                            | (have hqq := hc3; refine f_end0 (F' := (gb, C (GtV.c { g with ys := orB g.ys (sh1 m.d) }) 127) :: (g.st.E ++ (g.qE ++ ((g.rb, MD (kInt .u32) g.rl g.rn) :: (g.oE ++ ((g.led, C (LdV.c l) 91) :: (l.d.E ++ Z))))))) hl hh rfl (by repeat (first | exact keeps_nil | apply keeps_cons (by repeat (first | exact find_head | apply find_tail | apply find_skip)) (by first  | rfl) | exact keeps_self | exact keeps_left | apply keeps_app | apply keeps_mv | apply keeps_skip)) ?_; exact ⟨rfl, GO.same (g' := { g with ys := orB g.ys (sh1 m.d) }) (ys_ok hg (orB_bd _ _)) hl9 (by rw [hf]; rfl) (by rw [hf]) rfl⟩)
                            | (refine f_end0 (F' := (gb, C (GtV.c g) 127) :: (g.st.E ++ (g.qE ++ ((g.rb, MD (kInt .u32) g.rl g.rn) :: (g.oE ++ ((g.led, C (LdV.c l) 91) :: (l.d.E ++ Z))))))) hl hh rfl (by repeat (first | exact keeps_nil | apply keeps_cons (by repeat (first | exact find_head | apply find_tail | apply find_skip)) (by first  | rfl) | exact keeps_self | exact keeps_left | apply keeps_app | apply keeps_mv | apply keeps_skip)) ?_; exact ⟨rfl, GO.same hg hl9 (by rw [hf]) (by rw [hf]) rfl⟩)
                        · intro hg35; clear hl; intro hl
                          try simp only [decide_eq_true_eq, decide_eq_false_iff_not, Bool.not_eq_true', Bool.not_eq_false', Bool.not_eq_true, Bool.not_eq_false, Bool.and_eq_true, Bool.or_eq_true, Bool.and_eq_false_iff, Bool.or_eq_false_iff, Bool.not_not, ne_eq, Int.not_lt, Int.not_le, Decidable.not_not, beq_iff_eq, bne_iff_ne] at hg35
                          refine wl (wl_skip hl rfl ⟨_, _, rfl, rfl, rfl⟩ ?_)
                          clear hl a; intro a hl
                          refine wl (wl_skip hl rfl ⟨_, _, rfl, rfl, rfl⟩ ?_)
                          clear hl a; intro a hl
                          refine wl (wl_skip hl rfl ⟨_, _, rfl, rfl, rfl⟩ ?_)
                          clear hl a; intro a hl
                          refine wl (wl_val hl rfl trivial (r_pickF hl rfl rfl) ?_)
                          clear hl a; intro a hl
                          refine wl (wl_val hl rfl trivial (r_move hl rfl) ?_)
                          clear hl a; intro a hl
                          refine wl (wl_skip hl rfl ⟨_, _, rfl, rfl, rfl⟩ ?_)
                          clear hl a; intro a hl
                          refine wl (wl_skip hl rfl ⟨_, _, rfl, rfl, rfl⟩ ?_)
                          clear hl a; intro a hl
                          refine wl (wl_skip hl rfl ⟨_, _, rfl, rfl, rfl⟩ ?_)
                          clear hl a; intro a hl
                          refine wl (wl_skip hl rfl ⟨_, _, rfl, rfl, rfl⟩ ?_)
                          clear hl a; intro a hl
                          refine wl (wl_val hl rfl trivial (r_pickF hl rfl rfl) ?_)
                          clear hl a; intro a hl
                          refine wl (wl_val hl rfl trivial (r_assign hl rfl) ?_)
                          clear hl a; intro a hl
                          refine w_nil ?_
                          have hl2 := hl.add (t := 0) (hl.add (t := 3) (hl.add (t := 4) (hl.add (t := 5) (hl.add (t := 121) (hl.nil) rfl) rfl) rfl) rfl) rfl; clear hl; have hl := hl2; clear hl2
                          refine then_normal ?_
                          refine c_condF hl rfl ?_
                          have hn4 : ¬ (m.k = 6 ∧ g.pl.st.ph = 3 ∧ g.pl.au = true) := fun ⟨q1, q2, q3⟩ => by have q2 : g.st.ph = 3 := q2; have q3 : g.au = true := q3; first | omega | (simp_all; done)
                          have hf := dl_x (l := l.pl) hhd hn1 hn2 hn3 hn4
                          refine wp_skip ?_
                          refine blk_normal ?_
                          first
                          | (have hqq := hp2; refine f_end0 (F' := GF gb g' l' (Z ++ G9)) hl hh rfl (by first | exact keeps_self | exact keeps_left) ?_; exact ⟨rfl, g', l', G9, he9, hg', hl', hp1.trans (by rw [hf]; try rfl), hp2.trans (by rw [hf]; try rfl), rfl⟩)
                          | (have hqq := hc3; refine f_end0 (F' := (gb, C (GtV.c { g with ys := orB g.ys (sh1 m.d) }) 127) :: (g.st.E ++ (g.qE ++ ((g.rb, MD (kInt .u32) g.rl g.rn) :: (g.oE ++ ((g.led, C (LdV.c l) 91) :: (l.d.E ++ Z))))))) hl hh rfl (by repeat (first | exact keeps_nil | apply keeps_cons (by repeat (first | exact find_head | apply find_tail | apply find_skip)) (by first  | rfl) | exact keeps_self | exact keeps_left | apply keeps_app | apply keeps_mv | apply keeps_skip)) ?_; exact ⟨rfl, GO.same (g' := { g with ys := orB g.ys (sh1 m.d) }) (ys_ok hg (orB_bd _ _)) hl9 (by rw [hf]; rfl) (by rw [hf]) rfl⟩)
                          | (refine f_end0 (F' := (gb, C (GtV.c g) 127) :: (g.st.E ++ (g.qE ++ ((g.rb, MD (kInt .u32) g.rl g.rn) :: (g.oE ++ ((g.led, C (LdV.c l) 91) :: (l.d.E ++ Z))))))) hl hh rfl (by repeat (first | exact keeps_nil | apply keeps_cons (by repeat (first | exact find_head | apply find_tail | apply find_skip)) (by first  | rfl) | exact keeps_self | exact keeps_left | apply keeps_app | apply keeps_mv | apply keeps_skip)) ?_; exact ⟨rfl, GO.same hg hl9 (by rw [hf]) (by rw [hf]) rfl⟩)
                    · intro hg33; clear hl; intro hl
                      try simp only [decide_eq_true_eq, decide_eq_false_iff_not, Bool.not_eq_true', Bool.not_eq_false', Bool.not_eq_true, Bool.not_eq_false, Bool.and_eq_true, Bool.or_eq_true, Bool.and_eq_false_iff, Bool.or_eq_false_iff, Bool.not_not, ne_eq, Int.not_lt, Int.not_le, Decidable.not_not, beq_iff_eq, bne_iff_ne] at hg33
                      refine wl (wl_skip hl rfl ⟨_, _, rfl, rfl, rfl⟩ ?_)
                      clear hl a; intro a hl
                      refine wl (wl_skip hl rfl ⟨_, _, rfl, rfl, rfl⟩ ?_)
                      clear hl a; intro a hl
                      refine wl (wl_skip hl rfl ⟨_, _, rfl, rfl, rfl⟩ ?_)
                      clear hl a; intro a hl
                      refine wl (wl_skip hl rfl ⟨_, _, rfl, rfl, rfl⟩ ?_)
                      clear hl a; intro a hl
                      refine wl (wl_val hl rfl trivial (r_pickF hl rfl rfl) ?_)
                      clear hl a; intro a hl
                      refine wl (wl_val hl rfl trivial (r_assign hl rfl) ?_)
                      clear hl a; intro a hl
                      refine w_nil ?_
                      have hl2 := hl.add (t := 0) (hl.add (t := 3) (hl.add (t := 4) (hl.add (t := 5) (hl.add (t := 93) (hl.nil) rfl) rfl) rfl) rfl) rfl; clear hl; have hl := hl2; clear hl2
                      refine then_normal ?_
                      refine c_condF hl rfl ?_
                      have hn3 : ¬ (m.k = 6 ∧ g.pl.st.ph = 2 ∧ g.pl.au = true) := fun ⟨q1, q2, q3⟩ => by have q2 : g.st.ph = 2 := q2; have q3 : g.au = true := q3; first | omega | (simp_all; done)
                      refine c_seq ?_
                      refine c_region ?_
                      refine wl (wl_val hl rfl trivial (r_field hl rfl fld38_0) ?_)
                      clear hl a; intro a hl
                      refine wl (w_load hl hh rfl trivial one35 rfl (by repeat (first | exact find_head | apply find_tail | apply find_skip)) (by first | exact gtc_led _ | exact gtc_ep _ | exact gtc_vs _ | exact gtc_is _ | exact gtc_fid _ | exact gtc_ph _ | exact gtc_vd _ | exact gtc_q _ | exact gtc_rf _ | exact gtc_ys _ | exact gtc_dn _ | exact gtc_tk _ | exact gtc_au _ | exact gtc_o _ | exact gtc_off _ | rfl) ?_)
                      clear hl a; intro a hl
                      refine wl (wl_val hl rfl trivial (r_eql hl rfl rfl) ?_)
                      clear hl a; intro a hl
                      refine wl (wl_val hl rfl trivial (r_move hl rfl) ?_)
                      clear hl a; intro a hl
                      refine sl_split (t := 125) hl rfl ?_ ?_
                      · intro hg38; clear hl; intro hl
                        try simp only [decide_eq_true_eq, decide_eq_false_iff_not, Bool.not_eq_true', Bool.not_eq_false', Bool.not_eq_true, Bool.not_eq_false, Bool.and_eq_true, Bool.or_eq_true, Bool.and_eq_false_iff, Bool.or_eq_false_iff, Bool.not_not, ne_eq, Int.not_lt, Int.not_le, Decidable.not_not, beq_iff_eq, bne_iff_ne] at hg38
                        refine wl (wl_val hl rfl ⟨_, _, rfl, rfl, rfl⟩ (r_field hl rfl fld87_1) ?_)
                        clear hl a; intro a hl
                        refine wl (w_load hl hh rfl ⟨_, _, rfl, rfl, rfl⟩ one76 rfl (by repeat (first | exact find_head | apply find_tail | apply find_skip)) (by first | exact gtc_led _ | exact gtc_ep _ | exact gtc_vs _ | exact gtc_is _ | exact gtc_fid _ | exact gtc_ph _ | exact gtc_vd _ | exact gtc_q _ | exact gtc_rf _ | exact gtc_ys _ | exact gtc_dn _ | exact gtc_tk _ | exact gtc_au _ | exact gtc_o _ | exact gtc_off _ | rfl) ?_)
                        clear hl a; intro a hl
                        refine wl (wl_val hl rfl ⟨_, _, rfl, rfl, rfl⟩ (r_eql hl rfl rfl) ?_)
                        clear hl a; intro a hl
                        refine wl (wl_val hl rfl trivial (r_pickT hl rfl rfl) ?_)
                        clear hl a; intro a hl
                        refine wl (wl_val hl rfl trivial (r_move hl rfl) ?_)
                        clear hl a; intro a hl
                        refine sl_split (t := 130) hl rfl ?_ ?_
                        · intro hg39; clear hl; intro hl
                          try simp only [decide_eq_true_eq, decide_eq_false_iff_not, Bool.not_eq_true', Bool.not_eq_false', Bool.not_eq_true, Bool.not_eq_false, Bool.and_eq_true, Bool.or_eq_true, Bool.and_eq_false_iff, Bool.or_eq_false_iff, Bool.not_not, ne_eq, Int.not_lt, Int.not_le, Decidable.not_not, beq_iff_eq, bne_iff_ne] at hg39
                          refine wl (wl_val hl rfl ⟨_, _, rfl, rfl, rfl⟩ (r_move hl rfl) ?_)
                          clear hl a; intro a hl
                          refine wl (wl_val hl rfl ⟨_, _, rfl, rfl, rfl⟩ (r_nilCheck hl rfl) ?_)
                          clear hl a; intro a hl
                          refine wl (wl_val hl rfl ⟨_, _, rfl, rfl, rfl⟩ (r_field hl rfl fld127_8) ?_)
                          clear hl a; intro a hl
                          refine wl (w_load hl hh rfl ⟨_, _, rfl, rfl, rfl⟩ one4 rfl (by repeat (first | exact find_head | apply find_tail | apply find_skip)) (by first | exact gtc_led _ | exact gtc_ep _ | exact gtc_vs _ | exact gtc_is _ | exact gtc_fid _ | exact gtc_ph _ | exact gtc_vd _ | exact gtc_q _ | exact gtc_rf _ | exact gtc_ys _ | exact gtc_dn _ | exact gtc_tk _ | exact gtc_au _ | exact gtc_o _ | exact gtc_off _ | rfl) ?_)
                          clear hl a; intro a hl
                          refine wl (wl_val hl rfl trivial (r_pickT hl rfl rfl) ?_)
                          clear hl a; intro a hl
                          refine wl (wl_val hl rfl trivial (r_assign hl rfl) ?_)
                          clear hl a; intro a hl
                          refine w_nil ?_
                          have hl2 := hl.add (t := 0) (hl.add (t := 3) (hl.add (t := 4) (hl.add (t := 5) (hl.add (t := 121) (hl.nil) rfl) rfl) rfl) rfl) rfl; clear hl; have hl := hl2; clear hl2
                          refine then_normal ?_
                          refine c_cond hl rfl ?_ ?_
                          · intro hc7
                            try simp only [decide_eq_true_eq, decide_eq_false_iff_not, Bool.not_eq_true', Bool.not_eq_false', Bool.not_eq_true, Bool.not_eq_false, Bool.and_eq_true, Bool.or_eq_true, Bool.and_eq_false_iff, Bool.or_eq_false_iff, Bool.not_not, ne_eq, Int.not_lt, Int.not_le, Decidable.not_not, beq_iff_eq, bne_iff_ne] at hc7
                            have hk7 : m.k = 6 ∧ g.pl.st.ph = 3 ∧ g.pl.au = true := ⟨by omega, (show g.st.ph = 3 by omega), (show g.au = true by first | assumption | (simp_all; done))⟩
                            refine c_seq ?_
                            refine c_region ?_
                            refine wl (wl_val hl rfl trivial (r_field hl rfl fld38_5) ?_)
                            clear hl a; intro a hl
                            refine wl (w_load hl hh rfl trivial one36 rfl (by repeat (first | exact find_head | apply find_tail | apply find_skip)) (by first | exact gtc_led _ | exact gtc_ep _ | exact gtc_vs _ | exact gtc_is _ | exact gtc_fid _ | exact gtc_ph _ | exact gtc_vd _ | exact gtc_q _ | exact gtc_rf _ | exact gtc_ys _ | exact gtc_dn _ | exact gtc_tk _ | exact gtc_au _ | exact gtc_o _ | exact gtc_off _ | rfl) ?_)
                            clear hl a; intro a hl
                            refine wl (wl_val hl rfl trivial (r_field hl rfl fld87_0) ?_)
                            clear hl a; intro a hl
                            refine wl (w_load hl hh rfl trivial one36 rfl (by repeat (first | exact find_head | apply find_tail | apply find_skip)) (by first | exact gtc_led _ | exact gtc_ep _ | exact gtc_vs _ | exact gtc_is _ | exact gtc_fid _ | exact gtc_ph _ | exact gtc_vd _ | exact gtc_q _ | exact gtc_rf _ | exact gtc_ys _ | exact gtc_dn _ | exact gtc_tk _ | exact gtc_au _ | exact gtc_o _ | exact gtc_off _ | rfl) ?_)
                            clear hl a; intro a hl
                            refine wl (wl_val hl rfl trivial (r_neq hl rfl rfl) ?_)
                            clear hl a; intro a hl
                            refine wl (wl_val hl rfl trivial (r_move hl rfl) ?_)
                            clear hl a; intro a hl
                            refine sl_split (t := 141) hl rfl ?_ ?_
                            · intro hg40; clear hl; intro hl
                              try simp only [decide_eq_true_eq, decide_eq_false_iff_not, Bool.not_eq_true', Bool.not_eq_false', Bool.not_eq_true, Bool.not_eq_false, Bool.and_eq_true, Bool.or_eq_true, Bool.and_eq_false_iff, Bool.or_eq_false_iff, Bool.not_not, ne_eq, Int.not_lt, Int.not_le, Decidable.not_not, beq_iff_eq, bne_iff_ne] at hg40
                              refine wl (wl_val hl rfl ⟨_, _, rfl, rfl, rfl⟩ (r_field hl rfl fld38_6) ?_)
                              clear hl a; intro a hl
                              refine wl (w_load hl hh rfl ⟨_, _, rfl, rfl, rfl⟩ one36 rfl (by repeat (first | exact find_head | apply find_tail | apply find_skip)) (by first | exact gtc_led _ | exact gtc_ep _ | exact gtc_vs _ | exact gtc_is _ | exact gtc_fid _ | exact gtc_ph _ | exact gtc_vd _ | exact gtc_q _ | exact gtc_rf _ | exact gtc_ys _ | exact gtc_dn _ | exact gtc_tk _ | exact gtc_au _ | exact gtc_o _ | exact gtc_off _ | rfl) ?_)
                              clear hl a; intro a hl
                              refine wl (wl_val hl rfl ⟨_, _, rfl, rfl, rfl⟩ (r_eql hl rfl rfl) ?_)
                              clear hl a; intro a hl
                              refine wl (wl_val hl rfl trivial (r_pickT hl rfl rfl) ?_)
                              clear hl a; intro a hl
                              refine w_nil ?_
                              have hl2 := hl.add (t := 0) (hl.add (t := 5) (hl.add (t := 145) (hl.nil) rfl) rfl) rfl; clear hl; have hl := hl2; clear hl2
                              refine then_normal ?_
                              refine c_cond hl rfl ?_ ?_
                              · intro hc8
                                try simp only [decide_eq_true_eq, decide_eq_false_iff_not, Bool.not_eq_true', Bool.not_eq_false', Bool.not_eq_true, Bool.not_eq_false, Bool.and_eq_true, Bool.or_eq_true, Bool.and_eq_false_iff, Bool.or_eq_false_iff, Bool.not_not, ne_eq, Int.not_lt, Int.not_le, Decidable.not_not, beq_iff_eq, bne_iff_ne] at hc8
                                have hf := dl_7y (l := l.pl) hhd hk7 ⟨(show ¬ m.r = g.st.fid by omega), by omega⟩
                                refine c_region ?_
                                refine wl (wl_val hl rfl trivial (r_move hl rfl) ?_)
                                clear hl a; intro a hl
                                refine wl (wl_val hl rfl trivial (r_move hl rfl) ?_)
                                clear hl a; intro a hl
                                refine wl (w_call hl hh rfl trivial rfl cal52 rfl (confirm_spec Z gb g l hg hl9 (sh1 m.d) hvl) (by repeat (first | exact keeps_nil | apply keeps_cons (by repeat (first | exact find_head | apply find_tail | apply find_skip)) (by first  | rfl) | exact keeps_self | exact keeps_left | apply keeps_app | apply keeps_mv | apply keeps_skip)) trivial ?_)
                                clear hl hh a w; intro vc Fc a w hR hl hh
                                obtain ⟨rfl, g', l', G9, he9, hg', hl', hp1, hp2, rfl⟩ := hR
                                try simp only [List.cons_append, List.nil_append, List.append_assoc, List.append_nil] at hh
                                refine w_nil ?_
                                have hl2 := hl.nil; clear hl; have hl := hl2; clear hl2
                                refine blk_normal ?_
                                first
                                | (have hqq := hp2; refine f_end0 (F' := GF gb g' l' (Z ++ G9)) hl hh rfl (by first | exact keeps_self | exact keeps_left) ?_; exact ⟨rfl, g', l', G9, he9, hg', hl', hp1.trans (by rw [hf]; try rfl), hp2.trans (by rw [hf]; try rfl), rfl⟩)
                                | (have hqq := hc3; refine f_end0 (F' := (gb, C (GtV.c { g with ys := orB g.ys (sh1 m.d) }) 127) :: (g.st.E ++ (g.qE ++ ((g.rb, MD (kInt .u32) g.rl g.rn) :: (g.oE ++ ((g.led, C (LdV.c l) 91) :: (l.d.E ++ Z))))))) hl hh rfl (by repeat (first | exact keeps_nil | apply keeps_cons (by repeat (first | exact find_head | apply find_tail | apply find_skip)) (by first  | rfl) | exact keeps_self | exact keeps_left | apply keeps_app | apply keeps_mv | apply keeps_skip)) ?_; exact ⟨rfl, GO.same (g' := { g with ys := orB g.ys (sh1 m.d) }) (ys_ok hg (orB_bd _ _)) hl9 (by rw [hf]; rfl) (by rw [hf]) rfl⟩)
                                | (refine f_end0 (F' := (gb, C (GtV.c g) 127) :: (g.st.E ++ (g.qE ++ ((g.rb, MD (kInt .u32) g.rl g.rn) :: (g.oE ++ ((g.led, C (LdV.c l) 91) :: (l.d.E ++ Z))))))) hl hh rfl (by repeat (first | exact keeps_nil | apply keeps_cons (by repeat (first | exact find_head | apply find_tail | apply find_skip)) (by first  | rfl) | exact keeps_self | exact keeps_left | apply keeps_app | apply keeps_mv | apply keeps_skip)) ?_; exact ⟨rfl, GO.same hg hl9 (by rw [hf]) (by rw [hf]) rfl⟩)
                              · intro hc8
                                try simp only [decide_eq_true_eq, decide_eq_false_iff_not, Bool.not_eq_true', Bool.not_eq_false', Bool.not_eq_true, Bool.not_eq_false, Bool.and_eq_true, Bool.or_eq_true, Bool.and_eq_false_iff, Bool.or_eq_false_iff, Bool.not_not, ne_eq, Int.not_lt, Int.not_le, Decidable.not_not, beq_iff_eq, bne_iff_ne] at hc8
                                have hf := dl_7n (l := l.pl) hhd hk7 (fun ⟨q1, q2⟩ => by have q1 : ¬ m.r = g.st.fid := q1; omega)
                                refine wp_skip ?_
                                refine blk_normal ?_
                                first
                                | (have hqq := hp2; refine f_end0 (F' := GF gb g' l' (Z ++ G9)) hl hh rfl (by first | exact keeps_self | exact keeps_left) ?_; exact ⟨rfl, g', l', G9, he9, hg', hl', hp1.trans (by rw [hf]; try rfl), hp2.trans (by rw [hf]; try rfl), rfl⟩)
                                | (have hqq := hc3; refine f_end0 (F' := (gb, C (GtV.c { g with ys := orB g.ys (sh1 m.d) }) 127) :: (g.st.E ++ (g.qE ++ ((g.rb, MD (kInt .u32) g.rl g.rn) :: (g.oE ++ ((g.led, C (LdV.c l) 91) :: (l.d.E ++ Z))))))) hl hh rfl (by repeat (first | exact keeps_nil | apply keeps_cons (by repeat (first | exact find_head | apply find_tail | apply find_skip)) (by first  | rfl) | exact keeps_self | exact keeps_left | apply keeps_app | apply keeps_mv | apply keeps_skip)) ?_; exact ⟨rfl, GO.same (g' := { g with ys := orB g.ys (sh1 m.d) }) (ys_ok hg (orB_bd _ _)) hl9 (by rw [hf]; rfl) (by rw [hf]) rfl⟩)
                                | (refine f_end0 (F' := (gb, C (GtV.c g) 127) :: (g.st.E ++ (g.qE ++ ((g.rb, MD (kInt .u32) g.rl g.rn) :: (g.oE ++ ((g.led, C (LdV.c l) 91) :: (l.d.E ++ Z))))))) hl hh rfl (by repeat (first | exact keeps_nil | apply keeps_cons (by repeat (first | exact find_head | apply find_tail | apply find_skip)) (by first  | rfl) | exact keeps_self | exact keeps_left | apply keeps_app | apply keeps_mv | apply keeps_skip)) ?_; exact ⟨rfl, GO.same hg hl9 (by rw [hf]) (by rw [hf]) rfl⟩)
                            · intro hg40; clear hl; intro hl
                              try simp only [decide_eq_true_eq, decide_eq_false_iff_not, Bool.not_eq_true', Bool.not_eq_false', Bool.not_eq_true, Bool.not_eq_false, Bool.and_eq_true, Bool.or_eq_true, Bool.and_eq_false_iff, Bool.or_eq_false_iff, Bool.not_not, ne_eq, Int.not_lt, Int.not_le, Decidable.not_not, beq_iff_eq, bne_iff_ne] at hg40
                              refine wl (wl_skip hl rfl ⟨_, _, rfl, rfl, rfl⟩ ?_)
                              clear hl a; intro a hl
                              refine wl (wl_skip hl rfl ⟨_, _, rfl, rfl, rfl⟩ ?_)
                              clear hl a; intro a hl
                              refine wl (wl_skip hl rfl ⟨_, _, rfl, rfl, rfl⟩ ?_)
                              clear hl a; intro a hl
                              refine wl (wl_val hl rfl trivial (r_pickF hl rfl rfl) ?_)
                              clear hl a; intro a hl
                              refine w_nil ?_
                              have hl2 := hl.add (t := 0) (hl.add (t := 5) (hl.add (t := 145) (hl.nil) rfl) rfl) rfl; clear hl; have hl := hl2; clear hl2
                              refine then_normal ?_
                              refine c_condF hl rfl ?_
                              have hf := dl_7n (l := l.pl) hhd hk7 (fun ⟨q1, q2⟩ => by have q1 : ¬ m.r = g.st.fid := q1; omega)
                              refine wp_skip ?_
                              refine blk_normal ?_
                              first
                              | (have hqq := hp2; refine f_end0 (F' := GF gb g' l' (Z ++ G9)) hl hh rfl (by first | exact keeps_self | exact keeps_left) ?_; exact ⟨rfl, g', l', G9, he9, hg', hl', hp1.trans (by rw [hf]; try rfl), hp2.trans (by rw [hf]; try rfl), rfl⟩)
                              | (have hqq := hc3; refine f_end0 (F' := (gb, C (GtV.c { g with ys := orB g.ys (sh1 m.d) }) 127) :: (g.st.E ++ (g.qE ++ ((g.rb, MD (kInt .u32) g.rl g.rn) :: (g.oE ++ ((g.led, C (LdV.c l) 91) :: (l.d.E ++ Z))))))) hl hh rfl (by repeat (first | exact keeps_nil | apply keeps_cons (by repeat (first | exact find_head | apply find_tail | apply find_skip)) (by first  | rfl) | exact keeps_self | exact keeps_left | apply keeps_app | apply keeps_mv | apply keeps_skip)) ?_; exact ⟨rfl, GO.same (g' := { g with ys := orB g.ys (sh1 m.d) }) (ys_ok hg (orB_bd _ _)) hl9 (by rw [hf]; rfl) (by rw [hf]) rfl⟩)
                              | (refine f_end0 (F' := (gb, C (GtV.c g) 127) :: (g.st.E ++ (g.qE ++ ((g.rb, MD (kInt .u32) g.rl g.rn) :: (g.oE ++ ((g.led, C (LdV.c l) 91) :: (l.d.E ++ Z))))))) hl hh rfl (by repeat (first | exact keeps_nil | apply keeps_cons (by repeat (first | exact find_head | apply find_tail | apply find_skip)) (by first  | rfl) | exact keeps_self | exact keeps_left | apply keeps_app | apply keeps_mv | apply keeps_skip)) ?_; exact ⟨rfl, GO.same hg hl9 (by rw [hf]) (by rw [hf]) rfl⟩)
                          · intro hc7
                            try simp only [decide_eq_true_eq, decide_eq_false_iff_not, Bool.not_eq_true', Bool.not_eq_false', Bool.not_eq_true, Bool.not_eq_false, Bool.and_eq_true, Bool.or_eq_true, Bool.and_eq_false_iff, Bool.or_eq_false_iff, Bool.not_not, ne_eq, Int.not_lt, Int.not_le, Decidable.not_not, beq_iff_eq, bne_iff_ne] at hc7
                            have hn4 : ¬ (m.k = 6 ∧ g.pl.st.ph = 3 ∧ g.pl.au = true) := fun ⟨q1, q2, q3⟩ => by have q2 : g.st.ph = 3 := q2; have q3 : g.au = true := q3; first | omega | (simp_all; done)
                            have hf := dl_x (l := l.pl) hhd hn1 hn2 hn3 hn4
                            refine wp_skip ?_
                            refine blk_normal ?_
                            first
                            | (have hqq := hp2; refine f_end0 (F' := GF gb g' l' (Z ++ G9)) hl hh rfl (by first | exact keeps_self | exact keeps_left) ?_; exact ⟨rfl, g', l', G9, he9, hg', hl', hp1.trans (by rw [hf]; try rfl), hp2.trans (by rw [hf]; try rfl), rfl⟩)
                            | (have hqq := hc3; refine f_end0 (F' := (gb, C (GtV.c { g with ys := orB g.ys (sh1 m.d) }) 127) :: (g.st.E ++ (g.qE ++ ((g.rb, MD (kInt .u32) g.rl g.rn) :: (g.oE ++ ((g.led, C (LdV.c l) 91) :: (l.d.E ++ Z))))))) hl hh rfl (by repeat (first | exact keeps_nil | apply keeps_cons (by repeat (first | exact find_head | apply find_tail | apply find_skip)) (by first  | rfl) | exact keeps_self | exact keeps_left | apply keeps_app | apply keeps_mv | apply keeps_skip)) ?_; exact ⟨rfl, GO.same (g' := { g with ys := orB g.ys (sh1 m.d) }) (ys_ok hg (orB_bd _ _)) hl9 (by rw [hf]; rfl) (by rw [hf]) rfl⟩)
                            | (refine f_end0 (F' := (gb, C (GtV.c g) 127) :: (g.st.E ++ (g.qE ++ ((g.rb, MD (kInt .u32) g.rl g.rn) :: (g.oE ++ ((g.led, C (LdV.c l) 91) :: (l.d.E ++ Z))))))) hl hh rfl (by repeat (first | exact keeps_nil | apply keeps_cons (by repeat (first | exact find_head | apply find_tail | apply find_skip)) (by first  | rfl) | exact keeps_self | exact keeps_left | apply keeps_app | apply keeps_mv | apply keeps_skip)) ?_; exact ⟨rfl, GO.same hg hl9 (by rw [hf]) (by rw [hf]) rfl⟩)
                        · intro hg39; clear hl; intro hl
                          try simp only [decide_eq_true_eq, decide_eq_false_iff_not, Bool.not_eq_true', Bool.not_eq_false', Bool.not_eq_true, Bool.not_eq_false, Bool.and_eq_true, Bool.or_eq_true, Bool.and_eq_false_iff, Bool.or_eq_false_iff, Bool.not_not, ne_eq, Int.not_lt, Int.not_le, Decidable.not_not, beq_iff_eq, bne_iff_ne] at hg39
                          refine wl (wl_skip hl rfl ⟨_, _, rfl, rfl, rfl⟩ ?_)
                          clear hl a; intro a hl
                          refine wl (wl_skip hl rfl ⟨_, _, rfl, rfl, rfl⟩ ?_)
                          clear hl a; intro a hl
                          refine wl (wl_skip hl rfl ⟨_, _, rfl, rfl, rfl⟩ ?_)
                          clear hl a; intro a hl
                          refine wl (wl_skip hl rfl ⟨_, _, rfl, rfl, rfl⟩ ?_)
                          clear hl a; intro a hl
                          refine wl (wl_val hl rfl trivial (r_pickF hl rfl rfl) ?_)
                          clear hl a; intro a hl
                          refine wl (wl_val hl rfl trivial (r_assign hl rfl) ?_)
                          clear hl a; intro a hl
                          refine w_nil ?_
                          have hl2 := hl.add (t := 0) (hl.add (t := 3) (hl.add (t := 4) (hl.add (t := 5) (hl.add (t := 121) (hl.nil) rfl) rfl) rfl) rfl) rfl; clear hl; have hl := hl2; clear hl2
                          refine then_normal ?_
                          refine c_condF hl rfl ?_
                          have hn4 : ¬ (m.k = 6 ∧ g.pl.st.ph = 3 ∧ g.pl.au = true) := fun ⟨q1, q2, q3⟩ => by have q2 : g.st.ph = 3 := q2; have q3 : g.au = true := q3; first | omega | (simp_all; done)
                          have hf := dl_x (l := l.pl) hhd hn1 hn2 hn3 hn4
                          refine wp_skip ?_
                          refine blk_normal ?_
                          first
                          | (have hqq := hp2; refine f_end0 (F' := GF gb g' l' (Z ++ G9)) hl hh rfl (by first | exact keeps_self | exact keeps_left) ?_; exact ⟨rfl, g', l', G9, he9, hg', hl', hp1.trans (by rw [hf]; try rfl), hp2.trans (by rw [hf]; try rfl), rfl⟩)
                          | (have hqq := hc3; refine f_end0 (F' := (gb, C (GtV.c { g with ys := orB g.ys (sh1 m.d) }) 127) :: (g.st.E ++ (g.qE ++ ((g.rb, MD (kInt .u32) g.rl g.rn) :: (g.oE ++ ((g.led, C (LdV.c l) 91) :: (l.d.E ++ Z))))))) hl hh rfl (by repeat (first | exact keeps_nil | apply keeps_cons (by repeat (first | exact find_head | apply find_tail | apply find_skip)) (by first  | rfl) | exact keeps_self | exact keeps_left | apply keeps_app | apply keeps_mv | apply keeps_skip)) ?_; exact ⟨rfl, GO.same (g' := { g with ys := orB g.ys (sh1 m.d) }) (ys_ok hg (orB_bd _ _)) hl9 (by rw [hf]; rfl) (by rw [hf]) rfl⟩)
                          | (refine f_end0 (F' := (gb, C (GtV.c g) 127) :: (g.st.E ++ (g.qE ++ ((g.rb, MD (kInt .u32) g.rl g.rn) :: (g.oE ++ ((g.led, C (LdV.c l) 91) :: (l.d.E ++ Z))))))) hl hh rfl (by repeat (first | exact keeps_nil | apply keeps_cons (by repeat (first | exact find_head | apply find_tail | apply find_skip)) (by first  | rfl) | exact keeps_self | exact keeps_left | apply keeps_app | apply keeps_mv | apply keeps_skip)) ?_; exact ⟨rfl, GO.same hg hl9 (by rw [hf]) (by rw [hf]) rfl⟩)
                      · intro hg38; clear hl; intro hl
                        try simp only [decide_eq_true_eq, decide_eq_false_iff_not, Bool.not_eq_true', Bool.not_eq_false', Bool.not_eq_true, Bool.not_eq_false, Bool.and_eq_true, Bool.or_eq_true, Bool.and_eq_false_iff, Bool.or_eq_false_iff, Bool.not_not, ne_eq, Int.not_lt, Int.not_le, Decidable.not_not, beq_iff_eq, bne_iff_ne] at hg38
                        refine wl (wl_skip hl rfl ⟨_, _, rfl, rfl, rfl⟩ ?_)
                        clear hl a; intro a hl
                        refine wl (wl_skip hl rfl ⟨_, _, rfl, rfl, rfl⟩ ?_)
                        clear hl a; intro a hl
                        refine wl (wl_skip hl rfl ⟨_, _, rfl, rfl, rfl⟩ ?_)
                        clear hl a; intro a hl
                        refine wl (wl_val hl rfl trivial (r_pickF hl rfl rfl) ?_)
                        clear hl a; intro a hl
                        refine wl (wl_val hl rfl trivial (r_move hl rfl) ?_)
                        clear hl a; intro a hl
                        refine wl (wl_skip hl rfl ⟨_, _, rfl, rfl, rfl⟩ ?_)
                        clear hl a; intro a hl
                        refine wl (wl_skip hl rfl ⟨_, _, rfl, rfl, rfl⟩ ?_)
                        clear hl a; intro a hl
                        refine wl (wl_skip hl rfl ⟨_, _, rfl, rfl, rfl⟩ ?_)
                        clear hl a; intro a hl
                        refine wl (wl_skip hl rfl ⟨_, _, rfl, rfl, rfl⟩ ?_)
                        clear hl a; intro a hl
                        refine wl (wl_val hl rfl trivial (r_pickF hl rfl rfl) ?_)
                        clear hl a; intro a hl
                        refine wl (wl_val hl rfl trivial (r_assign hl rfl) ?_)
                        clear hl a; intro a hl
                        refine w_nil ?_
                        have hl2 := hl.add (t := 0) (hl.add (t := 3) (hl.add (t := 4) (hl.add (t := 5) (hl.add (t := 121) (hl.nil) rfl) rfl) rfl) rfl) rfl; clear hl; have hl := hl2; clear hl2
                        refine then_normal ?_
                        refine c_condF hl rfl ?_
                        have hn4 : ¬ (m.k = 6 ∧ g.pl.st.ph = 3 ∧ g.pl.au = true) := fun ⟨q1, q2, q3⟩ => by have q2 : g.st.ph = 3 := q2; have q3 : g.au = true := q3; first | omega | (simp_all; done)
                        have hf := dl_x (l := l.pl) hhd hn1 hn2 hn3 hn4
                        refine wp_skip ?_
                        refine blk_normal ?_
                        first
                        | (have hqq := hp2; refine f_end0 (F' := GF gb g' l' (Z ++ G9)) hl hh rfl (by first | exact keeps_self | exact keeps_left) ?_; exact ⟨rfl, g', l', G9, he9, hg', hl', hp1.trans (by rw [hf]; try rfl), hp2.trans (by rw [hf]; try rfl), rfl⟩)
                        | (have hqq := hc3; refine f_end0 (F' := (gb, C (GtV.c { g with ys := orB g.ys (sh1 m.d) }) 127) :: (g.st.E ++ (g.qE ++ ((g.rb, MD (kInt .u32) g.rl g.rn) :: (g.oE ++ ((g.led, C (LdV.c l) 91) :: (l.d.E ++ Z))))))) hl hh rfl (by repeat (first | exact keeps_nil | apply keeps_cons (by repeat (first | exact find_head | apply find_tail | apply find_skip)) (by first  | rfl) | exact keeps_self | exact keeps_left | apply keeps_app | apply keeps_mv | apply keeps_skip)) ?_; exact ⟨rfl, GO.same (g' := { g with ys := orB g.ys (sh1 m.d) }) (ys_ok hg (orB_bd _ _)) hl9 (by rw [hf]; rfl) (by rw [hf]) rfl⟩)
                        | (refine f_end0 (F' := (gb, C (GtV.c g) 127) :: (g.st.E ++ (g.qE ++ ((g.rb, MD (kInt .u32) g.rl g.rn) :: (g.oE ++ ((g.led, C (LdV.c l) 91) :: (l.d.E ++ Z))))))) hl hh rfl (by repeat (first | exact keeps_nil | apply keeps_cons (by repeat (first | exact find_head | apply find_tail | apply find_skip)) (by first  | rfl) | exact keeps_self | exact keeps_left | apply keeps_app | apply keeps_mv | apply keeps_skip)) ?_; exact ⟨rfl, GO.same hg hl9 (by rw [hf]) (by rw [hf]) rfl⟩)
                  · intro hg32; clear hl; intro hl
                    try simp only [decide_eq_true_eq, decide_eq_false_iff_not, Bool.not_eq_true', Bool.not_eq_false', Bool.not_eq_true, Bool.not_eq_false, Bool.and_eq_true, Bool.or_eq_true, Bool.and_eq_false_iff, Bool.or_eq_false_iff, Bool.not_not, ne_eq, Int.not_lt, Int.not_le, Decidable.not_not, beq_iff_eq, bne_iff_ne] at hg32
                    refine wl (wl_skip hl rfl ⟨_, _, rfl, rfl, rfl⟩ ?_)
                    clear hl a; intro a hl
                    refine wl (wl_skip hl rfl ⟨_, _, rfl, rfl, rfl⟩ ?_)
                    clear hl a; intro a hl
                    refine wl (wl_skip hl rfl ⟨_, _, rfl, rfl, rfl⟩ ?_)
                    clear hl a; intro a hl
                    refine wl (wl_val hl rfl trivial (r_pickF hl rfl rfl) ?_)
                    clear hl a; intro a hl
                    refine wl (wl_val hl rfl trivial (r_move hl rfl) ?_)
                    clear hl a; intro a hl
                    refine wl (wl_skip hl rfl ⟨_, _, rfl, rfl, rfl⟩ ?_)
                    clear hl a; intro a hl
                    refine wl (wl_skip hl rfl ⟨_, _, rfl, rfl, rfl⟩ ?_)
                    clear hl a; intro a hl
                    refine wl (wl_skip hl rfl ⟨_, _, rfl, rfl, rfl⟩ ?_)
                    clear hl a; intro a hl
                    refine wl (wl_skip hl rfl ⟨_, _, rfl, rfl, rfl⟩ ?_)
                    clear hl a; intro a hl
                    refine wl (wl_val hl rfl trivial (r_pickF hl rfl rfl) ?_)
                    clear hl a; intro a hl
                    refine wl (wl_val hl rfl trivial (r_assign hl rfl) ?_)
                    clear hl a; intro a hl
                    refine w_nil ?_
                    have hl2 := hl.add (t := 0) (hl.add (t := 3) (hl.add (t := 4) (hl.add (t := 5) (hl.add (t := 93) (hl.nil) rfl) rfl) rfl) rfl) rfl; clear hl; have hl := hl2; clear hl2
                    refine then_normal ?_
                    refine c_condF hl rfl ?_
                    have hn3 : ¬ (m.k = 6 ∧ g.pl.st.ph = 2 ∧ g.pl.au = true) := fun ⟨q1, q2, q3⟩ => by have q2 : g.st.ph = 2 := q2; have q3 : g.au = true := q3; first | omega | (simp_all; done)
                    refine c_seq ?_
                    refine c_region ?_
                    refine wl (wl_val hl rfl trivial (r_field hl rfl fld38_0) ?_)
                    clear hl a; intro a hl
                    refine wl (w_load hl hh rfl trivial one35 rfl (by repeat (first | exact find_head | apply find_tail | apply find_skip)) (by first | exact gtc_led _ | exact gtc_ep _ | exact gtc_vs _ | exact gtc_is _ | exact gtc_fid _ | exact gtc_ph _ | exact gtc_vd _ | exact gtc_q _ | exact gtc_rf _ | exact gtc_ys _ | exact gtc_dn _ | exact gtc_tk _ | exact gtc_au _ | exact gtc_o _ | exact gtc_off _ | rfl) ?_)
                    clear hl a; intro a hl
                    refine wl (wl_val hl rfl trivial (r_eql hl rfl rfl) ?_)
                    clear hl a; intro a hl
                    refine wl (wl_val hl rfl trivial (r_move hl rfl) ?_)
                    clear hl a; intro a hl
                    refine sl_split (t := 125) hl rfl ?_ ?_
                    · intro hg41; clear hl; intro hl
                      try simp only [decide_eq_true_eq, decide_eq_false_iff_not, Bool.not_eq_true', Bool.not_eq_false', Bool.not_eq_true, Bool.not_eq_false, Bool.and_eq_true, Bool.or_eq_true, Bool.and_eq_false_iff, Bool.or_eq_false_iff, Bool.not_not, ne_eq, Int.not_lt, Int.not_le, Decidable.not_not, beq_iff_eq, bne_iff_ne] at hg41
                      refine wl (wl_val hl rfl ⟨_, _, rfl, rfl, rfl⟩ (r_field hl rfl fld87_1) ?_)
                      clear hl a; intro a hl
                      refine wl (w_load hl hh rfl ⟨_, _, rfl, rfl, rfl⟩ one76 rfl (by repeat (first | exact find_head | apply find_tail | apply find_skip)) (by first | exact gtc_led _ | exact gtc_ep _ | exact gtc_vs _ | exact gtc_is _ | exact gtc_fid _ | exact gtc_ph _ | exact gtc_vd _ | exact gtc_q _ | exact gtc_rf _ | exact gtc_ys _ | exact gtc_dn _ | exact gtc_tk _ | exact gtc_au _ | exact gtc_o _ | exact gtc_off _ | rfl) ?_)
                      clear hl a; intro a hl
                      refine wl (wl_val hl rfl ⟨_, _, rfl, rfl, rfl⟩ (r_eql hl rfl rfl) ?_)
                      clear hl a; intro a hl
                      refine wl (wl_val hl rfl trivial (r_pickT hl rfl rfl) ?_)
                      clear hl a; intro a hl
                      refine wl (wl_val hl rfl trivial (r_move hl rfl) ?_)
                      clear hl a; intro a hl
                      refine sl_split (t := 130) hl rfl ?_ ?_
                      · intro hg42; clear hl; intro hl
                        try simp only [decide_eq_true_eq, decide_eq_false_iff_not, Bool.not_eq_true', Bool.not_eq_false', Bool.not_eq_true, Bool.not_eq_false, Bool.and_eq_true, Bool.or_eq_true, Bool.and_eq_false_iff, Bool.or_eq_false_iff, Bool.not_not, ne_eq, Int.not_lt, Int.not_le, Decidable.not_not, beq_iff_eq, bne_iff_ne] at hg42
                        refine wl (wl_val hl rfl ⟨_, _, rfl, rfl, rfl⟩ (r_move hl rfl) ?_)
                        clear hl a; intro a hl
                        refine wl (wl_val hl rfl ⟨_, _, rfl, rfl, rfl⟩ (r_nilCheck hl rfl) ?_)
                        clear hl a; intro a hl
                        refine wl (wl_val hl rfl ⟨_, _, rfl, rfl, rfl⟩ (r_field hl rfl fld127_8) ?_)
                        clear hl a; intro a hl
                        refine wl (w_load hl hh rfl ⟨_, _, rfl, rfl, rfl⟩ one4 rfl (by repeat (first | exact find_head | apply find_tail | apply find_skip)) (by first | exact gtc_led _ | exact gtc_ep _ | exact gtc_vs _ | exact gtc_is _ | exact gtc_fid _ | exact gtc_ph _ | exact gtc_vd _ | exact gtc_q _ | exact gtc_rf _ | exact gtc_ys _ | exact gtc_dn _ | exact gtc_tk _ | exact gtc_au _ | exact gtc_o _ | exact gtc_off _ | rfl) ?_)
                        clear hl a; intro a hl
                        refine wl (wl_val hl rfl trivial (r_pickT hl rfl rfl) ?_)
                        clear hl a; intro a hl
                        refine wl (wl_val hl rfl trivial (r_assign hl rfl) ?_)
                        clear hl a; intro a hl
                        refine w_nil ?_
                        have hl2 := hl.add (t := 0) (hl.add (t := 3) (hl.add (t := 4) (hl.add (t := 5) (hl.add (t := 121) (hl.nil) rfl) rfl) rfl) rfl) rfl; clear hl; have hl := hl2; clear hl2
                        refine then_normal ?_
                        refine c_cond hl rfl ?_ ?_
                        · intro hc7
                          try simp only [decide_eq_true_eq, decide_eq_false_iff_not, Bool.not_eq_true', Bool.not_eq_false', Bool.not_eq_true, Bool.not_eq_false, Bool.and_eq_true, Bool.or_eq_true, Bool.and_eq_false_iff, Bool.or_eq_false_iff, Bool.not_not, ne_eq, Int.not_lt, Int.not_le, Decidable.not_not, beq_iff_eq, bne_iff_ne] at hc7
                          have hk7 : m.k = 6 ∧ g.pl.st.ph = 3 ∧ g.pl.au = true := ⟨by omega, (show g.st.ph = 3 by omega), (show g.au = true by first | assumption | (simp_all; done))⟩
                          refine c_seq ?_
                          refine c_region ?_
                          refine wl (wl_val hl rfl trivial (r_field hl rfl fld38_5) ?_)
                          clear hl a; intro a hl
                          refine wl (w_load hl hh rfl trivial one36 rfl (by repeat (first | exact find_head | apply find_tail | apply find_skip)) (by first | exact gtc_led _ | exact gtc_ep _ | exact gtc_vs _ | exact gtc_is _ | exact gtc_fid _ | exact gtc_ph _ | exact gtc_vd _ | exact gtc_q _ | exact gtc_rf _ | exact gtc_ys _ | exact gtc_dn _ | exact gtc_tk _ | exact gtc_au _ | exact gtc_o _ | exact gtc_off _ | rfl) ?_)
                          clear hl a; intro a hl
                          refine wl (wl_val hl rfl trivial (r_field hl rfl fld87_0) ?_)
                          clear hl a; intro a hl
                          refine wl (w_load hl hh rfl trivial one36 rfl (by repeat (first | exact find_head | apply find_tail | apply find_skip)) (by first | exact gtc_led _ | exact gtc_ep _ | exact gtc_vs _ | exact gtc_is _ | exact gtc_fid _ | exact gtc_ph _ | exact gtc_vd _ | exact gtc_q _ | exact gtc_rf _ | exact gtc_ys _ | exact gtc_dn _ | exact gtc_tk _ | exact gtc_au _ | exact gtc_o _ | exact gtc_off _ | rfl) ?_)
                          clear hl a; intro a hl
                          refine wl (wl_val hl rfl trivial (r_neq hl rfl rfl) ?_)
                          clear hl a; intro a hl
                          refine wl (wl_val hl rfl trivial (r_move hl rfl) ?_)
                          clear hl a; intro a hl
                          refine sl_split (t := 141) hl rfl ?_ ?_
                          · intro hg43; clear hl; intro hl
                            try simp only [decide_eq_true_eq, decide_eq_false_iff_not, Bool.not_eq_true', Bool.not_eq_false', Bool.not_eq_true, Bool.not_eq_false, Bool.and_eq_true, Bool.or_eq_true, Bool.and_eq_false_iff, Bool.or_eq_false_iff, Bool.not_not, ne_eq, Int.not_lt, Int.not_le, Decidable.not_not, beq_iff_eq, bne_iff_ne] at hg43
                            refine wl (wl_val hl rfl ⟨_, _, rfl, rfl, rfl⟩ (r_field hl rfl fld38_6) ?_)
                            clear hl a; intro a hl
                            refine wl (w_load hl hh rfl ⟨_, _, rfl, rfl, rfl⟩ one36 rfl (by repeat (first | exact find_head | apply find_tail | apply find_skip)) (by first | exact gtc_led _ | exact gtc_ep _ | exact gtc_vs _ | exact gtc_is _ | exact gtc_fid _ | exact gtc_ph _ | exact gtc_vd _ | exact gtc_q _ | exact gtc_rf _ | exact gtc_ys _ | exact gtc_dn _ | exact gtc_tk _ | exact gtc_au _ | exact gtc_o _ | exact gtc_off _ | rfl) ?_)
                            clear hl a; intro a hl
                            refine wl (wl_val hl rfl ⟨_, _, rfl, rfl, rfl⟩ (r_eql hl rfl rfl) ?_)
                            clear hl a; intro a hl
                            refine wl (wl_val hl rfl trivial (r_pickT hl rfl rfl) ?_)
                            clear hl a; intro a hl
                            refine w_nil ?_
                            have hl2 := hl.add (t := 0) (hl.add (t := 5) (hl.add (t := 145) (hl.nil) rfl) rfl) rfl; clear hl; have hl := hl2; clear hl2
                            refine then_normal ?_
                            refine c_cond hl rfl ?_ ?_
                            · intro hc8
                              try simp only [decide_eq_true_eq, decide_eq_false_iff_not, Bool.not_eq_true', Bool.not_eq_false', Bool.not_eq_true, Bool.not_eq_false, Bool.and_eq_true, Bool.or_eq_true, Bool.and_eq_false_iff, Bool.or_eq_false_iff, Bool.not_not, ne_eq, Int.not_lt, Int.not_le, Decidable.not_not, beq_iff_eq, bne_iff_ne] at hc8
                              have hf := dl_7y (l := l.pl) hhd hk7 ⟨(show ¬ m.r = g.st.fid by omega), by omega⟩
                              refine c_region ?_
                              refine wl (wl_val hl rfl trivial (r_move hl rfl) ?_)
                              clear hl a; intro a hl
                              refine wl (wl_val hl rfl trivial (r_move hl rfl) ?_)
                              clear hl a; intro a hl
                              refine wl (w_call hl hh rfl trivial rfl cal52 rfl (confirm_spec Z gb g l hg hl9 (sh1 m.d) hvl) (by repeat (first | exact keeps_nil | apply keeps_cons (by repeat (first | exact find_head | apply find_tail | apply find_skip)) (by first  | rfl) | exact keeps_self | exact keeps_left | apply keeps_app | apply keeps_mv | apply keeps_skip)) trivial ?_)
                              clear hl hh a w; intro vc Fc a w hR hl hh
                              obtain ⟨rfl, g', l', G9, he9, hg', hl', hp1, hp2, rfl⟩ := hR
                              try simp only [List.cons_append, List.nil_append, List.append_assoc, List.append_nil] at hh
                              refine w_nil ?_
                              have hl2 := hl.nil; clear hl; have hl := hl2; clear hl2
                              refine blk_normal ?_
                              first
                              | (have hqq := hp2; refine f_end0 (F' := GF gb g' l' (Z ++ G9)) hl hh rfl (by first | exact keeps_self | exact keeps_left) ?_; exact ⟨rfl, g', l', G9, he9, hg', hl', hp1.trans (by rw [hf]; try rfl), hp2.trans (by rw [hf]; try rfl), rfl⟩)
                              | (have hqq := hc3; refine f_end0 (F' := (gb, C (GtV.c { g with ys := orB g.ys (sh1 m.d) }) 127) :: (g.st.E ++ (g.qE ++ ((g.rb, MD (kInt .u32) g.rl g.rn) :: (g.oE ++ ((g.led, C (LdV.c l) 91) :: (l.d.E ++ Z))))))) hl hh rfl (by repeat (first | exact keeps_nil | apply keeps_cons (by repeat (first | exact find_head | apply find_tail | apply find_skip)) (by first  | rfl) | exact keeps_self | exact keeps_left | apply keeps_app | apply keeps_mv | apply keeps_skip)) ?_; exact ⟨rfl, GO.same (g' := { g with ys := orB g.ys (sh1 m.d) }) (ys_ok hg (orB_bd _ _)) hl9 (by rw [hf]; rfl) (by rw [hf]) rfl⟩)
                              | (refine f_end0 (F' := (gb, C (GtV.c g) 127) :: (g.st.E ++ (g.qE ++ ((g.rb, MD (kInt .u32) g.rl g.rn) :: (g.oE ++ ((g.led, C (LdV.c l) 91) :: (l.d.E ++ Z))))))) hl hh rfl (by repeat (first | exact keeps_nil | apply keeps_cons (by repeat (first | exact find_head | apply find_tail | apply find_skip)) (by first  | rfl) | exact keeps_self | exact keeps_left | apply keeps_app | apply keeps_mv | apply keeps_skip)) ?_; exact ⟨rfl, GO.same hg hl9 (by rw [hf]) (by rw [hf]) rfl⟩)
                            · intro hc8
                              try simp only [decide_eq_true_eq, decide_eq_false_iff_not, Bool.not_eq_true', Bool.not_eq_false', Bool.not_eq_true, Bool.not_eq_false, Bool.and_eq_true, Bool.or_eq_true, Bool.and_eq_false_iff, Bool.or_eq_false_iff, Bool.not_not, ne_eq, Int.not_lt, Int.not_le, Decidable.not_not, beq_iff_eq, bne_iff_ne] at hc8
                              have hf := dl_7n (l := l.pl) hhd hk7 (fun ⟨q1, q2⟩ => by have q1 : ¬ m.r = g.st.fid := q1; omega)
                              refine wp_skip ?_
                              refine blk_normal ?_
                              first
                              | (have hqq := hp2; refine f_end0 (F' := GF gb g' l' (Z ++ G9)) hl hh rfl (by first | exact keeps_self | exact keeps_left) ?_; exact ⟨rfl, g', l', G9, he9, hg', hl', hp1.trans (by rw [hf]; try rfl), hp2.trans (by rw [hf]; try rfl), rfl⟩)
                              | (have hqq := hc3; refine f_end0 (F' := (gb, C (GtV.c { g with ys := orB g.ys (sh1 m.d) }) 127) :: (g.st.E ++ (g.qE ++ ((g.rb, MD (kInt .u32) g.rl g.rn) :: (g.oE ++ ((g.led, C (LdV.c l) 91) :: (l.d.E ++ Z))))))) hl hh rfl (by repeat (first | exact keeps_nil | apply keeps_cons (by repeat (first | exact find_head | apply find_tail | apply find_skip)) (by first  | rfl) | exact keeps_self | exact keeps_left | apply keeps_app | apply keeps_mv | apply keeps_skip)) ?_; exact ⟨rfl, GO.same (g' := { g with ys := orB g.ys (sh1 m.d) }) (ys_ok hg (orB_bd _ _)) hl9 (by rw [hf]; rfl) (by rw [hf]) rfl⟩)
                              | (refine f_end0 (F' := (gb, C (GtV.c g) 127) :: (g.st.E ++ (g.qE ++ ((g.rb, MD (kInt .u32) g.rl g.rn) :: (g.oE ++ ((g.led, C (LdV.c l) 91) :: (l.d.E ++ Z))))))) hl hh rfl (by repeat (first | exact keeps_nil | apply keeps_cons (by repeat (first | exact find_head | apply find_tail | apply find_skip)) (by first  | rfl) | exact keeps_self | exact keeps_left | apply keeps_app | apply keeps_mv | apply keeps_skip)) ?_; exact ⟨rfl, GO.same hg hl9 (by rw [hf]) (by rw [hf]) rfl⟩)
                          · intro hg43; clear hl; intro hl
                            try simp only [decide_eq_true_eq, decide_eq_false_iff_not, Bool.not_eq_true', Bool.not_eq_false', Bool.not_eq_true, Bool.not_eq_false, Bool.and_eq_true, Bool.or_eq_true, Bool.and_eq_false_iff, Bool.or_eq_false_iff, Bool.not_not, ne_eq, Int.not_lt, Int.not_le, Decidable.not_not, beq_iff_eq, bne_iff_ne] at hg43
                            refine wl (wl_skip hl rfl ⟨_, _, rfl, rfl, rfl⟩ ?_)
                            clear hl a; intro a hl
                            refine wl (wl_skip hl rfl ⟨_, _, rfl, rfl, rfl⟩ ?_)
                            clear hl a; intro a hl
                            refine wl (wl_skip hl rfl ⟨_, _, rfl, rfl, rfl⟩ ?_)
                            clear hl a; intro a hl
                            refine wl (wl_val hl rfl trivial (r_pickF hl rfl rfl) ?_)
                            clear hl a; intro a hl
                            refine w_nil ?_
                            have hl2 := hl.add (t := 0) (hl.add (t := 5) (hl.add (t := 145) (hl.nil) rfl) rfl) rfl; clear hl; have hl := hl2; clear hl2
                            refine then_normal ?_
                            refine c_condF hl rfl ?_
                            have hf := dl_7n (l := l.pl) hhd hk7 (fun ⟨q1, q2⟩ => by have q1 : ¬ m.r = g.st.fid := q1; omega)
                            refine wp_skip ?_
                            refine blk_normal ?_
                            first
                            | (have hqq := hp2; refine f_end0 (F' := GF gb g' l' (Z ++ G9)) hl hh rfl (by first | exact keeps_self | exact keeps_left) ?_; exact ⟨rfl, g', l', G9, he9, hg', hl', hp1.trans (by rw [hf]; try rfl), hp2.trans (by rw [hf]; try rfl), rfl⟩)
                            | (have hqq := hc3; refine f_end0 (F' := (gb, C (GtV.c { g with ys := orB g.ys (sh1 m.d) }) 127) :: (g.st.E ++ (g.qE ++ ((g.rb, MD (kInt .u32) g.rl g.rn) :: (g.oE ++ ((g.led, C (LdV.c l) 91) :: (l.d.E ++ Z))))))) hl hh rfl (by repeat (first | exact keeps_nil | apply keeps_cons (by repeat (first | exact find_head | apply find_tail | apply find_skip)) (by first  | rfl) | exact keeps_self | exact keeps_left | apply keeps_app | apply keeps_mv | apply keeps_skip)) ?_; exact ⟨rfl, GO.same (g' := { g with ys := orB g.ys (sh1 m.d) }) (ys_ok hg (orB_bd _ _)) hl9 (by rw [hf]; rfl) (by rw [hf]) rfl⟩)
                            | (refine f_end0 (F' := (gb, C (GtV.c g) 127) :: (g.st.E ++ (g.qE ++ ((g.rb, MD (kInt .u32) g.rl g.rn) :: (g.oE ++ ((g.led, C (LdV.c l) 91) :: (l.d.E ++ Z))))))) hl hh rfl (by repeat (first | exact keeps_nil | apply keeps_cons (by repeat (first | exact find_head | apply find_tail | apply find_skip)) (by first  | rfl) | exact keeps_self | exact keeps_left | apply keeps_app | apply keeps_mv | apply keeps_skip)) ?_; exact ⟨rfl, GO.same hg hl9 (by rw [hf]) (by rw [hf]) rfl⟩)
                        · intro hc7
                          try simp only [decide_eq_true_eq, decide_eq_false_iff_not, Bool.not_eq_true', Bool.not_eq_false', Bool.not_eq_true, Bool.not_eq_false, Bool.and_eq_true, Bool.or_eq_true, Bool.and_eq_false_iff, Bool.or_eq_false_iff, Bool.not_not, ne_eq, Int.not_lt, Int.not_le, Decidable.not_not, beq_iff_eq, bne_iff_ne] at hc7
                          have hn4 : ¬ (m.k = 6 ∧ g.pl.st.ph = 3 ∧ g.pl.au = true) := fun ⟨q1, q2, q3⟩ => by have q2 : g.st.ph = 3 := q2; have q3 : g.au = true := q3; first | omega | (simp_all; done)
                          have hf := dl_x (l := l.pl) hhd hn1 hn2 hn3 hn4
                          refine wp_skip ?_
                          refine blk_normal ?_
                          first
                          | (have hqq := hp2; refine f_end0 (F' := GF gb g' l' (Z ++ G9)) hl hh rfl (by first | exact keeps_self | exact keeps_left) ?_; exact ⟨rfl, g', l', G9, he9, hg', hl', hp1.trans (by rw [hf]; try rfl), hp2.trans (by rw [hf]; try rfl), rfl⟩)
                          | (have hqq := hc3; refine f_end0 (F' := (gb, C (GtV.c { g with ys := orB g.ys (sh1 m.d) }) 127) :: (g.st.E ++ (g.qE ++ ((g.rb, MD (kInt .u32) g.rl g.rn) :: (g.oE ++ ((g.led, C (LdV.c l) 91) :: (l.d.E ++ Z))))))) hl hh rfl (by repeat (first | exact keeps_nil | apply keeps_cons (by repeat (first | exact find_head | apply find_tail | apply find_skip)) (by first  | rfl) | exact keeps_self | exact keeps_left | apply keeps_app | apply keeps_mv | apply keeps_skip)) ?_; exact ⟨rfl, GO.same (g' := { g with ys := orB g.ys (sh1 m.d) }) (ys_ok hg (orB_bd _ _)) hl9 (by rw [hf]; rfl) (by rw [hf]) rfl⟩)
                          | (refine f_end0 (F' := (gb, C (GtV.c g) 127) :: (g.st.E ++ (g.qE ++ ((g.rb, MD (kInt .u32) g.rl g.rn) :: (g.oE ++ ((g.led, C (LdV.c l) 91) :: (l.d.E ++ Z))))))) hl hh rfl (by repeat (first | exact keeps_nil | apply keeps_cons (by repeat (first | exact find_head | apply find_tail | apply find_skip)) (by first  | rfl) | exact keeps_self | exact keeps_left | apply keeps_app | apply keeps_mv | apply keeps_skip)) ?_; exact ⟨rfl, GO.same hg hl9 (by rw [hf]) (by rw [hf]) rfl⟩)
                      · intro hg42; clear hl; intro hl
                        try simp only [decide_eq_true_eq, decide_eq_false_iff_not, Bool.not_eq_true', Bool.not_eq_false', Bool.not_eq_true, Bool.not_eq_false, Bool.and_eq_true, Bool.or_eq_true, Bool.and_eq_false_iff, Bool.or_eq_false_iff, Bool.not_not, ne_eq, Int.not_lt, Int.not_le, Decidable.not_not, beq_iff_eq, bne_iff_ne] at hg42
                        refine wl (wl_skip hl rfl ⟨_, _, rfl, rfl, rfl⟩ ?_)
                        clear hl a; intro a hl
                        refine wl (wl_skip hl rfl ⟨_, _, rfl, rfl, rfl⟩ ?_)
                        clear hl a; intro a hl
                        refine wl (wl_skip hl rfl ⟨_, _, rfl, rfl, rfl⟩ ?_)
                        clear hl a; intro a hl
                        refine wl (wl_skip hl rfl ⟨_, _, rfl, rfl, rfl⟩ ?_)
                        clear hl a; intro a hl
                        refine wl (wl_val hl rfl trivial (r_pickF hl rfl rfl) ?_)
                        clear hl a; intro a hl
                        refine wl (wl_val hl rfl trivial (r_assign hl rfl) ?_)
                        clear hl a; intro a hl
                        refine w_nil ?_
                        have hl2 := hl.add (t := 0) (hl.add (t := 3) (hl.add (t := 4) (hl.add (t := 5) (hl.add (t := 121) (hl.nil) rfl) rfl) rfl) rfl) rfl; clear hl; have hl := hl2; clear hl2
                        refine then_normal ?_
                        refine c_condF hl rfl ?_
                        have hn4 : ¬ (m.k = 6 ∧ g.pl.st.ph = 3 ∧ g.pl.au = true) := fun ⟨q1, q2, q3⟩ => by have q2 : g.st.ph = 3 := q2; have q3 : g.au = true := q3; first | omega | (simp_all; done)
                        have hf := dl_x (l := l.pl) hhd hn1 hn2 hn3 hn4
                        refine wp_skip ?_
                        refine blk_normal ?_
                        first
                        | (have hqq := hp2; refine f_end0 (F' := GF gb g' l' (Z ++ G9)) hl hh rfl (by first | exact keeps_self | exact keeps_left) ?_; exact ⟨rfl, g', l', G9, he9, hg', hl', hp1.trans (by rw [hf]; try rfl), hp2.trans (by rw [hf]; try rfl), rfl⟩)
                        | (have hqq := hc3; refine f_end0 (F' := (gb, C (GtV.c { g with ys := orB g.ys (sh1 m.d) }) 127) :: (g.st.E ++ (g.qE ++ ((g.rb, MD (kInt .u32) g.rl g.rn) :: (g.oE ++ ((g.led, C (LdV.c l) 91) :: (l.d.E ++ Z))))))) hl hh rfl (by repeat (first | exact keeps_nil | apply keeps_cons (by repeat (first | exact find_head | apply find_tail | apply find_skip)) (by first  | rfl) | exact keeps_self | exact keeps_left | apply keeps_app | apply keeps_mv | apply keeps_skip)) ?_; exact ⟨rfl, GO.same (g' := { g with ys := orB g.ys (sh1 m.d) }) (ys_ok hg (orB_bd _ _)) hl9 (by rw [hf]; rfl) (by rw [hf]) rfl⟩)
                        | (refine f_end0 (F' := (gb, C (GtV.c g) 127) :: (g.st.E ++ (g.qE ++ ((g.rb, MD (kInt .u32) g.rl g.rn) :: (g.oE ++ ((g.led, C (LdV.c l) 91) :: (l.d.E ++ Z))))))) hl hh rfl (by repeat (first | exact keeps_nil | apply keeps_cons (by repeat (first | exact find_head | apply find_tail | apply find_skip)) (by first  | rfl) | exact keeps_self | exact keeps_left | apply keeps_app | apply keeps_mv | apply keeps_skip)) ?_; exact ⟨rfl, GO.same hg hl9 (by rw [hf]) (by rw [hf]) rfl⟩)
                    · intro hg41; clear hl; intro hl
                      try simp only [decide_eq_true_eq, decide_eq_false_iff_not, Bool.not_eq_true', Bool.not_eq_false', Bool.not_eq_true, Bool.not_eq_false, Bool.and_eq_true, Bool.or_eq_true, Bool.and_eq_false_iff, Bool.or_eq_false_iff, Bool.not_not, ne_eq, Int.not_lt, Int.not_le, Decidable.not_not, beq_iff_eq, bne_iff_ne] at hg41
                      refine wl (wl_skip hl rfl ⟨_, _, rfl, rfl, rfl⟩ ?_)
                      clear hl a; intro a hl
                      refine wl (wl_skip hl rfl ⟨_, _, rfl, rfl, rfl⟩ ?_)
                      clear hl a; intro a hl
                      refine wl (wl_skip hl rfl ⟨_, _, rfl, rfl, rfl⟩ ?_)
                      clear hl a; intro a hl
                      refine wl (wl_val hl rfl trivial (r_pickF hl rfl rfl) ?_)
                      clear hl a; intro a hl
                      refine wl (wl_val hl rfl trivial (r_move hl rfl) ?_)
                      clear hl a; intro a hl
                      refine wl (wl_skip hl rfl ⟨_, _, rfl, rfl, rfl⟩ ?_)
                      clear hl a; intro a hl
                      refine wl (wl_skip hl rfl ⟨_, _, rfl, rfl, rfl⟩ ?_)
                      clear hl a; intro a hl
                      refine wl (wl_skip hl rfl ⟨_, _, rfl, rfl, rfl⟩ ?_)
                      clear hl a; intro a hl
                      refine wl (wl_skip hl rfl ⟨_, _, rfl, rfl, rfl⟩ ?_)
                      clear hl a; intro a hl
                      refine wl (wl_val hl rfl trivial (r_pickF hl rfl rfl) ?_)
                      clear hl a; intro a hl
                      refine wl (wl_val hl rfl trivial (r_assign hl rfl) ?_)
                      clear hl a; intro a hl
                      refine w_nil ?_
                      have hl2 := hl.add (t := 0) (hl.add (t := 3) (hl.add (t := 4) (hl.add (t := 5) (hl.add (t := 121) (hl.nil) rfl) rfl) rfl) rfl) rfl; clear hl; have hl := hl2; clear hl2
                      refine then_normal ?_
                      refine c_condF hl rfl ?_
                      have hn4 : ¬ (m.k = 6 ∧ g.pl.st.ph = 3 ∧ g.pl.au = true) := fun ⟨q1, q2, q3⟩ => by have q2 : g.st.ph = 3 := q2; have q3 : g.au = true := q3; first | omega | (simp_all; done)
                      have hf := dl_x (l := l.pl) hhd hn1 hn2 hn3 hn4
                      refine wp_skip ?_
                      refine blk_normal ?_
                      first
                      | (have hqq := hp2; refine f_end0 (F' := GF gb g' l' (Z ++ G9)) hl hh rfl (by first | exact keeps_self | exact keeps_left) ?_; exact ⟨rfl, g', l', G9, he9, hg', hl', hp1.trans (by rw [hf]; try rfl), hp2.trans (by rw [hf]; try rfl), rfl⟩)
                      | (have hqq := hc3; refine f_end0 (F' := (gb, C (GtV.c { g with ys := orB g.ys (sh1 m.d) }) 127) :: (g.st.E ++ (g.qE ++ ((g.rb, MD (kInt .u32) g.rl g.rn) :: (g.oE ++ ((g.led, C (LdV.c l) 91) :: (l.d.E ++ Z))))))) hl hh rfl (by repeat (first | exact keeps_nil | apply keeps_cons (by repeat (first | exact find_head | apply find_tail | apply find_skip)) (by first  | rfl) | exact keeps_self | exact keeps_left | apply keeps_app | apply keeps_mv | apply keeps_skip)) ?_; exact ⟨rfl, GO.same (g' := { g with ys := orB g.ys (sh1 m.d) }) (ys_ok hg (orB_bd _ _)) hl9 (by rw [hf]; rfl) (by rw [hf]) rfl⟩)
                      | (refine f_end0 (F' := (gb, C (GtV.c g) 127) :: (g.st.E ++ (g.qE ++ ((g.rb, MD (kInt .u32) g.rl g.rn) :: (g.oE ++ ((g.led, C (LdV.c l) 91) :: (l.d.E ++ Z))))))) hl hh rfl (by repeat (first | exact keeps_nil | apply keeps_cons (by repeat (first | exact find_head | apply find_tail | apply find_skip)) (by first  | rfl) | exact keeps_self | exact keeps_left | apply keeps_app | apply keeps_mv | apply keeps_skip)) ?_; exact ⟨rfl, GO.same hg hl9 (by rw [hf]) (by rw [hf]) rfl⟩)
            · intro hg5; clear hl; intro hl
              try simp only [decide_eq_true_eq, decide_eq_false_iff_not, Bool.not_eq_true', Bool.not_eq_false', Bool.not_eq_true, Bool.not_eq_false, Bool.and_eq_true, Bool.or_eq_true, Bool.and_eq_false_iff, Bool.or_eq_false_iff, Bool.not_not, ne_eq, Int.not_lt, Int.not_le, Decidable.not_not, beq_iff_eq, bne_iff_ne] at hg5
              refine wl (wl_skip hl rfl ⟨_, _, rfl, rfl, rfl⟩ ?_)
              clear hl a; intro a hl
              refine wl (wl_skip hl rfl ⟨_, _, rfl, rfl, rfl⟩ ?_)
              clear hl a; intro a hl
              refine wl (wl_skip hl rfl ⟨_, _, rfl, rfl, rfl⟩ ?_)
              clear hl a; intro a hl
              refine wl (wl_val hl rfl trivial (r_pickF hl rfl rfl) ?_)
              clear hl a; intro a hl
              refine wl (wl_val hl rfl trivial (r_assign hl rfl) ?_)
              clear hl a; intro a hl
              refine w_nil ?_
              have hl2 := hl.add (t := 0) (hl.add (t := 3) (hl.add (t := 4) (hl.add (t := 5) (hl.add (t := 45) (hl.nil) rfl) rfl) rfl) rfl) rfl; clear hl; have hl := hl2; clear hl2
              refine then_normal ?_
              refine c_condF hl rfl ?_
              have hn1 : ¬ (m.k = 4 ∧ g.pl.st.ph = 1) := fun ⟨q1, q2⟩ => by have q2 : g.st.ph = 1 := q2; omega
              refine c_seq ?_
              refine c_region ?_
              refine wl (wl_val hl rfl trivial (r_field hl rfl fld38_0) ?_)
              clear hl a; intro a hl
              refine wl (w_load hl hh rfl trivial one35 rfl (by repeat (first | exact find_head | apply find_tail | apply find_skip)) (by first | exact gtc_led _ | exact gtc_ep _ | exact gtc_vs _ | exact gtc_is _ | exact gtc_fid _ | exact gtc_ph _ | exact gtc_vd _ | exact gtc_q _ | exact gtc_rf _ | exact gtc_ys _ | exact gtc_dn _ | exact gtc_tk _ | exact gtc_au _ | exact gtc_o _ | exact gtc_off _ | rfl) ?_)
              clear hl a; intro a hl
              refine wl (wl_val hl rfl trivial (r_eql hl rfl rfl) ?_)
              clear hl a; intro a hl
              refine wl (wl_val hl rfl trivial (r_move hl rfl) ?_)
              clear hl a; intro a hl
              refine sl_split (t := 78) hl rfl ?_ ?_
              · intro hg44; clear hl; intro hl
                try simp only [decide_eq_true_eq, decide_eq_false_iff_not, Bool.not_eq_true', Bool.not_eq_false', Bool.not_eq_true, Bool.not_eq_false, Bool.and_eq_true, Bool.or_eq_true, Bool.and_eq_false_iff, Bool.or_eq_false_iff, Bool.not_not, ne_eq, Int.not_lt, Int.not_le, Decidable.not_not, beq_iff_eq, bne_iff_ne] at hg44
                refine wl (wl_val hl rfl ⟨_, _, rfl, rfl, rfl⟩ (r_field hl rfl fld87_1) ?_)
                clear hl a; intro a hl
                refine wl (w_load hl hh rfl ⟨_, _, rfl, rfl, rfl⟩ one76 rfl (by repeat (first | exact find_head | apply find_tail | apply find_skip)) (by first | exact gtc_led _ | exact gtc_ep _ | exact gtc_vs _ | exact gtc_is _ | exact gtc_fid _ | exact gtc_ph _ | exact gtc_vd _ | exact gtc_q _ | exact gtc_rf _ | exact gtc_ys _ | exact gtc_dn _ | exact gtc_tk _ | exact gtc_au _ | exact gtc_o _ | exact gtc_off _ | rfl) ?_)
                clear hl a; intro a hl
                refine wl (wl_val hl rfl ⟨_, _, rfl, rfl, rfl⟩ (r_neq hl rfl rfl) ?_)
                clear hl a; intro a hl
                refine wl (wl_val hl rfl trivial (r_pickT hl rfl rfl) ?_)
                clear hl a; intro a hl
                refine wl (wl_val hl rfl trivial (r_move hl rfl) ?_)
                clear hl a; intro a hl
                refine sl_split (t := 83) hl rfl ?_ ?_
                · intro hg45; clear hl; intro hl
                  try simp only [decide_eq_true_eq, decide_eq_false_iff_not, Bool.not_eq_true', Bool.not_eq_false', Bool.not_eq_true, Bool.not_eq_false, Bool.and_eq_true, Bool.or_eq_true, Bool.and_eq_false_iff, Bool.or_eq_false_iff, Bool.not_not, ne_eq, Int.not_lt, Int.not_le, Decidable.not_not, beq_iff_eq, bne_iff_ne] at hg45
                  refine wl (wl_val hl rfl ⟨_, _, rfl, rfl, rfl⟩ (r_move hl rfl) ?_)
                  clear hl a; intro a hl
                  refine wl (wl_val hl rfl ⟨_, _, rfl, rfl, rfl⟩ (r_nilCheck hl rfl) ?_)
                  clear hl a; intro a hl
                  refine wl (wl_val hl rfl ⟨_, _, rfl, rfl, rfl⟩ (r_field hl rfl fld127_8) ?_)
                  clear hl a; intro a hl
                  refine wl (w_load hl hh rfl ⟨_, _, rfl, rfl, rfl⟩ one4 rfl (by repeat (first | exact find_head | apply find_tail | apply find_skip)) (by first | exact gtc_led _ | exact gtc_ep _ | exact gtc_vs _ | exact gtc_is _ | exact gtc_fid _ | exact gtc_ph _ | exact gtc_vd _ | exact gtc_q _ | exact gtc_rf _ | exact gtc_ys _ | exact gtc_dn _ | exact gtc_tk _ | exact gtc_au _ | exact gtc_o _ | exact gtc_off _ | rfl) ?_)
                  clear hl a; intro a hl
                  refine wl (wl_val hl rfl ⟨_, _, rfl, rfl, rfl⟩ (r_not hl rfl) ?_)
                  clear hl a; intro a hl
                  refine wl (wl_val hl rfl trivial (r_pickT hl rfl rfl) ?_)
                  clear hl a; intro a hl
                  refine wl (wl_val hl rfl trivial (r_assign hl rfl) ?_)
                  clear hl a; intro a hl
                  refine w_nil ?_
                  have hl2 := hl.add (t := 0) (hl.add (t := 3) (hl.add (t := 4) (hl.add (t := 5) (hl.add (t := 74) (hl.nil) rfl) rfl) rfl) rfl) rfl; clear hl; have hl := hl2; clear hl2
                  refine then_normal ?_
                  refine c_cond hl rfl ?_ ?_
                  · intro hc4
                    try simp only [decide_eq_true_eq, decide_eq_false_iff_not, Bool.not_eq_true', Bool.not_eq_false', Bool.not_eq_true, Bool.not_eq_false, Bool.and_eq_true, Bool.or_eq_true, Bool.and_eq_false_iff, Bool.or_eq_false_iff, Bool.not_not, ne_eq, Int.not_lt, Int.not_le, Decidable.not_not, beq_iff_eq, bne_iff_ne] at hc4
                    have hf := dl_5 (l := l.pl) hhd ⟨by omega, (show ¬ g.st.ph = 1 by omega), (show g.au = false by first | assumption | (simp_all; done))⟩
                    refine c_region ?_
                    refine wl (wl_val hl rfl trivial (r_move hl rfl) ?_)
                    clear hl a; intro a hl
                    refine wl (wl_val hl rfl trivial (r_move hl rfl) ?_)
                    clear hl a; intro a hl
                    refine wl (w_call hl hh rfl trivial rfl cal52 rfl (confirm_spec Z gb g l hg hl9 (sh1 m.d) hvl) (by repeat (first | exact keeps_nil | apply keeps_cons (by repeat (first | exact find_head | apply find_tail | apply find_skip)) (by first  | rfl) | exact keeps_self | exact keeps_left | apply keeps_app | apply keeps_mv | apply keeps_skip)) trivial ?_)
                    clear hl hh a w; intro vc Fc a w hR hl hh
                    obtain ⟨rfl, g', l', G9, he9, hg', hl', hp1, hp2, rfl⟩ := hR
                    try simp only [List.cons_append, List.nil_append, List.append_assoc, List.append_nil] at hh
                    refine w_nil ?_
                    have hl2 := hl.nil; clear hl; have hl := hl2; clear hl2
                    refine blk_normal ?_
                    first
                    | (have hqq := hp2; refine f_end0 (F' := GF gb g' l' (Z ++ G9)) hl hh rfl (by first | exact keeps_self | exact keeps_left) ?_; exact ⟨rfl, g', l', G9, he9, hg', hl', hp1.trans (by rw [hf]; try rfl), hp2.trans (by rw [hf]; try rfl), rfl⟩)
                    | (have hqq := hc3; refine f_end0 (F' := (gb, C (GtV.c { g with ys := orB g.ys (sh1 m.d) }) 127) :: (g.st.E ++ (g.qE ++ ((g.rb, MD (kInt .u32) g.rl g.rn) :: (g.oE ++ ((g.led, C (LdV.c l) 91) :: (l.d.E ++ Z))))))) hl hh rfl (by repeat (first | exact keeps_nil | apply keeps_cons (by repeat (first | exact find_head | apply find_tail | apply find_skip)) (by first  | rfl) | exact keeps_self | exact keeps_left | apply keeps_app | apply keeps_mv | apply keeps_skip)) ?_; exact ⟨rfl, GO.same (g' := { g with ys := orB g.ys (sh1 m.d) }) (ys_ok hg (orB_bd _ _)) hl9 (by rw [hf]; rfl) (by rw [hf]) rfl⟩)
                    | (refine f_end0 (F' := (gb, C (GtV.c g) 127) :: (g.st.E ++ (g.qE ++ ((g.rb, MD (kInt .u32) g.rl g.rn) :: (g.oE ++ ((g.led, C (LdV.c l) 91) :: (l.d.E ++ Z))))))) hl hh rfl (by repeat (first | exact keeps_nil | apply keeps_cons (by repeat (first | exact find_head | apply find_tail | apply find_skip)) (by first  | rfl) | exact keeps_self | exact keeps_left | apply keeps_app | apply keeps_mv | apply keeps_skip)) ?_; exact ⟨rfl, GO.same hg hl9 (by rw [hf]) (by rw [hf]) rfl⟩)
                  · intro hc4
                    try simp only [decide_eq_true_eq, decide_eq_false_iff_not, Bool.not_eq_true', Bool.not_eq_false', Bool.not_eq_true, Bool.not_eq_false, Bool.and_eq_true, Bool.or_eq_true, Bool.and_eq_false_iff, Bool.or_eq_false_iff, Bool.not_not, ne_eq, Int.not_lt, Int.not_le, Decidable.not_not, beq_iff_eq, bne_iff_ne] at hc4
                    have hn2 : ¬ (m.k = 5 ∧ ¬ g.pl.st.ph = 1 ∧ g.pl.au = false) := fun ⟨q1, q2, q3⟩ => by have q2 : ¬ g.st.ph = 1 := q2; have q3 : g.au = false := q3; first | omega | (simp_all; done)
                    refine c_seq ?_
                    refine c_region ?_
                    refine wl (wl_val hl rfl trivial (r_field hl rfl fld38_0) ?_)
                    clear hl a; intro a hl
                    refine wl (w_load hl hh rfl trivial one35 rfl (by repeat (first | exact find_head | apply find_tail | apply find_skip)) (by first | exact gtc_led _ | exact gtc_ep _ | exact gtc_vs _ | exact gtc_is _ | exact gtc_fid _ | exact gtc_ph _ | exact gtc_vd _ | exact gtc_q _ | exact gtc_rf _ | exact gtc_ys _ | exact gtc_dn _ | exact gtc_tk _ | exact gtc_au _ | exact gtc_o _ | exact gtc_off _ | rfl) ?_)
                    clear hl a; intro a hl
                    refine wl (wl_val hl rfl trivial (r_eql hl rfl rfl) ?_)
                    clear hl a; intro a hl
                    refine wl (wl_val hl rfl trivial (r_move hl rfl) ?_)
                    clear hl a; intro a hl
                    refine sl_split (t := 97) hl rfl ?_ ?_
                    · intro hg46; clear hl; intro hl
                      try simp only [decide_eq_true_eq, decide_eq_false_iff_not, Bool.not_eq_true', Bool.not_eq_false', Bool.not_eq_true, Bool.not_eq_false, Bool.and_eq_true, Bool.or_eq_true, Bool.and_eq_false_iff, Bool.or_eq_false_iff, Bool.not_not, ne_eq, Int.not_lt, Int.not_le, Decidable.not_not, beq_iff_eq, bne_iff_ne] at hg46
                      refine wl (wl_val hl rfl ⟨_, _, rfl, rfl, rfl⟩ (r_field hl rfl fld87_1) ?_)
                      clear hl a; intro a hl
                      refine wl (w_load hl hh rfl ⟨_, _, rfl, rfl, rfl⟩ one76 rfl (by repeat (first | exact find_head | apply find_tail | apply find_skip)) (by first | exact gtc_led _ | exact gtc_ep _ | exact gtc_vs _ | exact gtc_is _ | exact gtc_fid _ | exact gtc_ph _ | exact gtc_vd _ | exact gtc_q _ | exact gtc_rf _ | exact gtc_ys _ | exact gtc_dn _ | exact gtc_tk _ | exact gtc_au _ | exact gtc_o _ | exact gtc_off _ | rfl) ?_)
                      clear hl a; intro a hl
                      refine wl (wl_val hl rfl ⟨_, _, rfl, rfl, rfl⟩ (r_eql hl rfl rfl) ?_)
                      clear hl a; intro a hl
                      refine wl (wl_val hl rfl trivial (r_pickT hl rfl rfl) ?_)
                      clear hl a; intro a hl
                      refine wl (wl_val hl rfl trivial (r_move hl rfl) ?_)
                      clear hl a; intro a hl
                      refine sl_split (t := 102) hl rfl ?_ ?_
                      · intro hg47; clear hl; intro hl
                        try simp only [decide_eq_true_eq, decide_eq_false_iff_not, Bool.not_eq_true', Bool.not_eq_false', Bool.not_eq_true, Bool.not_eq_false, Bool.and_eq_true, Bool.or_eq_true, Bool.and_eq_false_iff, Bool.or_eq_false_iff, Bool.not_not, ne_eq, Int.not_lt, Int.not_le, Decidable.not_not, beq_iff_eq, bne_iff_ne] at hg47
                        refine wl (wl_val hl rfl ⟨_, _, rfl, rfl, rfl⟩ (r_move hl rfl) ?_)
                        clear hl a; intro a hl
                        refine wl (wl_val hl rfl ⟨_, _, rfl, rfl, rfl⟩ (r_nilCheck hl rfl) ?_)
                        clear hl a; intro a hl
                        refine wl (wl_val hl rfl ⟨_, _, rfl, rfl, rfl⟩ (r_field hl rfl fld127_8) ?_)
                        clear hl a; intro a hl
                        refine wl (w_load hl hh rfl ⟨_, _, rfl, rfl, rfl⟩ one4 rfl (by repeat (first | exact find_head | apply find_tail | apply find_skip)) (by first | exact gtc_led _ | exact gtc_ep _ | exact gtc_vs _ | exact gtc_is _ | exact gtc_fid _ | exact gtc_ph _ | exact gtc_vd _ | exact gtc_q _ | exact gtc_rf _ | exact gtc_ys _ | exact gtc_dn _ | exact gtc_tk _ | exact gtc_au _ | exact gtc_o _ | exact gtc_off _ | rfl) ?_)
                        clear hl a; intro a hl
                        refine wl (wl_val hl rfl trivial (r_pickT hl rfl rfl) ?_)
                        clear hl a; intro a hl
                        refine wl (wl_val hl rfl trivial (r_assign hl rfl) ?_)
                        clear hl a; intro a hl
                        refine w_nil ?_
                        have hl2 := hl.add (t := 0) (hl.add (t := 3) (hl.add (t := 4) (hl.add (t := 5) (hl.add (t := 93) (hl.nil) rfl) rfl) rfl) rfl) rfl; clear hl; have hl := hl2; clear hl2
                        refine then_normal ?_
                        refine c_cond hl rfl ?_ ?_
                        · intro hc5
                          try simp only [decide_eq_true_eq, decide_eq_false_iff_not, Bool.not_eq_true', Bool.not_eq_false', Bool.not_eq_true, Bool.not_eq_false, Bool.and_eq_true, Bool.or_eq_true, Bool.and_eq_false_iff, Bool.or_eq_false_iff, Bool.not_not, ne_eq, Int.not_lt, Int.not_le, Decidable.not_not, beq_iff_eq, bne_iff_ne] at hc5
                          have hk6 : m.k = 6 ∧ g.pl.st.ph = 2 ∧ g.pl.au = true := ⟨by omega, (show g.st.ph = 2 by omega), (show g.au = true by first | assumption | (simp_all; done))⟩
                          refine c_seq ?_
                          refine c_region ?_
                          refine wl (wl_val hl rfl trivial (r_field hl rfl fld38_5) ?_)
                          clear hl a; intro a hl
                          refine wl (w_load hl hh rfl trivial one36 rfl (by repeat (first | exact find_head | apply find_tail | apply find_skip)) (by first | exact gtc_led _ | exact gtc_ep _ | exact gtc_vs _ | exact gtc_is _ | exact gtc_fid _ | exact gtc_ph _ | exact gtc_vd _ | exact gtc_q _ | exact gtc_rf _ | exact gtc_ys _ | exact gtc_dn _ | exact gtc_tk _ | exact gtc_au _ | exact gtc_o _ | exact gtc_off _ | rfl) ?_)
                          clear hl a; intro a hl
                          refine wl (wl_val hl rfl trivial (r_field hl rfl fld87_0) ?_)
                          clear hl a; intro a hl
                          refine wl (w_load hl hh rfl trivial one36 rfl (by repeat (first | exact find_head | apply find_tail | apply find_skip)) (by first | exact gtc_led _ | exact gtc_ep _ | exact gtc_vs _ | exact gtc_is _ | exact gtc_fid _ | exact gtc_ph _ | exact gtc_vd _ | exact gtc_q _ | exact gtc_rf _ | exact gtc_ys _ | exact gtc_dn _ | exact gtc_tk _ | exact gtc_au _ | exact gtc_o _ | exact gtc_off _ | rfl) ?_)
                          clear hl a; intro a hl
                          refine wl (wl_val hl rfl trivial (r_eql hl rfl rfl) ?_)
                          clear hl a; intro a hl
                          refine wl (wl_val hl rfl trivial (r_move hl rfl) ?_)
                          clear hl a; intro a hl
                          refine sl_split (t := 113) hl rfl ?_ ?_
                          · intro hg48; clear hl; intro hl
                            try simp only [decide_eq_true_eq, decide_eq_false_iff_not, Bool.not_eq_true', Bool.not_eq_false', Bool.not_eq_true, Bool.not_eq_false, Bool.and_eq_true, Bool.or_eq_true, Bool.and_eq_false_iff, Bool.or_eq_false_iff, Bool.not_not, ne_eq, Int.not_lt, Int.not_le, Decidable.not_not, beq_iff_eq, bne_iff_ne] at hg48
                            refine wl (wl_val hl rfl ⟨_, _, rfl, rfl, rfl⟩ (r_field hl rfl fld38_6) ?_)
                            clear hl a; intro a hl
                            refine wl (w_load hl hh rfl ⟨_, _, rfl, rfl, rfl⟩ one36 rfl (by repeat (first | exact find_head | apply find_tail | apply find_skip)) (by first | exact gtc_led _ | exact gtc_ep _ | exact gtc_vs _ | exact gtc_is _ | exact gtc_fid _ | exact gtc_ph _ | exact gtc_vd _ | exact gtc_q _ | exact gtc_rf _ | exact gtc_ys _ | exact gtc_dn _ | exact gtc_tk _ | exact gtc_au _ | exact gtc_o _ | exact gtc_off _ | rfl) ?_)
                            clear hl a; intro a hl
                            refine wl (wl_val hl rfl ⟨_, _, rfl, rfl, rfl⟩ (r_eql hl rfl rfl) ?_)
                            clear hl a; intro a hl
                            refine wl (wl_val hl rfl trivial (r_pickT hl rfl rfl) ?_)
                            clear hl a; intro a hl
                            refine w_nil ?_
                            have hl2 := hl.add (t := 0) (hl.add (t := 5) (hl.add (t := 117) (hl.nil) rfl) rfl) rfl; clear hl; have hl := hl2; clear hl2
                            refine then_normal ?_
                            refine c_cond hl rfl ?_ ?_
                            · intro hc6
                              try simp only [decide_eq_true_eq, decide_eq_false_iff_not, Bool.not_eq_true', Bool.not_eq_false', Bool.not_eq_true, Bool.not_eq_false, Bool.and_eq_true, Bool.or_eq_true, Bool.and_eq_false_iff, Bool.or_eq_false_iff, Bool.not_not, ne_eq, Int.not_lt, Int.not_le, Decidable.not_not, beq_iff_eq, bne_iff_ne] at hc6
                              have hf := dl_6y (l := l.pl) hhd hk6 ⟨(show m.r = g.st.fid by omega), by omega⟩
                              refine c_region ?_
                              refine wl (wl_val hl rfl trivial (r_move hl rfl) ?_)
                              clear hl a; intro a hl
                              refine wl (wl_val hl rfl trivial (r_move hl rfl) ?_)
                              clear hl a; intro a hl
                              refine wl (w_call hl hh rfl trivial rfl cal52 rfl (confirm_spec Z gb g l hg hl9 (sh1 m.d) hvl) (by repeat (first | exact keeps_nil | apply keeps_cons (by repeat (first | exact find_head | apply find_tail | apply find_skip)) (by first  | rfl) | exact keeps_self | exact keeps_left | apply keeps_app | apply keeps_mv | apply keeps_skip)) trivial ?_)
                              clear hl hh a w; intro vc Fc a w hR hl hh
                              obtain ⟨rfl, g', l', G9, he9, hg', hl', hp1, hp2, rfl⟩ := hR
                              try simp only [List.cons_append, List.nil_append, List.append_assoc, List.append_nil] at hh
                              refine w_nil ?_
                              have hl2 := hl.nil; clear hl; have hl := hl2; clear hl2
                              refine blk_normal ?_
                              first
                              | (have hqq := hp2; refine f_end0 (F' := GF gb g' l' (Z ++ G9)) hl hh rfl (by first | exact keeps_self | exact keeps_left) ?_; exact ⟨rfl, g', l', G9, he9, hg', hl', hp1.trans (by rw [hf]; try rfl), hp2.trans (by rw [hf]; try rfl), rfl⟩)
                              | (have hqq := hc3; refine f_end0 (F' := (gb, C (GtV.c { g with ys := orB g.ys (sh1 m.d) }) 127) :: (g.st.E ++ (g.qE ++ ((g.rb, MD (kInt .u32) g.rl g.rn) :: (g.oE ++ ((g.led, C (LdV.c l) 91) :: (l.d.E ++ Z))))))) hl hh rfl (by repeat (first | exact keeps_nil | apply keeps_cons (by repeat (first | exact find_head | apply find_tail | apply find_skip)) (by first  | rfl) | exact keeps_self | exact keeps_left | apply keeps_app | apply keeps_mv | apply keeps_skip)) ?_; exact ⟨rfl, GO.same (g' := { g with ys := orB g.ys (sh1 m.d) }) (ys_ok hg (orB_bd _ _)) hl9 (by rw [hf]; rfl) (by rw [hf]) rfl⟩)
                              | (refine f_end0 (F' := (gb, C (GtV.c g) 127) :: (g.st.E ++ (g.qE ++ ((g.rb, MD (kInt .u32) g.rl g.rn) :: (g.oE ++ ((g.led, C (LdV.c l) 91) :: (l.d.E ++ Z))))))) hl hh rfl (by repeat (first | exact keeps_nil | apply keeps_cons (by repeat (first | exact find_head | apply find_tail | apply find_skip)) (by first  | rfl) | exact keeps_self | exact keeps_left | apply keeps_app | apply keeps_mv | apply keeps_skip)) ?_; exact ⟨rfl, GO.same hg hl9 (by rw [hf]) (by rw [hf]) rfl⟩)
                            · intro hc6
                              try simp only [decide_eq_true_eq, decide_eq_false_iff_not, Bool.not_eq_true', Bool.not_eq_false', Bool.not_eq_true, Bool.not_eq_false, Bool.and_eq_true, Bool.or_eq_true, Bool.and_eq_false_iff, Bool.or_eq_false_iff, Bool.not_not, ne_eq, Int.not_lt, Int.not_le, Decidable.not_not, beq_iff_eq, bne_iff_ne] at hc6
                              have hf := dl_6n (l := l.pl) hhd hk6 (fun ⟨q1, q2⟩ => by have q1 : m.r = g.st.fid := q1; omega)
                              refine wp_skip ?_
                              refine blk_normal ?_
                              first
                              | (have hqq := hp2; refine f_end0 (F' := GF gb g' l' (Z ++ G9)) hl hh rfl (by first | exact keeps_self | exact keeps_left) ?_; exact ⟨rfl, g', l', G9, he9, hg', hl', hp1.trans (by rw [hf]; try rfl), hp2.trans (by rw [hf]; try rfl), rfl⟩)
                              | (have hqq := hc3; refine f_end0 (F' := (gb, C (GtV.c { g with ys := orB g.ys (sh1 m.d) }) 127) :: (g.st.E ++ (g.qE ++ ((g.rb, MD (kInt .u32) g.rl g.rn) :: (g.oE ++ ((g.led, C (LdV.c l) 91) :: (l.d.E ++ Z))))))) hl hh rfl (by repeat (first | exact keeps_nil | apply keeps_cons (by repeat (first | exact find_head | apply find_tail | apply find_skip)) (by first  | rfl) | exact keeps_self | exact keeps_left | apply keeps_app | apply keeps_mv | apply keeps_skip)) ?_; exact ⟨rfl, GO.same (g' := { g with ys := orB g.ys (sh1 m.d) }) (ys_ok hg (orB_bd _ _)) hl9 (by rw [hf]; rfl) (by rw [hf]) rfl⟩)
                              | (refine f_end0 (F' := (gb, C (GtV.c g) 127) :: (g.st.E ++ (g.qE ++ ((g.rb, MD (kInt .u32) g.rl g.rn) :: (g.oE ++ ((g.led, C (LdV.c l) 91) :: (l.d.E ++ Z))))))) hl hh rfl (by repeat (first | exact keeps_nil | apply keeps_cons (by repeat (first | exact find_head | apply find_tail | apply find_skip)) (by first  | rfl) | exact keeps_self | exact keeps_left | apply keeps_app | apply keeps_mv | apply keeps_skip)) ?_; exact ⟨rfl, GO.same hg hl9 (by rw [hf]) (by rw [hf]) rfl⟩)
                          · intro hg48; clear hl; intro hl
                            try simp only [decide_eq_true_eq, decide_eq_false_iff_not, Bool.not_eq_true', Bool.not_eq_false', Bool.not_eq_true, Bool.not_eq_false, Bool.and_eq_true, Bool.or_eq_true, Bool.and_eq_false_iff, Bool.or_eq_false_iff, Bool.not_not, ne_eq, Int.not_lt, Int.not_le, Decidable.not_not, beq_iff_eq, bne_iff_ne] at hg48
                            refine wl (wl_skip hl rfl ⟨_, _, rfl, rfl, rfl⟩ ?_)
                            clear hl a; intro a hl
                            refine wl (wl_skip hl rfl ⟨_, _, rfl, rfl, rfl⟩ ?_)
                            clear hl a; intro a hl
                            refine wl (wl_skip hl rfl ⟨_, _, rfl, rfl, rfl⟩ ?_)
                            clear hl a; intro a hl
                            refine wl (wl_val hl rfl trivial (r_pickF hl rfl rfl) ?_)
                            clear hl a; intro a hl
                            refine w_nil ?_
                            have hl2 := hl.add (t := 0) (hl.add (t := 5) (hl.add (t := 117) (hl.nil) rfl) rfl) rfl; clear hl; have hl := hl2; clear hl2
                            refine then_normal ?_
                            refine c_condF hl rfl ?_
                            have hf := dl_6n (l := l.pl) hhd hk6 (fun ⟨q1, q2⟩ => by have q1 : m.r = g.st.fid := q1; omega)
                            refine wp_skip ?_
                            refine blk_normal ?_
                            first
                            | (have hqq := hp2; refine f_end0 (F' := GF gb g' l' (Z ++ G9)) hl hh rfl (by first | exact keeps_self | exact keeps_left) ?_; exact ⟨rfl, g', l', G9, he9, hg', hl', hp1.trans (by rw [hf]; try rfl), hp2.trans (by rw [hf]; try rfl), rfl⟩)
                            | (have hqq := hc3; refine f_end0 (F' := (gb, C (GtV.c { g with ys := orB g.ys (sh1 m.d) }) 127) :: (g.st.E ++ (g.qE ++ ((g.rb, MD (kInt .u32) g.rl g.rn) :: (g.oE ++ ((g.led, C (LdV.c l) 91) :: (l.d.E ++ Z))))))) hl hh rfl (by repeat (first | exact keeps_nil | apply keeps_cons (by repeat (first | exact find_head | apply find_tail | apply find_skip)) (by first  | rfl) | exact keeps_self | exact keeps_left | apply keeps_app | apply keeps_mv | apply keeps_skip)) ?_; exact ⟨rfl, GO.same (g' := { g with ys := orB g.ys (sh1 m.d) }) (ys_ok hg (orB_bd _ _)) hl9 (by rw [hf]; rfl) (by rw [hf]) rfl⟩)
                            | (refine f_end0 (F' := (gb, C (GtV.c g) 127) :: (g.st.E ++ (g.qE ++ ((g.rb, MD (kInt .u32) g.rl g.rn) :: (g.oE ++ ((g.led, C (LdV.c l) 91) :: (l.d.E ++ Z))))))) hl hh rfl (by repeat (first | exact keeps_nil | apply keeps_cons (by repeat (first | exact find_head | apply find_tail | apply find_skip)) (by first  | rfl) | exact keeps_self | exact keeps_left | apply keeps_app | apply keeps_mv | apply keeps_skip)) ?_; exact ⟨rfl, GO.same hg hl9 (by rw [hf]) (by rw [hf]) rfl⟩)
                        · intro hc5
                          try simp only [decide_eq_true_eq, decide_eq_false_iff_not, Bool.not_eq_true', Bool.not_eq_false', Bool.not_eq_true, Bool.not_eq_false, Bool.and_eq_true, Bool.or_eq_true, Bool.and_eq_false_iff, Bool.or_eq_false_iff, Bool.not_not, ne_eq, Int.not_lt, Int.not_le, Decidable.not_not, beq_iff_eq, bne_iff_ne] at hc5
                          have hn3 : ¬ (m.k = 6 ∧ g.pl.st.ph = 2 ∧ g.pl.au = true) := fun ⟨q1, q2, q3⟩ => by have q2 : g.st.ph = 2 := q2; have q3 : g.au = true := q3; first | omega | (simp_all; done)
                          refine c_seq ?_
                          refine c_region ?_
                          refine wl (wl_val hl rfl trivial (r_field hl rfl fld38_0) ?_)
                          clear hl a; intro a hl
                          refine wl (w_load hl hh rfl trivial one35 rfl (by repeat (first | exact find_head | apply find_tail | apply find_skip)) (by first | exact gtc_led _ | exact gtc_ep _ | exact gtc_vs _ | exact gtc_is _ | exact gtc_fid _ | exact gtc_ph _ | exact gtc_vd _ | exact gtc_q _ | exact gtc_rf _ | exact gtc_ys _ | exact gtc_dn _ | exact gtc_tk _ | exact gtc_au _ | exact gtc_o _ | exact gtc_off _ | rfl) ?_)
                          clear hl a; intro a hl
                          refine wl (wl_val hl rfl trivial (r_eql hl rfl rfl) ?_)
                          clear hl a; intro a hl
                          refine wl (wl_val hl rfl trivial (r_move hl rfl) ?_)
                          clear hl a; intro a hl
                          refine sl_split (t := 125) hl rfl ?_ ?_
                          · intro hg49; clear hl; intro hl
                            try simp only [decide_eq_true_eq, decide_eq_false_iff_not, Bool.not_eq_true', Bool.not_eq_false', Bool.not_eq_true, Bool.not_eq_false, Bool.and_eq_true, Bool.or_eq_true, Bool.and_eq_false_iff, Bool.or_eq_false_iff, Bool.not_not, ne_eq, Int.not_lt, Int.not_le, Decidable.not_not, beq_iff_eq, bne_iff_ne] at hg49
                            refine wl (wl_val hl rfl ⟨_, _, rfl, rfl, rfl⟩ (r_field hl rfl fld87_1) ?_)
                            clear hl a; intro a hl
                            refine wl (w_load hl hh rfl ⟨_, _, rfl, rfl, rfl⟩ one76 rfl (by repeat (first | exact find_head | apply find_tail | apply find_skip)) (by first | exact gtc_led _ | exact gtc_ep _ | exact gtc_vs _ | exact gtc_is _ | exact gtc_fid _ | exact gtc_ph _ | exact gtc_vd _ | exact gtc_q _ | exact gtc_rf _ | exact gtc_ys _ | exact gtc_dn _ | exact gtc_tk _ | exact gtc_au _ | exact gtc_o _ | exact gtc_off _ | rfl) ?_)
                            clear hl a; intro a hl
                            refine wl (wl_val hl rfl ⟨_, _, rfl, rfl, rfl⟩ (r_eql hl rfl rfl) ?_)
                            clear hl a; intro a hl
                            refine wl (wl_val hl rfl trivial (r_pickT hl rfl rfl) ?_)
                            clear hl a; intro a hl
                            refine wl (wl_val hl rfl trivial (r_move hl rfl) ?_)
                            clear hl a; intro a hl
                            refine sl_split (t := 130) hl rfl ?_ ?_
                            · intro hg50; clear hl; intro hl
                              try simp only [decide_eq_true_eq, decide_eq_false_iff_not, Bool.not_eq_true', Bool.not_eq_false', Bool.not_eq_true, Bool.not_eq_false, Bool.and_eq_true, Bool.or_eq_true, Bool.and_eq_false_iff, Bool.or_eq_false_iff, Bool.not_not, ne_eq, Int.not_lt, Int.not_le, Decidable.not_not, beq_iff_eq, bne_iff_ne] at hg50
                              refine wl (wl_val hl rfl ⟨_, _, rfl, rfl, rfl⟩ (r_move hl rfl) ?_)
                              clear hl a; intro a hl
                              refine wl (wl_val hl rfl ⟨_, _, rfl, rfl, rfl⟩ (r_nilCheck hl rfl) ?_)
                              clear hl a; intro a hl
                              refine wl (wl_val hl rfl ⟨_, _, rfl, rfl, rfl⟩ (r_field hl rfl fld127_8) ?_)
                              clear hl a; intro a hl
                              refine wl (w_load hl hh rfl ⟨_, _, rfl, rfl, rfl⟩ one4 rfl (by repeat (first | exact find_head | apply find_tail | apply find_skip)) (by first | exact gtc_led _ | exact gtc_ep _ | exact gtc_vs _ | exact gtc_is _ | exact gtc_fid _ | exact gtc_ph _ | exact gtc_vd _ | exact gtc_q _ | exact gtc_rf _ | exact gtc_ys _ | exact gtc_dn _ | exact gtc_tk _ | exact gtc_au _ | exact gtc_o _ | exact gtc_off _ | rfl) ?_)
                              clear hl a; intro a hl
                              refine wl (wl_val hl rfl trivial (r_pickT hl rfl rfl) ?_)
                              clear hl a; intro a hl
                              refine wl (wl_val hl rfl trivial (r_assign hl rfl) ?_)
                              clear hl a; intro a hl
                              refine w_nil ?_
                              have hl2 := hl.add (t := 0) (hl.add (t := 3) (hl.add (t := 4) (hl.add (t := 5) (hl.add (t := 121) (hl.nil) rfl) rfl) rfl) rfl) rfl; clear hl; have hl := hl2; clear hl2
                              refine then_normal ?_
                              refine c_cond hl rfl ?_ ?_
                              · intro hc7
                                try simp only [decide_eq_true_eq, decide_eq_false_iff_not, Bool.not_eq_true', Bool.not_eq_false', Bool.not_eq_true, Bool.not_eq_false, Bool.and_eq_true, Bool.or_eq_true, Bool.and_eq_false_iff, Bool.or_eq_false_iff, Bool.not_not, ne_eq, Int.not_lt, Int.not_le, Decidable.not_not, beq_iff_eq, bne_iff_ne] at hc7
                                have hk7 : m.k = 6 ∧ g.pl.st.ph = 3 ∧ g.pl.au = true := ⟨by omega, (show g.st.ph = 3 by omega), (show g.au = true by first | assumption | (simp_all; done))⟩
                                refine c_seq ?_
                                refine c_region ?_
                                refine wl (wl_val hl rfl trivial (r_field hl rfl fld38_5) ?_)
                                clear hl a; intro a hl
                                refine wl (w_load hl hh rfl trivial one36 rfl (by repeat (first | exact find_head | apply find_tail | apply find_skip)) (by first | exact gtc_led _ | exact gtc_ep _ | exact gtc_vs _ | exact gtc_is _ | exact gtc_fid _ | exact gtc_ph _ | exact gtc_vd _ | exact gtc_q _ | exact gtc_rf _ | exact gtc_ys _ | exact gtc_dn _ | exact gtc_tk _ | exact gtc_au _ | exact gtc_o _ | exact gtc_off _ | rfl) ?_)
                                clear hl a; intro a hl
                                refine wl (wl_val hl rfl trivial (r_field hl rfl fld87_0) ?_)
                                clear hl a; intro a hl
                                refine wl (w_load hl hh rfl trivial one36 rfl (by repeat (first | exact find_head | apply find_tail | apply find_skip)) (by first | exact gtc_led _ | exact gtc_ep _ | exact gtc_vs _ | exact gtc_is _ | exact gtc_fid _ | exact gtc_ph _ | exact gtc_vd _ | exact gtc_q _ | exact gtc_rf _ | exact gtc_ys _ | exact gtc_dn _ | exact gtc_tk _ | exact gtc_au _ | exact gtc_o _ | exact gtc_off _ | rfl) ?_)
                                clear hl a; intro a hl
                                refine wl (wl_val hl rfl trivial (r_neq hl rfl rfl) ?_)
                                clear hl a; intro a hl
                                refine wl (wl_val hl rfl trivial (r_move hl rfl) ?_)
                                clear hl a; intro a hl
                                refine sl_split (t := 141) hl rfl ?_ ?_
                                · intro hg51; clear hl; intro hl
                                  try simp only [decide_eq_true_eq, decide_eq_false_iff_not, Bool.not_eq_true', Bool.not_eq_false', Bool.not_eq_true, Bool.not_eq_false, Bool.and_eq_true, Bool.or_eq_true, Bool.and_eq_false_iff, Bool.or_eq_false_iff, Bool.not_not, ne_eq, Int.not_lt, Int.not_le, Decidable.not_not, beq_iff_eq, bne_iff_ne] at hg51
                                  refine wl (wl_val hl rfl ⟨_, _, rfl, rfl, rfl⟩ (r_field hl rfl fld38_6) ?_)
                                  clear hl a; intro a hl
                                  refine wl (w_load hl hh rfl ⟨_, _, rfl, rfl, rfl⟩ one36 rfl (by repeat (first | exact find_head | apply find_tail | apply find_skip)) (by first | exact gtc_led _ | exact gtc_ep _ | exact gtc_vs _ | exact gtc_is _ | exact gtc_fid _ | exact gtc_ph _ | exact gtc_vd _ | exact gtc_q _ | exact gtc_rf _ | exact gtc_ys _ | exact gtc_dn _ | exact gtc_tk _ | exact gtc_au _ | exact gtc_o _ | exact gtc_off _ | rfl) ?_)
                                  clear hl a; intro a hl
                                  refine wl (wl_val hl rfl ⟨_, _, rfl, rfl, rfl⟩ (r_eql hl rfl rfl) ?_)
                                  clear hl a; intro a hl
                                  refine wl (wl_val hl rfl trivial (r_pickT hl rfl rfl) ?_)
                                  clear hl a; intro a hl
                                  refine w_nil ?_
                                  have hl2 := hl.add (t := 0) (hl.add (t := 5) (hl.add (t := 145) (hl.nil) rfl) rfl) rfl; clear hl; have hl := hl2; clear hl2
                                  refine then_normal ?_
                                  refine c_cond hl rfl ?_ ?_
                                  · intro hc8
                                    try simp only [decide_eq_true_eq, decide_eq_false_iff_not, Bool.not_eq_true', Bool.not_eq_false', Bool.not_eq_true, Bool.not_eq_false, Bool.and_eq_true, Bool.or_eq_true, Bool.and_eq_false_iff, Bool.or_eq_false_iff, Bool.not_not, ne_eq, Int.not_lt, Int.not_le, Decidable.not_not, beq_iff_eq, bne_iff_ne] at hc8
                                    have hf := dl_7y (l := l.pl) hhd hk7 ⟨(show ¬ m.r = g.st.fid by omega), by omega⟩
                                    refine c_region ?_
                                    refine wl (wl_val hl rfl trivial (r_move hl rfl) ?_)
                                    clear hl a; intro a hl
                                    refine wl (wl_val hl rfl trivial (r_move hl rfl) ?_)
                                    clear hl a; intro a hl
                                    refine wl (w_call hl hh rfl trivial rfl cal52 rfl (confirm_spec Z gb g l hg hl9 (sh1 m.d) hvl) (by repeat (first | exact keeps_nil | apply keeps_cons (by repeat (first | exact find_head | apply find_tail | apply find_skip)) (by first  | rfl) | exact keeps_self | exact keeps_left | apply keeps_app | apply keeps_mv | apply keeps_skip)) trivial ?_)
                                    clear hl hh a w; intro vc Fc a w hR hl hh
                                    obtain ⟨rfl, g', l', G9, he9, hg', hl', hp1, hp2, rfl⟩ := hR
                                    try simp only [List.cons_append, List.nil_append, List.append_assoc, List.append_nil] at hh
                                    refine w_nil ?_
                                    have hl2 := hl.nil; clear hl; have hl := hl2; clear hl2
                                    refine blk_normal ?_
                                    first
                                    | (have hqq := hp2; refine f_end0 (F' := GF gb g' l' (Z ++ G9)) hl hh rfl (by first | exact keeps_self | exact keeps_left) ?_; exact ⟨rfl, g', l', G9, he9, hg', hl', hp1.trans (by rw [hf]; try rfl), hp2.trans (by rw [hf]; try rfl), rfl⟩)
                                    | (have hqq := hc3; refine f_end0 (F' := (gb, C (GtV.c { g with ys := orB g.ys (sh1 m.d) }) 127) :: (g.st.E ++ (g.qE ++ ((g.rb, MD (kInt .u32) g.rl g.rn) :: (g.oE ++ ((g.led, C (LdV.c l) 91) :: (l.d.E ++ Z))))))) hl hh rfl (by repeat (first | exact keeps_nil | apply keeps_cons (by repeat (first | exact find_head | apply find_tail | apply find_skip)) (by first  | rfl) | exact keeps_self | exact keeps_left | apply keeps_app | apply keeps_mv | apply keeps_skip)) ?_; exact ⟨rfl, GO.same (g' := { g with ys := orB g.ys (sh1 m.d) }) (ys_ok hg (orB_bd _ _)) hl9 (by rw [hf]; rfl) (by rw [hf]) rfl⟩)
                                    | (refine f_end0 (F' := (gb, C (GtV.c g) 127) :: (g.st.E ++ (g.qE ++ ((g.rb, MD (kInt .u32) g.rl g.rn) :: (g.oE ++ ((g.led, C (LdV.c l) 91) :: (l.d.E ++ Z))))))) hl hh rfl (by repeat (first | exact keeps_nil | apply keeps_cons (by repeat (first | exact find_head | apply find_tail | apply find_skip)) (by first  | rfl) | exact keeps_self | exact keeps_left | apply keeps_app | apply keeps_mv | apply keeps_skip)) ?_; exact ⟨rfl, GO.same hg hl9 (by rw [hf]) (by rw [hf]) rfl⟩)
                                  · intro hc8
                                    try simp only [decide_eq_true_eq, decide_eq_false_iff_not, Bool.not_eq_true', Bool.not_eq_false', Bool.not_eq_true, Bool.not_eq_false, Bool.and_eq_true, Bool.or_eq_true, Bool.and_eq_false_iff, Bool.or_eq_false_iff, Bool.not_not, ne_eq, Int.not_lt, Int.not_le, Decidable.not_not, beq_iff_eq, bne_iff_ne] at hc8
                                    have hf := dl_7n (l := l.pl) hhd hk7 (fun ⟨q1, q2⟩ => by have q1 : ¬ m.r = g.st.fid := q1; omega)
                                    refine wp_skip ?_
                                    refine blk_normal ?_
                                    first
                                    | (have hqq := hp2; refine f_end0 (F' := GF gb g' l' (Z ++ G9)) hl hh rfl (by first | exact keeps_self | exact keeps_left) ?_; exact ⟨rfl, g', l', G9, he9, hg', hl', hp1.trans (by rw [hf]; try rfl), hp2.trans (by rw [hf]; try rfl), rfl⟩)
                                    | (have hqq := hc3; refine f_end0 (F' := (gb, C (GtV.c { g with ys := orB g.ys (sh1 m.d) }) 127) :: (g.st.E ++ (g.qE ++ ((g.rb, MD (kInt .u32) g.rl g.rn) :: (g.oE ++ ((g.led, C (LdV.c l) 91) :: (l.d.E ++ Z))))))) hl hh rfl (by repeat (first | exact keeps_nil | apply keeps_cons (by repeat (first | exact find_head | apply find_tail | apply find_skip)) (by first  | rfl) | exact keeps_self | exact keeps_left | apply keeps_app | apply keeps_mv | apply keeps_skip)) ?_; exact ⟨rfl, GO.same (g' := { g with ys := orB g.ys (sh1 m.d) }) (ys_ok hg (orB_bd _ _)) hl9 (by rw [hf]; rfl) (by rw [hf]) rfl⟩)
                                    | (refine f_end0 (F' := (gb, C (GtV.c g) 127) :: (g.st.E ++ (g.qE ++ ((g.rb, MD (kInt .u32) g.rl g.rn) :: (g.oE ++ ((g.led, C (LdV.c l) 91) :: (l.d.E ++ Z))))))) hl hh rfl (by repeat (first | exact keeps_nil | apply keeps_cons (by repeat (first | exact find_head | apply find_tail | apply find_skip)) (by first  | rfl) | exact keeps_self | exact keeps_left | apply keeps_app | apply keeps_mv | apply keeps_skip)) ?_; exact ⟨rfl, GO.same hg hl9 (by rw [hf]) (by rw [hf]) rfl⟩)
                                · intro hg51; clear hl; intro hl
                                  try simp only [decide_eq_true_eq, decide_eq_false_iff_not, Bool.not_eq_true', Bool.not_eq_false', Bool.not_eq_true, Bool.not_eq_false, Bool.and_eq_true, Bool.or_eq_true, Bool.and_eq_false_iff, Bool.or_eq_false_iff, Bool.not_not, ne_eq, Int.not_lt, Int.not_le, Decidable.not_not, beq_iff_eq, bne_iff_ne] at hg51
                                  refine wl (wl_skip hl rfl ⟨_, _, rfl, rfl, rfl⟩ ?_)
                                  clear hl a; intro a hl
                                  refine wl (wl_skip hl rfl ⟨_, _, rfl, rfl, rfl⟩ ?_)
                                  clear hl a; intro a hl
                                  refine wl (wl_skip hl rfl ⟨_, _, rfl, rfl, rfl⟩ ?_)
                                  clear hl a; intro a hl
                                  refine wl (wl_val hl rfl trivial (r_pickF hl rfl rfl) ?_)
                                  clear hl a; intro a hl
                                  refine w_nil ?_
                                  have hl2 := hl.add (t := 0) (hl.add (t := 5) (hl.add (t := 145) (hl.nil) rfl) rfl) rfl; clear hl; have hl := hl2; clear hl2
                                  refine then_normal ?_
                                  refine c_condF hl rfl ?_
                                  have hf := dl_7n (l := l.pl) hhd hk7 (fun ⟨q1, q2⟩ => by have q1 : ¬ m.r = g.st.fid := q1; omega)
                                  refine wp_skip ?_
                                  refine blk_normal ?_
                                  first
                                  | (have hqq := hp2; refine f_end0 (F' := GF gb g' l' (Z ++ G9)) hl hh rfl (by first | exact keeps_self | exact keeps_left) ?_; exact ⟨rfl, g', l', G9, he9, hg', hl', hp1.trans (by rw [hf]; try rfl), hp2.trans (by rw [hf]; try rfl), rfl⟩)
                                  | (have hqq := hc3; refine f_end0 (F' := (gb, C (GtV.c { g with ys := orB g.ys (sh1 m.d) }) 127) :: (g.st.E ++ (g.qE ++ ((g.rb, MD (kInt .u32) g.rl g.rn) :: (g.oE ++ ((g.led, C (LdV.c l) 91) :: (l.d.E ++ Z))))))) hl hh rfl (by repeat (first | exact keeps_nil | apply keeps_cons (by repeat (first | exact find_head | apply find_tail | apply find_skip)) (by first  | rfl) | exact keeps_self | exact keeps_left | apply keeps_app | apply keeps_mv | apply keeps_skip)) ?_; exact ⟨rfl, GO.same (g' := { g with ys := orB g.ys (sh1 m.d) }) (ys_ok hg (orB_bd _ _)) hl9 (by rw [hf]; rfl) (by rw [hf]) rfl⟩)
                                  | (refine f_end0 (F' := (gb, C (GtV.c g) 127) :: (g.st.E ++ (g.qE ++ ((g.rb, MD (kInt .u32) g.rl g.rn) :: (g.oE ++ ((g.led, C (LdV.c l) 91) :: (l.d.E ++ Z))))))) hl hh rfl (by repeat (first | exact keeps_nil | apply keeps_cons (by repeat (first | exact find_head | apply find_tail | apply find_skip)) (by first  | rfl) | exact keeps_self | exact keeps_left | apply keeps_app | apply keeps_mv | apply keeps_skip)) ?_; exact ⟨rfl, GO.same hg hl9 (by rw [hf]) (by rw [hf]) rfl⟩)
                              · intro hc7
                                try simp only [decide_eq_true_eq, decide_eq_false_iff_not, Bool.not_eq_true', Bool.not_eq_false', Bool.not_eq_true, Bool.not_eq_false, Bool.and_eq_true, Bool.or_eq_true, Bool.and_eq_false_iff, Bool.or_eq_false_iff, Bool.not_not, ne_eq, Int.not_lt, Int.not_le, Decidable.not_not, beq_iff_eq, bne_iff_ne] at hc7
                                have hn4 : ¬ (m.k = 6 ∧ g.pl.st.ph = 3 ∧ g.pl.au = true) := fun ⟨q1, q2, q3⟩ => by have q2 : g.st.ph = 3 := q2; have q3 : g.au = true := q3; first | omega | (simp_all; done)
                                have hf := dl_x (l := l.pl) hhd hn1 hn2 hn3 hn4
                                refine wp_skip ?_
                                refine blk_normal ?_
                                first
                                | (have hqq := hp2; refine f_end0 (F' := GF gb g' l' (Z ++ G9)) hl hh rfl (by first | exact keeps_self | exact keeps_left) ?_; exact ⟨rfl, g', l', G9, he9, hg', hl', hp1.trans (by rw [hf]; try rfl), hp2.trans (by rw [hf]; try rfl), rfl⟩)
                                | (have hqq := hc3; refine f_end0 (F' := (gb, C (GtV.c { g with ys := orB g.ys (sh1 m.d) }) 127) :: (g.st.E ++ (g.qE ++ ((g.rb, MD (kInt .u32) g.rl g.rn) :: (g.oE ++ ((g.led, C (LdV.c l) 91) :: (l.d.E ++ Z))))))) hl hh rfl (by repeat (first | exact keeps_nil | apply keeps_cons (by repeat (first | exact find_head | apply find_tail | apply find_skip)) (by first  | rfl) | exact keeps_self | exact keeps_left | apply keeps_app | apply keeps_mv | apply keeps_skip)) ?_; exact ⟨rfl, GO.same (g' := { g with ys := orB g.ys (sh1 m.d) }) (ys_ok hg (orB_bd _ _)) hl9 (by rw [hf]; rfl) (by rw [hf]) rfl⟩)
                                | (refine f_end0 (F' := (gb, C (GtV.c g) 127) :: (g.st.E ++ (g.qE ++ ((g.rb, MD (kInt .u32) g.rl g.rn) :: (g.oE ++ ((g.led, C (LdV.c l) 91) :: (l.d.E ++ Z))))))) hl hh rfl (by repeat (first | exact keeps_nil | apply keeps_cons (by repeat (first | exact find_head | apply find_tail | apply find_skip)) (by first  | rfl) | exact keeps_self | exact keeps_left | apply keeps_app | apply keeps_mv | apply keeps_skip)) ?_; exact ⟨rfl, GO.same hg hl9 (by rw [hf]) (by rw [hf]) rfl⟩)
                            · intro hg50; clear hl; intro hl
                              try simp only [decide_eq_true_eq, decide_eq_false_iff_not, Bool.not_eq_true', Bool.not_eq_false', Bool.not_eq_true, Bool.not_eq_false, Bool.and_eq_true, Bool.or_eq_true, Bool.and_eq_false_iff, Bool.or_eq_false_iff, Bool.not_not, ne_eq, Int.not_lt, Int.not_le, Decidable.not_not, beq_iff_eq, bne_iff_ne] at hg50
                              refine wl (wl_skip hl rfl ⟨_, _, rfl, rfl, rfl⟩ ?_)
                              clear hl a; intro a hl
                              refine wl (wl_skip hl rfl ⟨_, _, rfl, rfl, rfl⟩ ?_)
                              clear hl a; intro a hl
                              refine wl (wl_skip hl rfl ⟨_, _, rfl, rfl, rfl⟩ ?_)
                              clear hl a; intro a hl
                              refine wl (wl_skip hl rfl ⟨_, _, rfl, rfl, rfl⟩ ?_)
                              clear hl a; intro a hl
                              refine wl (wl_val hl rfl trivial (r_pickF hl rfl rfl) ?_)
                              clear hl a; intro a hl
                              refine wl (wl_val hl rfl trivial (r_assign hl rfl) ?_)
                              clear hl a; intro a hl
                              refine w_nil ?_
                              have hl2 := hl.add (t := 0) (hl.add (t := 3) (hl.add (t := 4) (hl.add (t := 5) (hl.add (t := 121) (hl.nil) rfl) rfl) rfl) rfl) rfl; clear hl; have hl := hl2; clear hl2
                              refine then_normal ?_
                              refine c_condF hl rfl ?_
                              have hn4 : ¬ (m.k = 6 ∧ g.pl.st.ph = 3 ∧ g.pl.au = true) := fun ⟨q1, q2, q3⟩ => by have q2 : g.st.ph = 3 := q2; have q3 : g.au = true := q3; first | omega | (simp_all; done)
                              have hf := dl_x (l := l.pl) hhd hn1 hn2 hn3 hn4
                              refine wp_skip ?_
                              refine blk_normal ?_
                              first
                              | (have hqq := hp2; refine f_end0 (F' := GF gb g' l' (Z ++ G9)) hl hh rfl (by first | exact keeps_self | exact keeps_left) ?_; exact ⟨rfl, g', l', G9, he9, hg', hl', hp1.trans (by rw [hf]; try rfl), hp2.trans (by rw [hf]; try rfl), rfl⟩)
                              | (have hqq := hc3; refine f_end0 (F' := (gb, C (GtV.c { g with ys := orB g.ys (sh1 m.d) }) 127) :: (g.st.E ++ (g.qE ++ ((g.rb, MD (kInt .u32) g.rl g.rn) :: (g.oE ++ ((g.led, C (LdV.c l) 91) :: (l.d.E ++ Z))))))) hl hh rfl (by repeat (first | exact keeps_nil | apply keeps_cons (by repeat (first | exact find_head | apply find_tail | apply find_skip)) (by first  | rfl) | exact keeps_self | exact keeps_left | apply keeps_app | apply keeps_mv | apply keeps_skip)) ?_; exact ⟨rfl, GO.same (g' := { g with ys := orB g.ys (sh1 m.d) }) (ys_ok hg (orB_bd _ _)) hl9 (by rw [hf]; rfl) (by rw [hf]) rfl⟩)
                              | (refine f_end0 (F' := (gb, C (GtV.c g) 127) :: (g.st.E ++ (g.qE ++ ((g.rb, MD (kInt .u32) g.rl g.rn) :: (g.oE ++ ((g.led, C (LdV.c l) 91) :: (l.d.E ++ Z))))))) hl hh rfl (by repeat (first | exact keeps_nil | apply keeps_cons (by repeat (first | exact find_head | apply find_tail | apply find_skip)) (by first  | rfl) | exact keeps_self | exact keeps_left | apply keeps_app | apply keeps_mv | apply keeps_skip)) ?_; exact ⟨rfl, GO.same hg hl9 (by rw [hf]) (by rw [hf]) rfl⟩)
                          · intro hg49; clear hl; intro hl
                            try simp only [decide_eq_true_eq, decide_eq_false_iff_not, Bool.not_eq_true', Bool.not_eq_false', Bool.not_eq_true, Bool.not_eq_false, Bool.and_eq_true, Bool.or_eq_true, Bool.and_eq_false_iff, Bool.or_eq_false_iff, Bool.not_not, ne_eq, Int.not_lt, Int.not_le, Decidable.not_not, beq_iff_eq, bne_iff_ne] at hg49
                            refine wl (wl_skip hl rfl ⟨_, _, rfl, rfl, rfl⟩ ?_)
                            clear hl a; intro a hl
                            refine wl (wl_skip hl rfl ⟨_, _, rfl, rfl, rfl⟩ ?_)
                            clear hl a; intro a hl
                            refine wl (wl_skip hl rfl ⟨_, _, rfl, rfl, rfl⟩ ?_)
                            clear hl a; intro a hl
                            refine wl (wl_val hl rfl trivial (r_pickF hl rfl rfl) ?_)
                            clear hl a; intro a hl
                            refine wl (wl_val hl rfl trivial (r_move hl rfl) ?_)
                            clear hl a; intro a hl
                            refine wl (wl_skip hl rfl ⟨_, _, rfl, rfl, rfl⟩ ?_)
                            clear hl a; intro a hl
                            refine wl (wl_skip hl rfl ⟨_, _, rfl, rfl, rfl⟩ ?_)
                            clear hl a; intro a hl
                            refine wl (wl_skip hl rfl ⟨_, _, rfl, rfl, rfl⟩ ?_)
                            clear hl a; intro a hl
                            refine wl (wl_skip hl rfl ⟨_, _, rfl, rfl, rfl⟩ ?_)
                            clear hl a; intro a hl
                            refine wl (wl_val hl rfl trivial (r_pickF hl rfl rfl) ?_)
                            clear hl a; intro a hl
                            refine wl (wl_val hl rfl trivial (r_assign hl rfl) ?_)
                            clear hl a; intro a hl
                            refine w_nil ?_
                            have hl2 := hl.add (t := 0) (hl.add (t := 3) (hl.add (t := 4) (hl.add (t := 5) (hl.add (t := 121) (hl.nil) rfl) rfl) rfl) rfl) rfl; clear hl; have hl := hl2; clear hl2
                            refine then_normal ?_
                            refine c_condF hl rfl ?_
                            have hn4 : ¬ (m.k = 6 ∧ g.pl.st.ph = 3 ∧ g.pl.au = true) := fun ⟨q1, q2, q3⟩ => by have q2 : g.st.ph = 3 := q2; have q3 : g.au = true := q3; first | omega | (simp_all; done)
                            have hf := dl_x (l := l.pl) hhd hn1 hn2 hn3 hn4
                            refine wp_skip ?_
                            refine blk_normal ?_
                            first
                            | (have hqq := hp2; refine f_end0 (F' := GF gb g' l' (Z ++ G9)) hl hh rfl (by first | exact keeps_self | exact keeps_left) ?_; exact ⟨rfl, g', l', G9, he9, hg', hl', hp1.trans (by rw [hf]; try rfl), hp2.trans (by rw [hf]; try rfl), rfl⟩)
                            | (have hqq := hc3; refine f_end0 (F' := (gb, C (GtV.c { g with ys := orB g.ys (sh1 m.d) }) 127) :: (g.st.E ++ (g.qE ++ ((g.rb, MD (kInt .u32) g.rl g.rn) :: (g.oE ++ ((g.led, C (LdV.c l) 91) :: (l.d.E ++ Z))))))) hl hh rfl (by repeat (first | exact keeps_nil | apply keeps_cons (by repeat (first | exact find_head | apply find_tail | apply find_skip)) (by first  | rfl) | exact keeps_self | exact keeps_left | apply keeps_app | apply keeps_mv | apply keeps_skip)) ?_; exact ⟨rfl, GO.same (g' := { g with ys := orB g.ys (sh1 m.d) }) (ys_ok hg (orB_bd _ _)) hl9 (by rw [hf]; rfl) (by rw [hf]) rfl⟩)
                            | (refine f_end0 (F' := (gb, C (GtV.c g) 127) :: (g.st.E ++ (g.qE ++ ((g.rb, MD (kInt .u32) g.rl g.rn) :: (g.oE ++ ((g.led, C (LdV.c l) 91) :: (l.d.E ++ Z))))))) hl hh rfl (by repeat (first | exact keeps_nil | apply keeps_cons (by repeat (first | exact find_head | apply find_tail | apply find_skip)) (by first  | rfl) | exact keeps_self | exact keeps_left | apply keeps_app | apply keeps_mv | apply keeps_skip)) ?_; exact ⟨rfl, GO.same hg hl9 (by rw [hf]) (by rw [hf]) rfl⟩)
                      · intro hg47; clear hl; intro hl
                        try simp only [decide_eq_true_eq, decide_eq_false_iff_not, Bool.not_eq_true', Bool.not_eq_false', Bool.not_eq_true, Bool.not_eq_false, Bool.and_eq_true, Bool.or_eq_true, Bool.and_eq_false_iff, Bool.or_eq_false_iff, Bool.not_not, ne_eq, Int.not_lt, Int.not_le, Decidable.not_not, beq_iff_eq, bne_iff_ne] at hg47
                        refine wl (wl_skip hl rfl ⟨_, _, rfl, rfl, rfl⟩ ?_)
                        clear hl a; intro a hl
                        refine wl (wl_skip hl rfl ⟨_, _, rfl, rfl, rfl⟩ ?_)
                        clear hl a; intro a hl
                        refine wl (wl_skip hl rfl ⟨_, _, rfl, rfl, rfl⟩ ?_)
                        clear hl a; intro a hl
                        refine wl (wl_skip hl rfl ⟨_, _, rfl, rfl, rfl⟩ ?_)
                        clear hl a; intro a hl
                        refine wl (wl_val hl rfl trivial (r_pickF hl rfl rfl) ?_)
                        clear hl a; intro a hl
                        refine wl (wl_val hl rfl trivial (r_assign hl rfl) ?_)
                        clear hl a; intro a hl
                        refine w_nil ?_
                        have hl2 := hl.add (t := 0) (hl.add (t := 3) (hl.add (t := 4) (hl.add (t := 5) (hl.add (t := 93) (hl.nil) rfl) rfl) rfl) rfl) rfl; clear hl; have hl := hl2; clear hl2
                        refine then_normal ?_
                        refine c_condF hl rfl ?_
                        have hn3 : ¬ (m.k = 6 ∧ g.pl.st.ph = 2 ∧ g.pl.au = true) := fun ⟨q1, q2, q3⟩ => by have q2 : g.st.ph = 2 := q2; have q3 : g.au = true := q3; first | omega | (simp_all; done)
                        refine c_seq ?_
                        refine c_region ?_
                        refine wl (wl_val hl rfl trivial (r_field hl rfl fld38_0) ?_)
                        clear hl a; intro a hl
                        refine wl (w_load hl hh rfl trivial one35 rfl (by repeat (first | exact find_head | apply find_tail | apply find_skip)) (by first | exact gtc_led _ | exact gtc_ep _ | exact gtc_vs _ | exact gtc_is _ | exact gtc_fid _ | exact gtc_ph _ | exact gtc_vd _ | exact gtc_q _ | exact gtc_rf _ | exact gtc_ys _ | exact gtc_dn _ | exact gtc_tk _ | exact gtc_au _ | exact gtc_o _ | exact gtc_off _ | rfl) ?_)
                        clear hl a; intro a hl
                        refine wl (wl_val hl rfl trivial (r_eql hl rfl rfl) ?_)
                        clear hl a; intro a hl
                        refine wl (wl_val hl rfl trivial (r_move hl rfl) ?_)
                        clear hl a; intro a hl
                        refine sl_split (t := 125) hl rfl ?_ ?_
                        · intro hg52; clear hl; intro hl
                          try simp only [decide_eq_true_eq, decide_eq_false_iff_not, Bool.not_eq_true', Bool.not_eq_false', Bool.not_eq_true, Bool.not_eq_false, Bool.and_eq_true, Bool.or_eq_true, Bool.and_eq_false_iff, Bool.or_eq_false_iff, Bool.not_not, ne_eq, Int.not_lt, Int.not_le, Decidable.not_not, beq_iff_eq, bne_iff_ne] at hg52
                          refine wl (wl_val hl rfl ⟨_, _, rfl, rfl, rfl⟩ (r_field hl rfl fld87_1) ?_)
                          clear hl a; intro a hl
                          refine wl (w_load hl hh rfl ⟨_, _, rfl, rfl, rfl⟩ one76 rfl (by repeat (first | exact find_head | apply find_tail | apply find_skip)) (by first | exact gtc_led _ | exact gtc_ep _ | exact gtc_vs _ | exact gtc_is _ | exact gtc_fid _ | exact gtc_ph _ | exact gtc_vd _ | exact gtc_q _ | exact gtc_rf _ | exact gtc_ys _ | exact gtc_dn _ | exact gtc_tk _ | exact gtc_au _ | exact gtc_o _ | exact gtc_off _ | rfl) ?_)
                          clear hl a; intro a hl
                          refine wl (wl_val hl rfl ⟨_, _, rfl, rfl, rfl⟩ (r_eql hl rfl rfl) ?_)
                          clear hl a; intro a hl
                          refine wl (wl_val hl rfl trivial (r_pickT hl rfl rfl) ?_)
                          clear hl a; intro a hl
                          refine wl (wl_val hl rfl trivial (r_move hl rfl) ?_)
                          clear hl a; intro a hl
                          refine sl_split (t := 130) hl rfl ?_ ?_
                          · intro hg53; clear hl; intro hl
                            try simp only [decide_eq_true_eq, decide_eq_false_iff_not, Bool.not_eq_true', Bool.not_eq_false', Bool.not_eq_true, Bool.not_eq_false, Bool.and_eq_true, Bool.or_eq_true, Bool.and_eq_false_iff, Bool.or_eq_false_iff, Bool.not_not, ne_eq, Int.not_lt, Int.not_le, Decidable.not_not, beq_iff_eq, bne_iff_ne] at hg53
                            refine wl (wl_val hl rfl ⟨_, _, rfl, rfl, rfl⟩ (r_move hl rfl) ?_)
                            clear hl a; intro a hl
                            refine wl (wl_val hl rfl ⟨_, _, rfl, rfl, rfl⟩ (r_nilCheck hl rfl) ?_)
                            clear hl a; intro a hl
                            refine wl (wl_val hl rfl ⟨_, _, rfl, rfl, rfl⟩ (r_field hl rfl fld127_8) ?_)
                            clear hl a; intro a hl
                            refine wl (w_load hl hh rfl ⟨_, _, rfl, rfl, rfl⟩ one4 rfl (by repeat (first | exact find_head | apply find_tail | apply find_skip)) (by first | exact gtc_led _ | exact gtc_ep _ | exact gtc_vs _ | exact gtc_is _ | exact gtc_fid _ | exact gtc_ph _ | exact gtc_vd _ | exact gtc_q _ | exact gtc_rf _ | exact gtc_ys _ | exact gtc_dn _ | exact gtc_tk _ | exact gtc_au _ | exact gtc_o _ | exact gtc_off _ | rfl) ?_)
                            clear hl a; intro a hl
                            refine wl (wl_val hl rfl trivial (r_pickT hl rfl rfl) ?_)
                            clear hl a; intro a hl
                            refine wl (wl_val hl rfl trivial (r_assign hl rfl) ?_)
                            clear hl a; intro a hl
                            refine w_nil ?_
                            have hl2 := hl.add (t := 0) (hl.add (t := 3) (hl.add (t := 4) (hl.add (t := 5) (hl.add (t := 121) (hl.nil) rfl) rfl) rfl) rfl) rfl; clear hl; have hl := hl2; clear hl2
                            refine then_normal ?_
                            refine c_cond hl rfl ?_ ?_
                            · intro hc7
                              try simp only [decide_eq_true_eq, decide_eq_false_iff_not, Bool.not_eq_true', Bool.not_eq_false', Bool.not_eq_true, Bool.not_eq_false, Bool.and_eq_true, Bool.or_eq_true, Bool.and_eq_false_iff, Bool.or_eq_false_iff, Bool.not_not, ne_eq, Int.not_lt, Int.not_le, Decidable.not_not, beq_iff_eq, bne_iff_ne] at hc7
                              have hk7 : m.k = 6 ∧ g.pl.st.ph = 3 ∧ g.pl.au = true := ⟨by omega, (show g.st.ph = 3 by omega), (show g.au = true by first | assumption | (simp_all; done))⟩
                              refine c_seq ?_
                              refine c_region ?_
                              refine wl (wl_val hl rfl trivial (r_field hl rfl fld38_5) ?_)
                              clear hl a; intro a hl
                              refine wl (w_load hl hh rfl trivial one36 rfl (by repeat (first | exact find_head | apply find_tail | apply find_skip)) (by first | exact gtc_led _ | exact gtc_ep _ | exact gtc_vs _ | exact gtc_is _ | exact gtc_fid _ | exact gtc_ph _ | exact gtc_vd _ | exact gtc_q _ | exact gtc_rf _ | exact gtc_ys _ | exact gtc_dn _ | exact gtc_tk _ | exact gtc_au _ | exact gtc_o _ | exact gtc_off _ | rfl) ?_)
                              clear hl a; intro a hl
                              refine wl (wl_val hl rfl trivial (r_field hl rfl fld87_0) ?_)
                              clear hl a; intro a hl
                              refine wl (w_load hl hh rfl trivial one36 rfl (by repeat (first | exact find_head | apply find_tail | apply find_skip)) (by first | exact gtc_led _ | exact gtc_ep _ | exact gtc_vs _ | exact gtc_is _ | exact gtc_fid _ | exact gtc_ph _ | exact gtc_vd _ | exact gtc_q _ | exact gtc_rf _ | exact gtc_ys _ | exact gtc_dn _ | exact gtc_tk _ | exact gtc_au _ | exact gtc_o _ | exact gtc_off _ | rfl) ?_)
                              clear hl a; intro a hl
                              refine wl (wl_val hl rfl trivial (r_neq hl rfl rfl) ?_)
                              clear hl a; intro a hl
                              refine wl (wl_val hl rfl trivial (r_move hl rfl) ?_)
                              clear hl a; intro a hl
                              refine sl_split (t := 141) hl rfl ?_ ?_
                              · intro hg54; clear hl; intro hl
                                try simp only [decide_eq_true_eq, decide_eq_false_iff_not, Bool.not_eq_true', Bool.not_eq_false', Bool.not_eq_true, Bool.not_eq_false, Bool.and_eq_true, Bool.or_eq_true, Bool.and_eq_false_iff, Bool.or_eq_false_iff, Bool.not_not, ne_eq, Int.not_lt, Int.not_le, Decidable.not_not, beq_iff_eq, bne_iff_ne] at hg54
                                refine wl (wl_val hl rfl ⟨_, _, rfl, rfl, rfl⟩ (r_field hl rfl fld38_6) ?_)
                                clear hl a; intro a hl
                                refine wl (w_load hl hh rfl ⟨_, _, rfl, rfl, rfl⟩ one36 rfl (by repeat (first | exact find_head | apply find_tail | apply find_skip)) (by first | exact gtc_led _ | exact gtc_ep _ | exact gtc_vs _ | exact gtc_is _ | exact gtc_fid _ | exact gtc_ph _ | exact gtc_vd _ | exact gtc_q _ | exact gtc_rf _ | exact gtc_ys _ | exact gtc_dn _ | exact gtc_tk _ | exact gtc_au _ | exact gtc_o _ | exact gtc_off _ | rfl) ?_)
                                clear hl a; intro a hl
                                refine wl (wl_val hl rfl ⟨_, _, rfl, rfl, rfl⟩ (r_eql hl rfl rfl) ?_)
                                clear hl a; intro a hl
                                refine wl (wl_val hl rfl trivial (r_pickT hl rfl rfl) ?_)
                                clear hl a; intro a hl
                                refine w_nil ?_
                                have hl2 := hl.add (t := 0) (hl.add (t := 5) (hl.add (t := 145) (hl.nil) rfl) rfl) rfl; clear hl; have hl := hl2; clear hl2
                                refine then_normal ?_
                                refine c_cond hl rfl ?_ ?_
                                · intro hc8
                                  try simp only [decide_eq_true_eq, decide_eq_false_iff_not, Bool.not_eq_true', Bool.not_eq_false', Bool.not_eq_true, Bool.not_eq_false, Bool.and_eq_true, Bool.or_eq_true, Bool.and_eq_false_iff, Bool.or_eq_false_iff, Bool.not_not, ne_eq, Int.not_lt, Int.not_le, Decidable.not_not, beq_iff_eq, bne_iff_ne] at hc8
                                  have hf := dl_7y (l := l.pl) hhd hk7 ⟨(show ¬ m.r = g.st.fid by omega), by omega⟩
                                  refine c_region ?_
                                  refine wl (wl_val hl rfl trivial (r_move hl rfl) ?_)
                                  clear hl a; intro a hl
                                  refine wl (wl_val hl rfl trivial (r_move hl rfl) ?_)
                                  clear hl a; intro a hl
                                  refine wl (w_call hl hh rfl trivial rfl cal52 rfl (confirm_spec Z gb g l hg hl9 (sh1 m.d) hvl) (by repeat (first | exact keeps_nil | apply keeps_cons (by repeat (first | exact find_head | apply find_tail | apply find_skip)) (by first  | rfl) | exact keeps_self | exact keeps_left | apply keeps_app | apply keeps_mv | apply keeps_skip)) trivial ?_)
                                  clear hl hh a w; intro vc Fc a w hR hl hh
                                  obtain ⟨rfl, g', l', G9, he9, hg', hl', hp1, hp2, rfl⟩ := hR
                                  try simp only [List.cons_append, List.nil_append, List.append_assoc, List.append_nil] at hh
                                  refine w_nil ?_
                                  have hl2 := hl.nil; clear hl; have hl := hl2; clear hl2
                                  refine blk_normal ?_
                                  first
                                  | (have hqq := hp2; refine f_end0 (F' := GF gb g' l' (Z ++ G9)) hl hh rfl (by first | exact keeps_self | exact keeps_left) ?_; exact ⟨rfl, g', l', G9, he9, hg', hl', hp1.trans (by rw [hf]; try rfl), hp2.trans (by rw [hf]; try rfl), rfl⟩)
                                  | (have hqq := hc3; refine f_end0 (F' := (gb, C (GtV.c { g with ys := orB g.ys (sh1 m.d) }) 127) :: (g.st.E ++ (g.qE ++ ((g.rb, MD (kInt .u32) g.rl g.rn) :: (g.oE ++ ((g.led, C (LdV.c l) 91) :: (l.d.E ++ Z))))))) hl hh rfl (by repeat (first | exact keeps_nil | apply keeps_cons (by repeat (first | exact find_head | apply find_tail | apply find_skip)) (by first  | rfl) | exact keeps_self | exact keeps_left | apply keeps_app | apply keeps_mv | apply keeps_skip)) ?_; exact ⟨rfl, GO.same (g' := { g with ys := orB g.ys (sh1 m.d) }) (ys_ok hg (orB_bd _ _)) hl9 (by rw [hf]; rfl) (by rw [hf]) rfl⟩)
                                  | (refine f_end0 (F' := (gb, C (GtV.c g) 127) :: (g.st.E ++ (g.qE ++ ((g.rb, MD (kInt .u32) g.rl g.rn) :: (g.oE ++ ((g.led, C (LdV.c l) 91) :: (l.d.E ++ Z))))))) hl hh rfl (by repeat (first | exact keeps_nil | apply keeps_cons (by repeat (first | exact find_head | apply find_tail | apply find_skip)) (by first  | rfl) | exact keeps_self | exact keeps_left | apply keeps_app | apply keeps_mv | apply keeps_skip)) ?_; exact ⟨rfl, GO.same hg hl9 (by rw [hf]) (by rw [hf]) rfl⟩)
                                · intro hc8
                                  try simp only [decide_eq_true_eq, decide_eq_false_iff_not, Bool.not_eq_true', Bool.not_eq_false', Bool.not_eq_true, Bool.not_eq_false, Bool.and_eq_true, Bool.or_eq_true, Bool.and_eq_false_iff, Bool.or_eq_false_iff, Bool.not_not, ne_eq, Int.not_lt, Int.not_le, Decidable.not_not, beq_iff_eq, bne_iff_ne] at hc8
                                  have hf := dl_7n (l := l.pl) hhd hk7 (fun ⟨q1, q2⟩ => by have q1 : ¬ m.r = g.st.fid := q1; omega)
                                  refine wp_skip ?_
                                  refine blk_normal ?_
                                  first
                                  | (have hqq := hp2; refine f_end0 (F' := GF gb g' l' (Z ++ G9)) hl hh rfl (by first | exact keeps_self | exact keeps_left) ?_; exact ⟨rfl, g', l', G9, he9, hg', hl', hp1.trans (by rw [hf]; try rfl), hp2.trans (by rw [hf]; try rfl), rfl⟩)
                                  | (have hqq := hc3; refine f_end0 (F' := (gb, C (GtV.c { g with ys := orB g.ys (sh1 m.d) }) 127) :: (g.st.E ++ (g.qE ++ ((g.rb, MD (kInt .u32) g.rl g.rn) :: (g.oE ++ ((g.led, C (LdV.c l) 91) :: (l.d.E ++ Z))))))) hl hh rfl (by repeat (first | exact keeps_nil | apply keeps_cons (by repeat (first | exact find_head | apply find_tail | apply find_skip)) (by first  | rfl) | exact keeps_self | exact keeps_left | apply keeps_app | apply keeps_mv | apply keeps_skip)) ?_; exact ⟨rfl, GO.same (g' := { g with ys := orB g.ys (sh1 m.d) }) (ys_ok hg (orB_bd _ _)) hl9 (by rw [hf]; rfl) (by rw [hf]) rfl⟩)
                                  | (refine f_end0 (F' := (gb, C (GtV.c g) 127) :: (g.st.E ++ (g.qE ++ ((g.rb, MD (kInt .u32) g.rl g.rn) :: (g.oE ++ ((g.led, C (LdV.c l) 91) :: (l.d.E ++ Z))))))) hl hh rfl (by repeat (first | exact keeps_nil | apply keeps_cons (by repeat (first | exact find_head | apply find_tail | apply find_skip)) (by first  | rfl) | exact keeps_self | exact keeps_left | apply keeps_app | apply keeps_mv | apply keeps_skip)) ?_; exact ⟨rfl, GO.same hg hl9 (by rw [hf]) (by rw [hf]) rfl⟩)
                              · intro hg54; clear hl; intro hl
                                try simp only [decide_eq_true_eq, decide_eq_false_iff_not, Bool.not_eq_true', Bool.not_eq_false', Bool.not_eq_true, Bool.not_eq_false, Bool.and_eq_true, Bool.or_eq_true, Bool.and_eq_false_iff, Bool.or_eq_false_iff, Bool.not_not, ne_eq, Int.not_lt, Int.not_le, Decidable.not_not, beq_iff_eq, bne_iff_ne] at hg54
                                refine wl (wl_skip hl rfl ⟨_, _, rfl, rfl, rfl⟩ ?_)
                                clear hl a; intro a hl
                                refine wl (wl_skip hl rfl ⟨_, _, rfl, rfl, rfl⟩ ?_)
                                clear hl a; intro a hl
                                refine wl (wl_skip hl rfl ⟨_, _, rfl, rfl, rfl⟩ ?_)
                                clear hl a; intro a hl
                                refine wl (wl_val hl rfl trivial (r_pickF hl rfl rfl) ?_)
                                clear hl a; intro a hl
                                refine w_nil ?_
                                have hl2 := hl.add (t := 0) (hl.add (t := 5) (hl.add (t := 145) (hl.nil) rfl) rfl) rfl; clear hl; have hl := hl2; clear hl2
                                refine then_normal ?_
                                refine c_condF hl rfl ?_
                                have hf := dl_7n (l := l.pl) hhd hk7 (fun ⟨q1, q2⟩ => by have q1 : ¬ m.r = g.st.fid := q1; omega)
                                refine wp_skip ?_
                                refine blk_normal ?_
                                first
                                | (have hqq := hp2; refine f_end0 (F' := GF gb g' l' (Z ++ G9)) hl hh rfl (by first | exact keeps_self | exact keeps_left) ?_; exact ⟨rfl, g', l', G9, he9, hg', hl', hp1.trans (by rw [hf]; try rfl), hp2.trans (by rw [hf]; try rfl), rfl⟩)
                                | (have hqq := hc3; refine f_end0 (F' := (gb, C (GtV.c { g with ys := orB g.ys (sh1 m.d) }) 127) :: (g.st.E ++ (g.qE ++ ((g.rb, MD (kInt .u32) g.rl g.rn) :: (g.oE ++ ((g.led, C (LdV.c l) 91) :: (l.d.E ++ Z))))))) hl hh rfl (by repeat (first | exact keeps_nil | apply keeps_cons (by repeat (first | exact find_head | apply find_tail | apply find_skip)) (by first  | rfl) | exact keeps_self | exact keeps_left | apply keeps_app | apply keeps_mv | apply keeps_skip)) ?_; exact ⟨rfl, GO.same (g' := { g with ys := orB g.ys (sh1 m.d) }) (ys_ok hg (orB_bd _ _)) hl9 (by rw [hf]; rfl) (by rw [hf]) rfl⟩)
                                | (refine f_end0 (F' := (gb, C (GtV.c g) 127) :: (g.st.E ++ (g.qE ++ ((g.rb, MD (kInt .u32) g.rl g.rn) :: (g.oE ++ ((g.led, C (LdV.c l) 91) :: (l.d.E ++ Z))))))) hl hh rfl (by repeat (first | exact keeps_nil | apply keeps_cons (by repeat (first | exact find_head | apply find_tail | apply find_skip)) (by first  | rfl) | exact keeps_self | exact keeps_left | apply keeps_app | apply keeps_mv | apply keeps_skip)) ?_; exact ⟨rfl, GO.same hg hl9 (by rw [hf]) (by rw [hf]) rfl⟩)
                            · intro hc7
                              try simp only [decide_eq_true_eq, decide_eq_false_iff_not, Bool.not_eq_true', Bool.not_eq_false', Bool.not_eq_true, Bool.not_eq_false, Bool.and_eq_true, Bool.or_eq_true, Bool.and_eq_false_iff, Bool.or_eq_false_iff, Bool.not_not, ne_eq, Int.not_lt, Int.not_le, Decidable.not_not, beq_iff_eq, bne_iff_ne] at hc7
                              have hn4 : ¬ (m.k = 6 ∧ g.pl.st.ph = 3 ∧ g.pl.au = true) := fun ⟨q1, q2, q3⟩ => by have q2 : g.st.ph = 3 := q2; have q3 : g.au = true := q3; first | omega | (simp_all; done)
                              have hf := dl_x (l := l.pl) hhd hn1 hn2 hn3 hn4
                              refine wp_skip ?_
                              refine blk_normal ?_
                              first
                              | (have hqq := hp2; refine f_end0 (F' := GF gb g' l' (Z ++ G9)) hl hh rfl (by first | exact keeps_self | exact keeps_left) ?_; exact ⟨rfl, g', l', G9, he9, hg', hl', hp1.trans (by rw [hf]; try rfl), hp2.trans (by rw [hf]; try rfl), rfl⟩)
                              | (have hqq := hc3; refine f_end0 (F' := (gb, C (GtV.c { g with ys := orB g.ys (sh1 m.d) }) 127) :: (g.st.E ++ (g.qE ++ ((g.rb, MD (kInt .u32) g.rl g.rn) :: (g.oE ++ ((g.led, C (LdV.c l) 91) :: (l.d.E ++ Z))))))) hl hh rfl (by repeat (first | exact keeps_nil | apply keeps_cons (by repeat (first | exact find_head | apply find_tail | apply find_skip)) (by first  | rfl) | exact keeps_self | exact keeps_left | apply keeps_app | apply keeps_mv | apply keeps_skip)) ?_; exact ⟨rfl, GO.same (g' := { g with ys := orB g.ys (sh1 m.d) }) (ys_ok hg (orB_bd _ _)) hl9 (by rw [hf]; rfl) (by rw [hf]) rfl⟩)
                              | (refine f_end0 (F' := (gb, C (GtV.c g) 127) :: (g.st.E ++ (g.qE ++ ((g.rb, MD (kInt .u32) g.rl g.rn) :: (g.oE ++ ((g.led, C (LdV.c l) 91) :: (l.d.E ++ Z))))))) hl hh rfl (by repeat (first | exact keeps_nil | apply keeps_cons (by repeat (first | exact find_head | apply find_tail | apply find_skip)) (by first  | rfl) | exact keeps_self | exact keeps_left | apply keeps_app | apply keeps_mv | apply keeps_skip)) ?_; exact ⟨rfl, GO.same hg hl9 (by rw [hf]) (by rw [hf]) rfl⟩)
                          · intro hg53; clear hl; intro hl
                            try simp only [decide_eq_true_eq, decide_eq_false_iff_not, Bool.not_eq_true', Bool.not_eq_false', Bool.not_eq_true, Bool.not_eq_false, Bool.and_eq_true, Bool.or_eq_true, Bool.and_eq_false_iff, Bool.or_eq_false_iff, Bool.not_not, ne_eq, Int.not_lt, Int.not_le, Decidable.not_not, beq_iff_eq, bne_iff_ne] at hg53
                            refine wl (wl_skip hl rfl ⟨_, _, rfl, rfl, rfl⟩ ?_)
                            clear hl a; intro a hl
                            refine wl (wl_skip hl rfl ⟨_, _, rfl, rfl, rfl⟩ ?_)
                            clear hl a; intro a hl
                            refine wl (wl_skip hl rfl ⟨_, _, rfl, rfl, rfl⟩ ?_)
                            clear hl a; intro a hl
                            refine wl (wl_skip hl rfl ⟨_, _, rfl, rfl, rfl⟩ ?_)
                            clear hl a; intro a hl
                            refine wl (wl_val hl rfl trivial (r_pickF hl rfl rfl) ?_)
                            clear hl a; intro a hl
                            refine wl (wl_val hl rfl trivial (r_assign hl rfl) ?_)
                            clear hl a; intro a hl
                            refine w_nil ?_
                            have hl2 := hl.add (t := 0) (hl.add (t := 3) (hl.add (t := 4) (hl.add (t := 5) (hl.add (t := 121) (hl.nil) rfl) rfl) rfl) rfl) rfl; clear hl; have hl := hl2; clear hl2
                            refine then_normal ?_
                            refine c_condF hl rfl ?_
                            have hn4 : ¬ (m.k = 6 ∧ g.pl.st.ph = 3 ∧ g.pl.au = true) := fun ⟨q1, q2, q3⟩ => by have q2 : g.st.ph = 3 := q2; have q3 : g.au = true := q3; first | omega | (simp_all; done)
                            have hf := dl_x (l := l.pl) hhd hn1 hn2 hn3 hn4
                            refine wp_skip ?_
                            refine blk_normal ?_
                            first
                            | (have hqq := hp2; refine f_end0 (F' := GF gb g' l' (Z ++ G9)) hl hh rfl (by first | exact keeps_self | exact keeps_left) ?_; exact ⟨rfl, g', l', G9, he9, hg', hl', hp1.trans (by rw [hf]; try rfl), hp2.trans (by rw [hf]; try rfl), rfl⟩)
                            | (have hqq := hc3; refine f_end0 (F' := (gb, C (GtV.c { g with ys := orB g.ys (sh1 m.d) }) 127) :: (g.st.E ++ (g.qE ++ ((g.rb, MD (kInt .u32) g.rl g.rn) :: (g.oE ++ ((g.led, C (LdV.c l) 91) :: (l.d.E ++ Z))))))) hl hh rfl (by repeat (first | exact keeps_nil | apply keeps_cons (by repeat (first | exact find_head | apply find_tail | apply find_skip)) (by first  | rfl) | exact keeps_self | exact keeps_left | apply keeps_app | apply keeps_mv | apply keeps_skip)) ?_; exact ⟨rfl, GO.same (g' := { g with ys := orB g.ys (sh1 m.d) }) (ys_ok hg (orB_bd _ _)) hl9 (by rw [hf]; rfl) (by rw [hf]) rfl⟩)
                            | (refine f_end0 (F' := (gb, C (GtV.c g) 127) :: (g.st.E ++ (g.qE ++ ((g.rb, MD (kInt .u32) g.rl g.rn) :: (g.oE ++ ((g.led, C (LdV.c l) 91) :: (l.d.E ++ Z))))))) hl hh rfl (by repeat (first | exact keeps_nil | apply keeps_cons (by repeat (first | exact find_head | apply find_tail | apply find_skip)) (by first  | rfl) | exact keeps_self | exact keeps_left | apply keeps_app | apply keeps_mv | apply keeps_skip)) ?_; exact ⟨rfl, GO.same hg hl9 (by rw [hf]) (by rw [hf]) rfl⟩)
                        · intro hg52; clear hl; intro hl
                          try simp only [decide_eq_true_eq, decide_eq_false_iff_not, Bool.not_eq_true', Bool.not_eq_false', Bool.not_eq_true, Bool.not_eq_false, Bool.and_eq_true, Bool.or_eq_true, Bool.and_eq_false_iff, Bool.or_eq_false_iff, Bool.not_not, ne_eq, Int.not_lt, Int.not_le, Decidable.not_not, beq_iff_eq, bne_iff_ne] at hg52
                          refine wl (wl_skip hl rfl ⟨_, _, rfl, rfl, rfl⟩ ?_)
                          clear hl a; intro a hl
                          refine wl (wl_skip hl rfl ⟨_, _, rfl, rfl, rfl⟩ ?_)
                          clear hl a; intro a hl
                          refine wl (wl_skip hl rfl ⟨_, _, rfl, rfl, rfl⟩ ?_)
                          clear hl a; intro a hl
                          refine wl (wl_val hl rfl trivial (r_pickF hl rfl rfl) ?_)
                          clear hl a; intro a hl
                          refine wl (wl_val hl rfl trivial (r_move hl rfl) ?_)
                          clear hl a; intro a hl
                          refine wl (wl_skip hl rfl ⟨_, _, rfl, rfl, rfl⟩ ?_)
                          clear hl a; intro a hl
                          refine wl (wl_skip hl rfl ⟨_, _, rfl, rfl, rfl⟩ ?_)
                          clear hl a; intro a hl
                          refine wl (wl_skip hl rfl ⟨_, _, rfl, rfl, rfl⟩ ?_)
                          clear hl a; intro a hl
                          refine wl (wl_skip hl rfl ⟨_, _, rfl, rfl, rfl⟩ ?_)
                          clear hl a; intro a hl
                          refine wl (wl_val hl rfl trivial (r_pickF hl rfl rfl) ?_)
                          clear hl a; intro a hl
                          refine wl (wl_val hl rfl trivial (r_assign hl rfl) ?_)
                          clear hl a; intro a hl
                          refine w_nil ?_
                          have hl2 := hl.add (t := 0) (hl.add (t := 3) (hl.add (t := 4) (hl.add (t := 5) (hl.add (t := 121) (hl.nil) rfl) rfl) rfl) rfl) rfl; clear hl; have hl := hl2; clear hl2
                          refine then_normal ?_
                          refine c_condF hl rfl ?_
                          have hn4 : ¬ (m.k = 6 ∧ g.pl.st.ph = 3 ∧ g.pl.au = true) := fun ⟨q1, q2, q3⟩ => by have q2 : g.st.ph = 3 := q2; have q3 : g.au = true := q3; first | omega | (simp_all; done)
                          have hf := dl_x (l := l.pl) hhd hn1 hn2 hn3 hn4
                          refine wp_skip ?_
                          refine blk_normal ?_
                          first
                          | (have hqq := hp2; refine f_end0 (F' := GF gb g' l' (Z ++ G9)) hl hh rfl (by first | exact keeps_self | exact keeps_left) ?_; exact ⟨rfl, g', l', G9, he9, hg', hl', hp1.trans (by rw [hf]; try rfl), hp2.trans (by rw [hf]; try rfl), rfl⟩)
                          | (have hqq := hc3; refine f_end0 (F' := (gb, C (GtV.c { g with ys := orB g.ys (sh1 m.d) }) 127) :: (g.st.E ++ (g.qE ++ ((g.rb, MD (kInt .u32) g.rl g.rn) :: (g.oE ++ ((g.led, C (LdV.c l) 91) :: (l.d.E ++ Z))))))) hl hh rfl (by repeat (first | exact keeps_nil | apply keeps_cons (by repeat (first | exact find_head | apply find_tail | apply find_skip)) (by first  | rfl) | exact keeps_self | exact keeps_left | apply keeps_app | apply keeps_mv | apply keeps_skip)) ?_; exact ⟨rfl, GO.same (g' := { g with ys := orB g.ys (sh1 m.d) }) (ys_ok hg (orB_bd _ _)) hl9 (by rw [hf]; rfl) (by rw [hf]) rfl⟩)
                          | (refine f_end0 (F' := (gb, C (GtV.c g) 127) :: (g.st.E ++ (g.qE ++ ((g.rb, MD (kInt .u32) g.rl g.rn) :: (g.oE ++ ((g.led, C (LdV.c l) 91) :: (l.d.E ++ Z))))))) hl hh rfl (by repeat (first | exact keeps_nil | apply keeps_cons (by repeat (first | exact find_head | apply find_tail | apply find_skip)) (by first  | rfl) | exact keeps_self | exact keeps_left | apply keeps_app | apply keeps_mv | apply keeps_skip)) ?_; exact ⟨rfl, GO.same hg hl9 (by rw [hf]) (by rw [hf]) rfl⟩)
                    · intro hg46; clear hl; intro hl
                      try simp only [decide_eq_true_eq, decide_eq_false_iff_not, Bool.not_eq_true', Bool.not_eq_false', Bool.not_eq_true, Bool.not_eq_false, Bool.and_eq_true, Bool.or_eq_true, Bool.and_eq_false_iff, Bool.or_eq_false_iff, Bool.not_not, ne_eq, Int.not_lt, Int.not_le, Decidable.not_not, beq_iff_eq, bne_iff_ne] at hg46
                      refine wl (wl_skip hl rfl ⟨_, _, rfl, rfl, rfl⟩ ?_)
                      clear hl a; intro a hl
                      refine wl (wl_skip hl rfl ⟨_, _, rfl, rfl, rfl⟩ ?_)
                      clear hl a; intro a hl
                      refine wl (wl_skip hl rfl ⟨_, _, rfl, rfl, rfl⟩ ?_)
                      clear hl a; intro a hl
                      refine wl (wl_val hl rfl trivial (r_pickF hl rfl rfl) ?_)
                      clear hl a; intro a hl
                      refine wl (wl_val hl rfl trivial (r_move hl rfl) ?_)
                      clear hl a; intro a hl
                      refine wl (wl_skip hl rfl ⟨_, _, rfl, rfl, rfl⟩ ?_)
                      clear hl a; intro a hl
                      refine wl (wl_skip hl rfl ⟨_, _, rfl, rfl, rfl⟩ ?_)
                      clear hl a; intro a hl
                      refine wl (wl_skip hl rfl ⟨_, _, rfl, rfl, rfl⟩ ?_)
                      clear hl a; intro a hl
                      refine wl (wl_skip hl rfl ⟨_, _, rfl, rfl, rfl⟩ ?_)
                      clear hl a; intro a hl
                      refine wl (wl_val hl rfl trivial (r_pickF hl rfl rfl) ?_)
                      clear hl a; intro a hl
                      refine wl (wl_val hl rfl trivial (r_assign hl rfl) ?_)
                      clear hl a; intro a hl
                      refine w_nil ?_
                      have hl2 := hl.add (t := 0) (hl.add (t := 3) (hl.add (t := 4) (hl.add (t := 5) (hl.add (t := 93) (hl.nil) rfl) rfl) rfl) rfl) rfl; clear hl; have hl := hl2; clear hl2
                      refine then_normal ?_
                      refine c_condF hl rfl ?_
                      have hn3 : ¬ (m.k = 6 ∧ g.pl.st.ph = 2 ∧ g.pl.au = true) := fun ⟨q1, q2, q3⟩ => by have q2 : g.st.ph = 2 := q2; have q3 : g.au = true := q3; first | omega | (simp_all; done)
                      refine c_seq ?_
                      refine c_region ?_
                      refine wl (wl_val hl rfl trivial (r_field hl rfl fld38_0) ?_)
                      clear hl a; intro a hl
                      refine wl (w_load hl hh rfl trivial one35 rfl (by repeat (first | exact find_head | apply find_tail | apply find_skip)) (by first | exact gtc_led _ | exact gtc_ep _ | exact gtc_vs _ | exact gtc_is _ | exact gtc_fid _ | exact gtc_ph _ | exact gtc_vd _ | exact gtc_q _ | exact gtc_rf _ | exact gtc_ys _ | exact gtc_dn _ | exact gtc_tk _ | exact gtc_au _ | exact gtc_o _ | exact gtc_off _ | rfl) ?_)
                      clear hl a; intro a hl
                      refine wl (wl_val hl rfl trivial (r_eql hl rfl rfl) ?_)
                      clear hl a; intro a hl
                      refine wl (wl_val hl rfl trivial (r_move hl rfl) ?_)
                      clear hl a; intro a hl
                      refine sl_split (t := 125) hl rfl ?_ ?_
                      · intro hg55; clear hl; intro hl
                        try simp only [decide_eq_true_eq, decide_eq_false_iff_not, Bool.not_eq_true', Bool.not_eq_false', Bool.not_eq_true, Bool.not_eq_false, Bool.and_eq_true, Bool.or_eq_true, Bool.and_eq_false_iff, Bool.or_eq_false_iff, Bool.not_not, ne_eq, Int.not_lt, Int.not_le, Decidable.not_not, beq_iff_eq, bne_iff_ne] at hg55
                        refine wl (wl_val hl rfl ⟨_, _, rfl, rfl, rfl⟩ (r_field hl rfl fld87_1) ?_)
                        clear hl a; intro a hl
                        refine wl (w_load hl hh rfl ⟨_, _, rfl, rfl, rfl⟩ one76 rfl (by repeat (first | exact find_head | apply find_tail | apply find_skip)) (by first | exact gtc_led _ | exact gtc_ep _ | exact gtc_vs _ | exact gtc_is _ | exact gtc_fid _ | exact gtc_ph _ | exact gtc_vd _ | exact gtc_q _ | exact gtc_rf _ | exact gtc_ys _ | exact gtc_dn _ | exact gtc_tk _ | exact gtc_au _ | exact gtc_o _ | exact gtc_off _ | rfl) ?_)
                        clear hl a; intro a hl
                        refine wl (wl_val hl rfl ⟨_, _, rfl, rfl, rfl⟩ (r_eql hl rfl rfl) ?_)
                        clear hl a; intro a hl
                        refine wl (wl_val hl rfl trivial (r_pickT hl rfl rfl) ?_)
                        clear hl a; intro a hl
                        refine wl (wl_val hl rfl trivial (r_move hl rfl) ?_)
                        clear hl a; intro a hl
                        refine sl_split (t := 130) hl rfl ?_ ?_
                        · intro hg56; clear hl; intro hl
                          try simp only [decide_eq_true_eq, decide_eq_false_iff_not, Bool.not_eq_true', Bool.not_eq_false', Bool.not_eq_true, Bool.not_eq_false, Bool.and_eq_true, Bool.or_eq_true, Bool.and_eq_false_iff, Bool.or_eq_false_iff, Bool.not_not, ne_eq, Int.not_lt, Int.not_le, Decidable.not_not, beq_iff_eq, bne_iff_ne] at hg56
                          refine wl (wl_val hl rfl ⟨_, _, rfl, rfl, rfl⟩ (r_move hl rfl) ?_)
                          clear hl a; intro a hl
                          refine wl (wl_val hl rfl ⟨_, _, rfl, rfl, rfl⟩ (r_nilCheck hl rfl) ?_)
                          clear hl a; intro a hl
                          refine wl (wl_val hl rfl ⟨_, _, rfl, rfl, rfl⟩ (r_field hl rfl fld127_8) ?_)
                          clear hl a; intro a hl
                          refine wl (w_load hl hh rfl ⟨_, _, rfl, rfl, rfl⟩ one4 rfl (by repeat (first | exact find_head | apply find_tail | apply find_skip)) (by first | exact gtc_led _ | exact gtc_ep _ | exact gtc_vs _ | exact gtc_is _ | exact gtc_fid _ | exact gtc_ph _ | exact gtc_vd _ | exact gtc_q _ | exact gtc_rf _ | exact gtc_ys _ | exact gtc_dn _ | exact gtc_tk _ | exact gtc_au _ | exact gtc_o _ | exact gtc_off _ | rfl) ?_)
                          clear hl a; intro a hl
                          refine wl (wl_val hl rfl trivial (r_pickT hl rfl rfl) ?_)
                          clear hl a; intro a hl
                          refine wl (wl_val hl rfl trivial (r_assign hl rfl) ?_)
                          clear hl a; intro a hl
                          refine w_nil ?_
                          have hl2 := hl.add (t := 0) (hl.add (t := 3) (hl.add (t := 4) (hl.add (t := 5) (hl.add (t := 121) (hl.nil) rfl) rfl) rfl) rfl) rfl; clear hl; have hl := hl2; clear hl2
                          refine then_normal ?_
                          refine c_cond hl rfl ?_ ?_
                          · intro hc7
                            try simp only [decide_eq_true_eq, decide_eq_false_iff_not, Bool.not_eq_true', Bool.not_eq_false', Bool.not_eq_true, Bool.not_eq_false, Bool.and_eq_true, Bool.or_eq_true, Bool.and_eq_false_iff, Bool.or_eq_false_iff, Bool.not_not, ne_eq, Int.not_lt, Int.not_le, Decidable.not_not, beq_iff_eq, bne_iff_ne] at hc7
                            have hk7 : m.k = 6 ∧ g.pl.st.ph = 3 ∧ g.pl.au = true := ⟨by omega, (show g.st.ph = 3 by omega), (show g.au = true by first | assumption | (simp_all; done))⟩
                            refine c_seq ?_
                            refine c_region ?_
                            refine wl (wl_val hl rfl trivial (r_field hl rfl fld38_5) ?_)
                            clear hl a; intro a hl
                            refine wl (w_load hl hh rfl trivial one36 rfl (by repeat (first | exact find_head | apply find_tail | apply find_skip)) (by first | exact gtc_led _ | exact gtc_ep _ | exact gtc_vs _ | exact gtc_is _ | exact gtc_fid _ | exact gtc_ph _ | exact gtc_vd _ | exact gtc_q _ | exact gtc_rf _ | exact gtc_ys _ | exact gtc_dn _ | exact gtc_tk _ | exact gtc_au _ | exact gtc_o _ | exact gtc_off _ | rfl) ?_)
                            clear hl a; intro a hl
                            refine wl (wl_val hl rfl trivial (r_field hl rfl fld87_0) ?_)
                            clear hl a; intro a hl
                            refine wl (w_load hl hh rfl trivial one36 rfl (by repeat (first | exact find_head | apply find_tail | apply find_skip)) (by first | exact gtc_led _ | exact gtc_ep _ | exact gtc_vs _ | exact gtc_is _ | exact gtc_fid _ | exact gtc_ph _ | exact gtc_vd _ | exact gtc_q _ | exact gtc_rf _ | exact gtc_ys _ | exact gtc_dn _ | exact gtc_tk _ | exact gtc_au _ | exact gtc_o _ | exact gtc_off _ | rfl) ?_)
                            clear hl a; intro a hl
                            refine wl (wl_val hl rfl trivial (r_neq hl rfl rfl) ?_)
                            clear hl a; intro a hl
                            refine wl (wl_val hl rfl trivial (r_move hl rfl) ?_)
                            clear hl a; intro a hl
                            refine sl_split (t := 141) hl rfl ?_ ?_
                            · intro hg57; clear hl; intro hl
                              try simp only [decide_eq_true_eq, decide_eq_false_iff_not, Bool.not_eq_true', Bool.not_eq_false', Bool.not_eq_true, Bool.not_eq_false, Bool.and_eq_true, Bool.or_eq_true, Bool.and_eq_false_iff, Bool.or_eq_false_iff, Bool.not_not, ne_eq, Int.not_lt, Int.not_le, Decidable.not_not, beq_iff_eq, bne_iff_ne] at hg57
                              refine wl (wl_val hl rfl ⟨_, _, rfl, rfl, rfl⟩ (r_field hl rfl fld38_6) ?_)
                              clear hl a; intro a hl
                              refine wl (w_load hl hh rfl ⟨_, _, rfl, rfl, rfl⟩ one36 rfl (by repeat (first | exact find_head | apply find_tail | apply find_skip)) (by first | exact gtc_led _ | exact gtc_ep _ | exact gtc_vs _ | exact gtc_is _ | exact gtc_fid _ | exact gtc_ph _ | exact gtc_vd _ | exact gtc_q _ | exact gtc_rf _ | exact gtc_ys _ | exact gtc_dn _ | exact gtc_tk _ | exact gtc_au _ | exact gtc_o _ | exact gtc_off _ | rfl) ?_)
                              clear hl a; intro a hl
                              refine wl (wl_val hl rfl ⟨_, _, rfl, rfl, rfl⟩ (r_eql hl rfl rfl) ?_)
                              clear hl a; intro a hl
                              refine wl (wl_val hl rfl trivial (r_pickT hl rfl rfl) ?_)
                              clear hl a; intro a hl
                              refine w_nil ?_
                              have hl2 := hl.add (t := 0) (hl.add (t := 5) (hl.add (t := 145) (hl.nil) rfl) rfl) rfl; clear hl; have hl := hl2; clear hl2
                              refine then_normal ?_
                              refine c_cond hl rfl ?_ ?_
                              · intro hc8
                                try simp only [decide_eq_true_eq, decide_eq_false_iff_not, Bool.not_eq_true', Bool.not_eq_false', Bool.not_eq_true, Bool.not_eq_false, Bool.and_eq_true, Bool.or_eq_true, Bool.and_eq_false_iff, Bool.or_eq_false_iff, Bool.not_not, ne_eq, Int.not_lt, Int.not_le, Decidable.not_not, beq_iff_eq, bne_iff_ne] at hc8
                                have hf := dl_7y (l := l.pl) hhd hk7 ⟨(show ¬ m.r = g.st.fid by omega), by omega⟩
                                refine c_region ?_
                                refine wl (wl_val hl rfl trivial (r_move hl rfl) ?_)
                                clear hl a; intro a hl
                                refine wl (wl_val hl rfl trivial (r_move hl rfl) ?_)
                                clear hl a; intro a hl
                                refine wl (w_call hl hh rfl trivial rfl cal52 rfl (confirm_spec Z gb g l hg hl9 (sh1 m.d) hvl) (by repeat (first | exact keeps_nil | apply keeps_cons (by repeat (first | exact find_head | apply find_tail | apply find_skip)) (by first  | rfl) | exact keeps_self | exact keeps_left | apply keeps_app | apply keeps_mv | apply keeps_skip)) trivial ?_)
                                clear hl hh a w; intro vc Fc a w hR hl hh
                                obtain ⟨rfl, g', l', G9, he9, hg', hl', hp1, hp2, rfl⟩ := hR
                                try simp only [List.cons_append, List.nil_append, List.append_assoc, List.append_nil] at hh
                                refine w_nil ?_
                                have hl2 := hl.nil; clear hl; have hl := hl2; clear hl2
                                refine blk_normal ?_
                                first
                                | (have hqq := hp2; refine f_end0 (F' := GF gb g' l' (Z ++ G9)) hl hh rfl (by first | exact keeps_self | exact keeps_left) ?_; exact ⟨rfl, g', l', G9, he9, hg', hl', hp1.trans (by rw [hf]; try rfl), hp2.trans (by rw [hf]; try rfl), rfl⟩)
                                | (have hqq := hc3; refine f_end0 (F' := (gb, C (GtV.c { g with ys := orB g.ys (sh1 m.d) }) 127) :: (g.st.E ++ (g.qE ++ ((g.rb, MD (kInt .u32) g.rl g.rn) :: (g.oE ++ ((g.led, C (LdV.c l) 91) :: (l.d.E ++ Z))))))) hl hh rfl (by repeat (first | exact keeps_nil | apply keeps_cons (by repeat (first | exact find_head | apply find_tail | apply find_skip)) (by first  | rfl) | exact keeps_self | exact keeps_left | apply keeps_app | apply keeps_mv | apply keeps_skip)) ?_; exact ⟨rfl, GO.same (g' := { g with ys := orB g.ys (sh1 m.d) }) (ys_ok hg (orB_bd _ _)) hl9 (by rw [hf]; rfl) (by rw [hf]) rfl⟩)
                                | (refine f_end0 (F' := (gb, C (GtV.c g) 127) :: (g.st.E ++ (g.qE ++ ((g.rb, MD (kInt .u32) g.rl g.rn) :: (g.oE ++ ((g.led, C (LdV.c l) 91) :: (l.d.E ++ Z))))))) hl hh rfl (by repeat (first | exact keeps_nil | apply keeps_cons (by repeat (first | exact find_head | apply find_tail | apply find_skip)) (by first  | rfl) | exact keeps_self | exact keeps_left | apply keeps_app | apply keeps_mv | apply keeps_skip)) ?_; exact ⟨rfl, GO.same hg hl9 (by rw [hf]) (by rw [hf]) rfl⟩)
                              · intro hc8
                                try simp only [decide_eq_true_eq, decide_eq_false_iff_not, Bool.not_eq_true', Bool.not_eq_false', Bool.not_eq_true, Bool.not_eq_false, Bool.and_eq_true, Bool.or_eq_true, Bool.and_eq_false_iff, Bool.or_eq_false_iff, Bool.not_not, ne_eq, Int.not_lt, Int.not_le, Decidable.not_not, beq_iff_eq, bne_iff_ne] at hc8
                                have hf := dl_7n (l := l.pl) hhd hk7 (fun ⟨q1, q2⟩ => by have q1 : ¬ m.r = g.st.fid := q1; omega)
                                refine wp_skip ?_
                                refine blk_normal ?_
                                first
                                | (have hqq := hp2; refine f_end0 (F' := GF gb g' l' (Z ++ G9)) hl hh rfl (by first | exact keeps_self | exact keeps_left) ?_; exact ⟨rfl, g', l', G9, he9, hg', hl', hp1.trans (by rw [hf]; try rfl), hp2.trans (by rw [hf]; try rfl), rfl⟩)
                                | (have hqq := hc3; refine f_end0 (F' := (gb, C (GtV.c { g with ys := orB g.ys (sh1 m.d) }) 127) :: (g.st.E ++ (g.qE ++ ((g.rb, MD (kInt .u32) g.rl g.rn) :: (g.oE ++ ((g.led, C (LdV.c l) 91) :: (l.d.E ++ Z))))))) hl hh rfl (by repeat (first | exact keeps_nil | apply keeps_cons (by repeat (first | exact find_head | apply find_tail | apply find_skip)) (by first  | rfl) | exact keeps_self | exact keeps_left | apply keeps_app | apply keeps_mv | apply keeps_skip)) ?_; exact ⟨rfl, GO.same (g' := { g with ys := orB g.ys (sh1 m.d) }) (ys_ok hg (orB_bd _ _)) hl9 (by rw [hf]; rfl) (by rw [hf]) rfl⟩)
                                | (refine f_end0 (F' := (gb, C (GtV.c g) 127) :: (g.st.E ++ (g.qE ++ ((g.rb, MD (kInt .u32) g.rl g.rn) :: (g.oE ++ ((g.led, C (LdV.c l) 91) :: (l.d.E ++ Z))))))) hl hh rfl (by repeat (first | exact keeps_nil | apply keeps_cons (by repeat (first | exact find_head | apply find_tail | apply find_skip)) (by first  | rfl) | exact keeps_self | exact keeps_left | apply keeps_app | apply keeps_mv | apply keeps_skip)) ?_; exact ⟨rfl, GO.same hg hl9 (by rw [hf]) (by rw [hf]) rfl⟩)
                            · intro hg57; clear hl; intro hl
                              try simp only [decide_eq_true_eq, decide_eq_false_iff_not, Bool.not_eq_true', Bool.not_eq_false', Bool.not_eq_true, Bool.not_eq_false, Bool.and_eq_true, Bool.or_eq_true, Bool.and_eq_false_iff, Bool.or_eq_false_iff, Bool.not_not, ne_eq, Int.not_lt, Int.not_le, Decidable.not_not, beq_iff_eq, bne_iff_ne] at hg57
                              refine wl (wl_skip hl rfl ⟨_, _, rfl, rfl, rfl⟩ ?_)
                              clear hl a; intro a hl
                              refine wl (wl_skip hl rfl ⟨_, _, rfl, rfl, rfl⟩ ?_)
                              clear hl a; intro a hl
                              refine wl (wl_skip hl rfl ⟨_, _, rfl, rfl, rfl⟩ ?_)
                              clear hl a; intro a hl
                              refine wl (wl_val hl rfl trivial (r_pickF hl rfl rfl) ?_)
                              clear hl a; intro a hl
                              refine w_nil ?_
                              have hl2 := hl.add (t := 0) (hl.add (t := 5) (hl.add (t := 145) (hl.nil) rfl) rfl) rfl; clear hl; have hl := hl2; clear hl2
                              refine then_normal ?_
                              refine c_condF hl rfl ?_
                              have hf := dl_7n (l := l.pl) hhd hk7 (fun ⟨q1, q2⟩ => by have q1 : ¬ m.r = g.st.fid := q1; omega)
                              refine wp_skip ?_
                              refine blk_normal ?_
                              first
                              | (have hqq := hp2; refine f_end0 (F' := GF gb g' l' (Z ++ G9)) hl hh rfl (by first | exact keeps_self | exact keeps_left) ?_; exact ⟨rfl, g', l', G9, he9, hg', hl', hp1.trans (by rw [hf]; try rfl), hp2.trans (by rw [hf]; try rfl), rfl⟩)
                              | (have hqq := hc3; refine f_end0 (F' := (gb, C (GtV.c { g with ys := orB g.ys (sh1 m.d) }) 127) :: (g.st.E ++ (g.qE ++ ((g.rb, MD (kInt .u32) g.rl g.rn) :: (g.oE ++ ((g.led, C (LdV.c l) 91) :: (l.d.E ++ Z))))))) hl hh rfl (by repeat (first | exact keeps_nil | apply keeps_cons (by repeat (first | exact find_head | apply find_tail | apply find_skip)) (by first  | rfl) | exact keeps_self | exact keeps_left | apply keeps_app | apply keeps_mv | apply keeps_skip)) ?_; exact ⟨rfl, GO.same (g' := { g with ys := orB g.ys (sh1 m.d) }) (ys_ok hg (orB_bd _ _)) hl9 (by rw [hf]; rfl) (by rw [hf]) rfl⟩)
                              | (refine f_end0 (F' := (gb, C (GtV.c g) 127) :: (g.st.E ++ (g.qE ++ ((g.rb, MD (kInt .u32) g.rl g.rn) :: (g.oE ++ ((g.led, C (LdV.c l) 91) :: (l.d.E ++ Z))))))) hl hh rfl (by repeat (first | exact keeps_nil | apply keeps_cons (by repeat (first | exact find_head | apply find_tail | apply find_skip)) (by first  | rfl) | exact keeps_self | exact keeps_left | apply keeps_app | apply keeps_mv | apply keeps_skip)) ?_; exact ⟨rfl, GO.same hg hl9 (by rw [hf]) (by rw [hf]) rfl⟩)
                          · intro hc7
                            try simp only [decide_eq_true_eq, decide_eq_false_iff_not, Bool.not_eq_true', Bool.not_eq_false', Bool.not_eq_true, Bool.not_eq_false, Bool.and_eq_true, Bool.or_eq_true, Bool.and_eq_false_iff, Bool.or_eq_false_iff, Bool.not_not, ne_eq, Int.not_lt, Int.not_le, Decidable.not_not, beq_iff_eq, bne_iff_ne] at hc7
                            have hn4 : ¬ (m.k = 6 ∧ g.pl.st.ph = 3 ∧ g.pl.au = true) := fun ⟨q1, q2, q3⟩ => by have q2 : g.st.ph = 3 := q2; have q3 : g.au = true := q3; first | omega | (simp_all; done)
                            have hf := dl_x (l := l.pl) hhd hn1 hn2 hn3 hn4
                            refine wp_skip ?_
                            refine blk_normal ?_
                            first
                            | (have hqq := hp2; refine f_end0 (F' := GF gb g' l' (Z ++ G9)) hl hh rfl (by first | exact keeps_self | exact keeps_left) ?_; exact ⟨rfl, g', l', G9, he9, hg', hl', hp1.trans (by rw [hf]; try rfl), hp2.trans (by rw [hf]; try rfl), rfl⟩)
                            | (have hqq := hc3; refine f_end0 (F' := (gb, C (GtV.c { g with ys := orB g.ys (sh1 m.d) }) 127) :: (g.st.E ++ (g.qE ++ ((g.rb, MD (kInt .u32) g.rl g.rn) :: (g.oE ++ ((g.led, C (LdV.c l) 91) :: (l.d.E ++ Z))))))) hl hh rfl (by repeat (first | exact keeps_nil | apply keeps_cons (by repeat (first | exact find_head | apply find_tail | apply find_skip)) (by first  | rfl) | exact keeps_self | exact keeps_left | apply keeps_app | apply keeps_mv | apply keeps_skip)) ?_; exact ⟨rfl, GO.same (g' := { g with ys := orB g.ys (sh1 m.d) }) (ys_ok hg (orB_bd _ _)) hl9 (by rw [hf]; rfl) (by rw [hf]) rfl⟩)
                            | (refine f_end0 (F' := (gb, C (GtV.c g) 127) :: (g.st.E ++ (g.qE ++ ((g.rb, MD (kInt .u32) g.rl g.rn) :: (g.oE ++ ((g.led, C (LdV.c l) 91) :: (l.d.E ++ Z))))))) hl hh rfl (by repeat (first | exact keeps_nil | apply keeps_cons (by repeat (first | exact find_head | apply find_tail | apply find_skip)) (by first  | rfl) | exact keeps_self | exact keeps_left | apply keeps_app | apply keeps_mv | apply keeps_skip)) ?_; exact ⟨rfl, GO.same hg hl9 (by rw [hf]) (by rw [hf]) rfl⟩)
                        · intro hg56; clear hl; intro hl
                          try simp only [decide_eq_true_eq, decide_eq_false_iff_not, Bool.not_eq_true', Bool.not_eq_false', Bool.not_eq_true, Bool.not_eq_false, Bool.and_eq_true, Bool.or_eq_true, Bool.and_eq_false_iff, Bool.or_eq_false_iff, Bool.not_not, ne_eq, Int.not_lt, Int.not_le, Decidable.not_not, beq_iff_eq, bne_iff_ne] at hg56
                          refine wl (wl_skip hl rfl ⟨_, _, rfl, rfl, rfl⟩ ?_)
                          clear hl a; intro a hl
                          refine wl (wl_skip hl rfl ⟨_, _, rfl, rfl, rfl⟩ ?_)
                          clear hl a; intro a hl
                          refine wl (wl_skip hl rfl ⟨_, _, rfl, rfl, rfl⟩ ?_)
                          clear hl a; intro a hl
                          refine wl (wl_skip hl rfl ⟨_, _, rfl, rfl, rfl⟩ ?_)
                          clear hl a; intro a hl
                          refine wl (wl_val hl rfl trivial (r_pickF hl rfl rfl) ?_)
                          clear hl a; intro a hl
                          refine wl (wl_val hl rfl trivial (r_assign hl rfl) ?_)
                          clear hl a; intro a hl
                          refine w_nil ?_
                          have hl2 := hl.add (t := 0) (hl.add (t := 3) (hl.add (t := 4) (hl.add (t := 5) (hl.add (t := 121) (hl.nil) rfl) rfl) rfl) rfl) rfl; clear hl; have hl := hl2; clear hl2
                          refine then_normal ?_
                          refine c_condF hl rfl ?_
                          have hn4 : ¬ (m.k = 6 ∧ g.pl.st.ph = 3 ∧ g.pl.au = true) := fun ⟨q1, q2, q3⟩ => by have q2 : g.st.ph = 3 := q2; have q3 : g.au = true := q3; first | omega | (simp_all; done)
                          have hf := dl_x (l := l.pl) hhd hn1 hn2 hn3 hn4
                          refine wp_skip ?_
                          refine blk_normal ?_
                          first
                          | (have hqq := hp2; refine f_end0 (F' := GF gb g' l' (Z ++ G9)) hl hh rfl (by first | exact keeps_self | exact keeps_left) ?_; exact ⟨rfl, g', l', G9, he9, hg', hl', hp1.trans (by rw [hf]; try rfl), hp2.trans (by rw [hf]; try rfl), rfl⟩)
                          | (have hqq := hc3; refine f_end0 (F' := (gb, C (GtV.c { g with ys := orB g.ys (sh1 m.d) }) 127) :: (g.st.E ++ (g.qE ++ ((g.rb, MD (kInt .u32) g.rl g.rn) :: (g.oE ++ ((g.led, C (LdV.c l) 91) :: (l.d.E ++ Z))))))) hl hh rfl (by repeat (first | exact keeps_nil | apply keeps_cons (by repeat (first | exact find_head | apply find_tail | apply find_skip)) (by first  | rfl) | exact keeps_self | exact keeps_left | apply keeps_app | apply keeps_mv | apply keeps_skip)) ?_; exact ⟨rfl, GO.same (g' := { g with ys := orB g.ys (sh1 m.d) }) (ys_ok hg (orB_bd _ _)) hl9 (by rw [hf]; rfl) (by rw [hf]) rfl⟩)
                          | (refine f_end0 (F' := (gb, C (GtV.c g) 127) :: (g.st.E ++ (g.qE ++ ((g.rb, MD (kInt .u32) g.rl g.rn) :: (g.oE ++ ((g.led, C (LdV.c l) 91) :: (l.d.E ++ Z))))))) hl hh rfl (by repeat (first | exact keeps_nil | apply keeps_cons (by repeat (first | exact find_head | apply find_tail | apply find_skip)) (by first  | rfl) | exact keeps_self | exact keeps_left | apply keeps_app | apply keeps_mv | apply keeps_skip)) ?_; exact ⟨rfl, GO.same hg hl9 (by rw [hf]) (by rw [hf]) rfl⟩)
                      · intro hg55; clear hl; intro hl
                        try simp only [decide_eq_true_eq, decide_eq_false_iff_not, Bool.not_eq_true', Bool.not_eq_false', Bool.not_eq_true, Bool.not_eq_false, Bool.and_eq_true, Bool.or_eq_true, Bool.and_eq_false_iff, Bool.or_eq_false_iff, Bool.not_not, ne_eq, Int.not_lt, Int.not_le, Decidable.not_not, beq_iff_eq, bne_iff_ne] at hg55
                        refine wl (wl_skip hl rfl ⟨_, _, rfl, rfl, rfl⟩ ?_)
                        clear hl a; intro a hl
                        refine wl (wl_skip hl rfl ⟨_, _, rfl, rfl, rfl⟩ ?_)
                        clear hl a; intro a hl
                        refine wl (wl_skip hl rfl ⟨_, _, rfl, rfl, rfl⟩ ?_)
                        clear hl a; intro a hl
                        refine wl (wl_val hl rfl trivial (r_pickF hl rfl rfl) ?_)
                        clear hl a; intro a hl
                        refine wl (wl_val hl rfl trivial (r_move hl rfl) ?_)
                        clear hl a; intro a hl
                        refine wl (wl_skip hl rfl ⟨_, _, rfl, rfl, rfl⟩ ?_)
                        clear hl a; intro a hl
                        refine wl (wl_skip hl rfl ⟨_, _, rfl, rfl, rfl⟩ ?_)
                        clear hl a; intro a hl
                        refine wl (wl_skip hl rfl ⟨_, _, rfl, rfl, rfl⟩ ?_)
                        clear hl a; intro a hl
                        refine wl (wl_skip hl rfl ⟨_, _, rfl, rfl, rfl⟩ ?_)
                        clear hl a; intro a hl
                        refine wl (wl_val hl rfl trivial (r_pickF hl rfl rfl) ?_)
                        clear hl a; intro a hl
                        refine wl (wl_val hl rfl trivial (r_assign hl rfl) ?_)
                        clear hl a; intro a hl
                        refine w_nil ?_
                        have hl2 := hl.add (t := 0) (hl.add (t := 3) (hl.add (t := 4) (hl.add (t := 5) (hl.add (t := 121) (hl.nil) rfl) rfl) rfl) rfl) rfl; clear hl; have hl := hl2; clear hl2
                        refine then_normal ?_
                        refine c_condF hl rfl ?_
                        have hn4 : ¬ (m.k = 6 ∧ g.pl.st.ph = 3 ∧ g.pl.au = true) := fun ⟨q1, q2, q3⟩ => by have q2 : g.st.ph = 3 := q2; have q3 : g.au = true := q3; first | omega | (simp_all; done)
                        have hf := dl_x (l := l.pl) hhd hn1 hn2 hn3 hn4
                        refine wp_skip ?_
                        refine blk_normal ?_
                        first
                        | (have hqq := hp2; refine f_end0 (F' := GF gb g' l' (Z ++ G9)) hl hh rfl (by first | exact keeps_self | exact keeps_left) ?_; exact ⟨rfl, g', l', G9, he9, hg', hl', hp1.trans (by rw [hf]; try rfl), hp2.trans (by rw [hf]; try rfl), rfl⟩)
                        | (have hqq := hc3; refine f_end0 (F' := (gb, C (GtV.c { g with ys := orB g.ys (sh1 m.d) }) 127) :: (g.st.E ++ (g.qE ++ ((g.rb, MD (kInt .u32) g.rl g.rn) :: (g.oE ++ ((g.led, C (LdV.c l) 91) :: (l.d.E ++ Z))))))) hl hh rfl (by repeat (first | exact keeps_nil | apply keeps_cons (by repeat (first | exact find_head | apply find_tail | apply find_skip)) (by first  | rfl) | exact keeps_self | exact keeps_left | apply keeps_app | apply keeps_mv | apply keeps_skip)) ?_; exact ⟨rfl, GO.same (g' := { g with ys := orB g.ys (sh1 m.d) }) (ys_ok hg (orB_bd _ _)) hl9 (by rw [hf]; rfl) (by rw [hf]) rfl⟩)
                        | (refine f_end0 (F' := (gb, C (GtV.c g) 127) :: (g.st.E ++ (g.qE ++ ((g.rb, MD (kInt .u32) g.rl g.rn) :: (g.oE ++ ((g.led, C (LdV.c l) 91) :: (l.d.E ++ Z))))))) hl hh rfl (by repeat (first | exact keeps_nil | apply keeps_cons (by repeat (first | exact find_head | apply find_tail | apply find_skip)) (by first  | rfl) | exact keeps_self | exact keeps_left | apply keeps_app | apply keeps_mv | apply keeps_skip)) ?_; exact ⟨rfl, GO.same hg hl9 (by rw [hf]) (by rw [hf]) rfl⟩)
                · intro hg45; clear hl; intro hl
                  try simp only [decide_eq_true_eq, decide_eq_false_iff_not, Bool.not_eq_true', Bool.not_eq_false', Bool.not_eq_true, Bool.not_eq_false, Bool.and_eq_true, Bool.or_eq_true, Bool.and_eq_false_iff, Bool.or_eq_false_iff, Bool.not_not, ne_eq, Int.not_lt, Int.not_le, Decidable.not_not, beq_iff_eq, bne_iff_ne] at hg45
                  refine wl (wl_skip hl rfl ⟨_, _, rfl, rfl, rfl⟩ ?_)
                  clear hl a; intro a hl
                  refine wl (wl_skip hl rfl ⟨_, _, rfl, rfl, rfl⟩ ?_)
                  clear hl a; intro a hl
                  refine wl (wl_skip hl rfl ⟨_, _, rfl, rfl, rfl⟩ ?_)
                  clear hl a; intro a hl
                  refine wl (wl_skip hl rfl ⟨_, _, rfl, rfl, rfl⟩ ?_)
                  clear hl a; intro a hl
                  refine wl (wl_skip hl rfl ⟨_, _, rfl, rfl, rfl⟩ ?_)
                  clear hl a; intro a hl
                  refine wl (wl_val hl rfl trivial (r_pickF hl rfl rfl) ?_)
                  clear hl a; intro a hl
                  refine wl (wl_val hl rfl trivial (r_assign hl rfl) ?_)
                  clear hl a; intro a hl
                  refine w_nil ?_
                  have hl2 := hl.add (t := 0) (hl.add (t := 3) (hl.add (t := 4) (hl.add (t := 5) (hl.add (t := 74) (hl.nil) rfl) rfl) rfl) rfl) rfl; clear hl; have hl := hl2; clear hl2
                  refine then_normal ?_
                  refine c_condF hl rfl ?_
                  have hn2 : ¬ (m.k = 5 ∧ ¬ g.pl.st.ph = 1 ∧ g.pl.au = false) := fun ⟨q1, q2, q3⟩ => by have q2 : ¬ g.st.ph = 1 := q2; have q3 : g.au = false := q3; first | omega | (simp_all; done)
                  refine c_seq ?_
                  refine c_region ?_
                  refine wl (wl_val hl rfl trivial (r_field hl rfl fld38_0) ?_)
                  clear hl a; intro a hl
                  refine wl (w_load hl hh rfl trivial one35 rfl (by repeat (first | exact find_head | apply find_tail | apply find_skip)) (by first | exact gtc_led _ | exact gtc_ep _ | exact gtc_vs _ | exact gtc_is _ | exact gtc_fid _ | exact gtc_ph _ | exact gtc_vd _ | exact gtc_q _ | exact gtc_rf _ | exact gtc_ys _ | exact gtc_dn _ | exact gtc_tk _ | exact gtc_au _ | exact gtc_o _ | exact gtc_off _ | rfl) ?_)
                  clear hl a; intro a hl
                  refine wl (wl_val hl rfl trivial (r_eql hl rfl rfl) ?_)
                  clear hl a; intro a hl
                  refine wl (wl_val hl rfl trivial (r_move hl rfl) ?_)
                  clear hl a; intro a hl
                  refine sl_split (t := 97) hl rfl ?_ ?_
                  · intro hg58; clear hl; intro hl
                    try simp only [decide_eq_true_eq, decide_eq_false_iff_not, Bool.not_eq_true', Bool.not_eq_false', Bool.not_eq_true, Bool.not_eq_false, Bool.and_eq_true, Bool.or_eq_true, Bool.and_eq_false_iff, Bool.or_eq_false_iff, Bool.not_not, ne_eq, Int.not_lt, Int.not_le, Decidable.not_not, beq_iff_eq, bne_iff_ne] at hg58
                    refine wl (wl_val hl rfl ⟨_, _, rfl, rfl, rfl⟩ (r_field hl rfl fld87_1) ?_)
                    clear hl a; intro a hl
                    refine wl (w_load hl hh rfl ⟨_, _, rfl, rfl, rfl⟩ one76 rfl (by repeat (first | exact find_head | apply find_tail | apply find_skip)) (by first | exact gtc_led _ | exact gtc_ep _ | exact gtc_vs _ | exact gtc_is _ | exact gtc_fid _ | exact gtc_ph _ | exact gtc_vd _ | exact gtc_q _ | exact gtc_rf _ | exact gtc_ys _ | exact gtc_dn _ | exact gtc_tk _ | exact gtc_au _ | exact gtc_o _ | exact gtc_off _ | rfl) ?_)
                    clear hl a; intro a hl
                    refine wl (wl_val hl rfl ⟨_, _, rfl, rfl, rfl⟩ (r_eql hl rfl rfl) ?_)
                    clear hl a; intro a hl
                    refine wl (wl_val hl rfl trivial (r_pickT hl rfl rfl) ?_)
                    clear hl a; intro a hl
                    refine wl (wl_val hl rfl trivial (r_move hl rfl) ?_)
                    clear hl a; intro a hl
                    refine sl_split (t := 102) hl rfl ?_ ?_
                    · intro hg59; clear hl; intro hl
                      try simp only [decide_eq_true_eq, decide_eq_false_iff_not, Bool.not_eq_true', Bool.not_eq_false', Bool.not_eq_true, Bool.not_eq_false, Bool.and_eq_true, Bool.or_eq_true, Bool.and_eq_false_iff, Bool.or_eq_false_iff, Bool.not_not, ne_eq, Int.not_lt, Int.not_le, Decidable.not_not, beq_iff_eq, bne_iff_ne] at hg59
                      refine wl (wl_val hl rfl ⟨_, _, rfl, rfl, rfl⟩ (r_move hl rfl) ?_)
                      clear hl a; intro a hl
                      refine wl (wl_val hl rfl ⟨_, _, rfl, rfl, rfl⟩ (r_nilCheck hl rfl) ?_)
                      clear hl a; intro a hl
                      refine wl (wl_val hl rfl ⟨_, _, rfl, rfl, rfl⟩ (r_field hl rfl fld127_8) ?_)
                      clear hl a; intro a hl
                      refine wl (w_load hl hh rfl ⟨_, _, rfl, rfl, rfl⟩ one4 rfl (by repeat (first | exact find_head | apply find_tail | apply find_skip)) (by first | exact gtc_led _ | exact gtc_ep _ | exact gtc_vs _ | exact gtc_is _ | exact gtc_fid _ | exact gtc_ph _ | exact gtc_vd _ | exact gtc_q _ | exact gtc_rf _ | exact gtc_ys _ | exact gtc_dn _ | exact gtc_tk _ | exact gtc_au _ | exact gtc_o _ | exact gtc_off _ | rfl) ?_)
                      clear hl a; intro a hl
                      refine wl (wl_val hl rfl trivial (r_pickT hl rfl rfl) ?_)
                      clear hl a; intro a hl
                      refine wl (wl_val hl rfl trivial (r_assign hl rfl) ?_)
                      clear hl a; intro a hl
                      refine w_nil ?_
                      have hl2 := hl.add (t := 0) (hl.add (t := 3) (hl.add (t := 4) (hl.add (t := 5) (hl.add (t := 93) (hl.nil) rfl) rfl) rfl) rfl) rfl; clear hl; have hl := hl2; clear hl2
                      refine then_normal ?_
                      refine c_cond hl rfl ?_ ?_
                      · intro hc5
                        try simp only [decide_eq_true_eq, decide_eq_false_iff_not, Bool.not_eq_true', Bool.not_eq_false', Bool.not_eq_true, Bool.not_eq_false, Bool.and_eq_true, Bool.or_eq_true, Bool.and_eq_false_iff, Bool.or_eq_false_iff, Bool.not_not, ne_eq, Int.not_lt, Int.not_le, Decidable.not_not, beq_iff_eq, bne_iff_ne] at hc5
                        have hk6 : m.k = 6 ∧ g.pl.st.ph = 2 ∧ g.pl.au = true := ⟨by omega, (show g.st.ph = 2 by omega), (show g.au = true by first | assumption | (simp_all; done))⟩
                        refine c_seq ?_
                        refine c_region ?_
                        refine wl (wl_val hl rfl trivial (r_field hl rfl fld38_5) ?_)
                        clear hl a; intro a hl
                        refine wl (w_load hl hh rfl trivial one36 rfl (by repeat (first | exact find_head | apply find_tail | apply find_skip)) (by first | exact gtc_led _ | exact gtc_ep _ | exact gtc_vs _ | exact gtc_is _ | exact gtc_fid _ | exact gtc_ph _ | exact gtc_vd _ | exact gtc_q _ | exact gtc_rf _ | exact gtc_ys _ | exact gtc_dn _ | exact gtc_tk _ | exact gtc_au _ | exact gtc_o _ | exact gtc_off _ | rfl) ?_)
                        clear hl a; intro a hl
                        refine wl (wl_val hl rfl trivial (r_field hl rfl fld87_0) ?_)
                        clear hl a; intro a hl
                        refine wl (w_load hl hh rfl trivial one36 rfl (by repeat (first | exact find_head | apply find_tail | apply find_skip)) (by first | exact gtc_led _ | exact gtc_ep _ | exact gtc_vs _ | exact gtc_is _ | exact gtc_fid _ | exact gtc_ph _ | exact gtc_vd _ | exact gtc_q _ | exact gtc_rf _ | exact gtc_ys _ | exact gtc_dn _ | exact gtc_tk _ | exact gtc_au _ | exact gtc_o _ | exact gtc_off _ | rfl) ?_)
                        clear hl a; intro a hl
                        refine wl (wl_val hl rfl trivial (r_eql hl rfl rfl) ?_)
                        clear hl a; intro a hl
                        refine wl (wl_val hl rfl trivial (r_move hl rfl) ?_)
                        clear hl a; intro a hl
                        refine sl_split (t := 113) hl rfl ?_ ?_
                        · intro hg60; clear hl; intro hl
                          try simp only [decide_eq_true_eq, decide_eq_false_iff_not, Bool.not_eq_true', Bool.not_eq_false', Bool.not_eq_true, Bool.not_eq_false, Bool.and_eq_true, Bool.or_eq_true, Bool.and_eq_false_iff, Bool.or_eq_false_iff, Bool.not_not, ne_eq, Int.not_lt, Int.not_le, Decidable.not_not, beq_iff_eq, bne_iff_ne] at hg60
                          refine wl (wl_val hl rfl ⟨_, _, rfl, rfl, rfl⟩ (r_field hl rfl fld38_6) ?_)
                          clear hl a; intro a hl
                          refine wl (w_load hl hh rfl ⟨_, _, rfl, rfl, rfl⟩ one36 rfl (by repeat (first | exact find_head | apply find_tail | apply find_skip)) (by first | exact gtc_led _ | exact gtc_ep _ | exact gtc_vs _ | exact gtc_is _ | exact gtc_fid _ | exact gtc_ph _ | exact gtc_vd _ | exact gtc_q _ | exact gtc_rf _ | exact gtc_ys _ | exact gtc_dn _ | exact gtc_tk _ | exact gtc_au _ | exact gtc_o _ | exact gtc_off _ | rfl) ?_)
                          clear hl a; intro a hl
                          refine wl (wl_val hl rfl ⟨_, _, rfl, rfl, rfl⟩ (r_eql hl rfl rfl) ?_)
                          clear hl a; intro a hl
                          refine wl (wl_val hl rfl trivial (r_pickT hl rfl rfl) ?_)
                          clear hl a; intro a hl
                          refine w_nil ?_
                          have hl2 := hl.add (t := 0) (hl.add (t := 5) (hl.add (t := 117) (hl.nil) rfl) rfl) rfl; clear hl; have hl := hl2; clear hl2
                          refine then_normal ?_
                          refine c_cond hl rfl ?_ ?_
                          · intro hc6
                            try simp only [decide_eq_true_eq, decide_eq_false_iff_not, Bool.not_eq_true', Bool.not_eq_false', Bool.not_eq_true, Bool.not_eq_false, Bool.and_eq_true, Bool.or_eq_true, Bool.and_eq_false_iff, Bool.or_eq_false_iff, Bool.not_not, ne_eq, Int.not_lt, Int.not_le, Decidable.not_not, beq_iff_eq, bne_iff_ne] at hc6
                            have hf := dl_6y (l := l.pl) hhd hk6 ⟨(show m.r = g.st.fid by omega), by omega⟩
                            refine c_region ?_
                            refine wl (wl_val hl rfl trivial (r_move hl rfl) ?_)
                            clear hl a; intro a hl
                            refine wl (wl_val hl rfl trivial (r_move hl rfl) ?_)
                            clear hl a; intro a hl
                            refine wl (w_call hl hh rfl trivial rfl cal52 rfl (confirm_spec Z gb g l hg hl9 (sh1 m.d) hvl) (by repeat (first | exact keeps_nil | apply keeps_cons (by repeat (first | exact find_head | apply find_tail | apply find_skip)) (by first  | rfl) | exact keeps_self | exact keeps_left | apply keeps_app | apply keeps_mv | apply keeps_skip)) trivial ?_)
                            clear hl hh a w; intro vc Fc a w hR hl hh
                            obtain ⟨rfl, g', l', G9, he9, hg', hl', hp1, hp2, rfl⟩ := hR
                            try simp only [List.cons_append, List.nil_append, List.append_assoc, List.append_nil] at hh
                            refine w_nil ?_
                            have hl2 := hl.nil; clear hl; have hl := hl2; clear hl2
                            refine blk_normal ?_
                            first
                            | (have hqq := hp2; refine f_end0 (F' := GF gb g' l' (Z ++ G9)) hl hh rfl (by first | exact keeps_self | exact keeps_left) ?_; exact ⟨rfl, g', l', G9, he9, hg', hl', hp1.trans (by rw [hf]; try rfl), hp2.trans (by rw [hf]; try rfl), rfl⟩)
                            | (have hqq := hc3; refine f_end0 (F' := (gb, C (GtV.c { g with ys := orB g.ys (sh1 m.d) }) 127) :: (g.st.E ++ (g.qE ++ ((g.rb, MD (kInt .u32) g.rl g.rn) :: (g.oE ++ ((g.led, C (LdV.c l) 91) :: (l.d.E ++ Z))))))) hl hh rfl (by repeat (first | exact keeps_nil | apply keeps_cons (by repeat (first | exact find_head | apply find_tail | apply find_skip)) (by first  | rfl) | exact keeps_self | exact keeps_left | apply keeps_app | apply keeps_mv | apply keeps_skip)) ?_; exact ⟨rfl, GO.same (g' := { g with ys := orB g.ys (sh1 m.d) }) (ys_ok hg (orB_bd _ _)) hl9 (by rw [hf]; rfl) (by rw [hf]) rfl⟩)
                            | (refine f_end0 (F' := (gb, C (GtV.c g) 127) :: (g.st.E ++ (g.qE ++ ((g.rb, MD (kInt .u32) g.rl g.rn) :: (g.oE ++ ((g.led, C (LdV.c l) 91) :: (l.d.E ++ Z))))))) hl hh rfl (by repeat (first | exact keeps_nil | apply keeps_cons (by repeat (first | exact find_head | apply find_tail | apply find_skip)) (by first  | rfl) | exact keeps_self | exact keeps_left | apply keeps_app | apply keeps_mv | apply keeps_skip)) ?_; exact ⟨rfl, GO.same hg hl9 (by rw [hf]) (by rw [hf]) rfl⟩)
                          · intro hc6
                            try simp only [decide_eq_true_eq, decide_eq_false_iff_not, Bool.not_eq_true', Bool.not_eq_false', Bool.not_eq_true, Bool.not_eq_false, Bool.and_eq_true, Bool.or_eq_true, Bool.and_eq_false_iff, Bool.or_eq_false_iff, Bool.not_not, ne_eq, Int.not_lt, Int.not_le, Decidable.not_not, beq_iff_eq, bne_iff_ne] at hc6
                            have hf := dl_6n (l := l.pl) hhd hk6 (fun ⟨q1, q2⟩ => by have q1 : m.r = g.st.fid := q1; omega)
                            refine wp_skip ?_
                            refine blk_normal ?_
                            first
                            | (have hqq := hp2; refine f_end0 (F' := GF gb g' l' (Z ++ G9)) hl hh rfl (by first | exact keeps_self | exact keeps_left) ?_; exact ⟨rfl, g', l', G9, he9, hg', hl', hp1.trans (by rw [hf]; try rfl), hp2.trans (by rw [hf]; try rfl), rfl⟩)
                            | (have hqq := hc3; refine f_end0 (F' := (gb, C (GtV.c { g with ys := orB g.ys (sh1 m.d) }) 127) :: (g.st.E ++ (g.qE ++ ((g.rb, MD (kInt .u32) g.rl g.rn) :: (g.oE ++ ((g.led, C (LdV.c l) 91) :: (l.d.E ++ Z))))))) hl hh rfl (by repeat (first | exact keeps_nil | apply keeps_cons (by repeat (first | exact find_head | apply find_tail | apply find_skip)) (by first  | rfl) | exact keeps_self | exact keeps_left | apply keeps_app | apply keeps_mv | apply keeps_skip)) ?_; exact ⟨rfl, GO.same (g' := { g with ys := orB g.ys (sh1 m.d) }) (ys_ok hg (orB_bd _ _)) hl9 (by rw [hf]; rfl) (by rw [hf]) rfl⟩)
                            | (refine f_end0 (F' := (gb, C (GtV.c g) 127) :: (g.st.E ++ (g.qE ++ ((g.rb, MD (kInt .u32) g.rl g.rn) :: (g.oE ++ ((g.led, C (LdV.c l) 91) :: (l.d.E ++ Z))))))) hl hh rfl (by repeat (first | exact keeps_nil | apply keeps_cons (by repeat (first | exact find_head | apply find_tail | apply find_skip)) (by first  | rfl) | exact keeps_self | exact keeps_left | apply keeps_app | apply keeps_mv | apply keeps_skip)) ?_; exact ⟨rfl, GO.same hg hl9 (by rw [hf]) (by rw [hf]) rfl⟩)
                        · intro hg60; clear hl; intro hl
                          try simp only [decide_eq_true_eq, decide_eq_false_iff_not, Bool.not_eq_true', Bool.not_eq_false', Bool.not_eq_true, Bool.not_eq_false, Bool.and_eq_true, Bool.or_eq_true, Bool.and_eq_false_iff, Bool.or_eq_false_iff, Bool.not_not, ne_eq, Int.not_lt, Int.not_le, Decidable.not_not, beq_iff_eq, bne_iff_ne] at hg60
                          refine wl (wl_skip hl rfl ⟨_, _, rfl, rfl, rfl⟩ ?_)
                          clear hl a; intro a hl
                          refine wl (wl_skip hl rfl ⟨_, _, rfl, rfl, rfl⟩ ?_)
                          clear hl a; intro a hl
                          refine wl (wl_skip hl rfl ⟨_, _, rfl, rfl, rfl⟩ ?_)
                          clear hl a; intro a hl
                          refine wl (wl_val hl rfl trivial (r_pickF hl rfl rfl) ?_)
                          clear hl a; intro a hl
                          refine w_nil ?_
                          have hl2 := hl.add (t := 0) (hl.add (t := 5) (hl.add (t := 117) (hl.nil) rfl) rfl) rfl; clear hl; have hl := hl2; clear hl2
                          refine then_normal ?_
                          refine c_condF hl rfl ?_
                          have hf := dl_6n (l := l.pl) hhd hk6 (fun ⟨q1, q2⟩ => by have q1 : m.r = g.st.fid := q1; omega)
                          refine wp_skip ?_
                          refine blk_normal ?_
                          first
                          | (have hqq := hp2; refine f_end0 (F' := GF gb g' l' (Z ++ G9)) hl hh rfl (by first | exact keeps_self | exact keeps_left) ?_; exact ⟨rfl, g', l', G9, he9, hg', hl', hp1.trans (by rw [hf]; try rfl), hp2.trans (by rw [hf]; try rfl), rfl⟩)
                          | (have hqq := hc3; refine f_end0 (F' := (gb, C (GtV.c { g with ys := orB g.ys (sh1 m.d) }) 127) :: (g.st.E ++ (g.qE ++ ((g.rb, MD (kInt .u32) g.rl g.rn) :: (g.oE ++ ((g.led, C (LdV.c l) 91) :: (l.d.E ++ Z))))))) hl hh rfl (by repeat (first | exact keeps_nil | apply keeps_cons (by repeat (first | exact find_head | apply find_tail | apply find_skip)) (by first  | rfl) | exact keeps_self | exact keeps_left | apply keeps_app | apply keeps_mv | apply keeps_skip)) ?_; exact ⟨rfl, GO.same (g' := { g with ys := orB g.ys (sh1 m.d) }) (ys_ok hg (orB_bd _ _)) hl9 (by rw [hf]; rfl) (by rw [hf]) rfl⟩)
                          | (refine f_end0 (F' := (gb, C (GtV.c g) 127) :: (g.st.E ++ (g.qE ++ ((g.rb, MD (kInt .u32) g.rl g.rn) :: (g.oE ++ ((g.led, C (LdV.c l) 91) :: (l.d.E ++ Z))))))) hl hh rfl (by repeat (first | exact keeps_nil | apply keeps_cons (by repeat (first | exact find_head | apply find_tail | apply find_skip)) (by first  | rfl) | exact keeps_self | exact keeps_left | apply keeps_app | apply keeps_mv | apply keeps_skip)) ?_; exact ⟨rfl, GO.same hg hl9 (by rw [hf]) (by rw [hf]) rfl⟩)
                      · intro hc5
                        try simp only [decide_eq_true_eq, decide_eq_false_iff_not, Bool.not_eq_true', Bool.not_eq_false', Bool.not_eq_true, Bool.not_eq_false, Bool.and_eq_true, Bool.or_eq_true, Bool.and_eq_false_iff, Bool.or_eq_false_iff, Bool.not_not, ne_eq, Int.not_lt, Int.not_le, Decidable.not_not, beq_iff_eq, bne_iff_ne] at hc5
                        have hn3 : ¬ (m.k = 6 ∧ g.pl.st.ph = 2 ∧ g.pl.au = true) := fun ⟨q1, q2, q3⟩ => by have q2 : g.st.ph = 2 := q2; have q3 : g.au = true := q3; first | omega | (simp_all; done)
                        refine c_seq ?_
                        refine c_region ?_
                        refine wl (wl_val hl rfl trivial (r_field hl rfl fld38_0) ?_)
                        clear hl a; intro a hl
                        refine wl (w_load hl hh rfl trivial one35 rfl (by repeat (first | exact find_head | apply find_tail | apply find_skip)) (by first | exact gtc_led _ | exact gtc_ep _ | exact gtc_vs _ | exact gtc_is _ | exact gtc_fid _ | exact gtc_ph _ | exact gtc_vd _ | exact gtc_q _ | exact gtc_rf _ | exact gtc_ys _ | exact gtc_dn _ | exact gtc_tk _ | exact gtc_au _ | exact gtc_o _ | exact gtc_off _ | rfl) ?_)
                        clear hl a; intro a hl
                        refine wl (wl_val hl rfl trivial (r_eql hl rfl rfl) ?_)
                        clear hl a; intro a hl
                        refine wl (wl_val hl rfl trivial (r_move hl rfl) ?_)
                        clear hl a; intro a hl
                        refine sl_split (t := 125) hl rfl ?_ ?_
                        · intro hg61; clear hl; intro hl
                          try simp only [decide_eq_true_eq, decide_eq_false_iff_not, Bool.not_eq_true', Bool.not_eq_false', Bool.not_eq_true, Bool.not_eq_false, Bool.and_eq_true, Bool.or_eq_true, Bool.and_eq_false_iff, Bool.or_eq_false_iff, Bool.not_not, ne_eq, Int.not_lt, Int.not_le, Decidable.not_not, beq_iff_eq, bne_iff_ne] at hg61
                          refine wl (wl_val hl rfl ⟨_, _, rfl, rfl, rfl⟩ (r_field hl rfl fld87_1) ?_)
                          clear hl a; intro a hl
                          refine wl (w_load hl hh rfl ⟨_, _, rfl, rfl, rfl⟩ one76 rfl (by repeat (first | exact find_head | apply find_tail | apply find_skip)) (by first | exact gtc_led _ | exact gtc_ep _ | exact gtc_vs _ | exact gtc_is _ | exact gtc_fid _ | exact gtc_ph _ | exact gtc_vd _ | exact gtc_q _ | exact gtc_rf _ | exact gtc_ys _ | exact gtc_dn _ | exact gtc_tk _ | exact gtc_au _ | exact gtc_o _ | exact gtc_off _ | rfl) ?_)
                          clear hl a; intro a hl
                          refine wl (wl_val hl rfl ⟨_, _, rfl, rfl, rfl⟩ (r_eql hl rfl rfl) ?_)
                          clear hl a; intro a hl
                          refine wl (wl_val hl rfl trivial (r_pickT hl rfl rfl) ?_)
                          clear hl a; intro a hl
                          refine wl (wl_val hl rfl trivial (r_move hl rfl) ?_)
                          clear hl a; intro a hl
                          refine sl_split (t := 130) hl rfl ?_ ?_
                          · intro hg62; clear hl; intro hl
                            try simp only [decide_eq_true_eq, decide_eq_false_iff_not, Bool.not_eq_true', Bool.not_eq_false', Bool.not_eq_true, Bool.not_eq_false, Bool.and_eq_true, Bool.or_eq_true, Bool.and_eq_false_iff, Bool.or_eq_false_iff, Bool.not_not, ne_eq, Int.not_lt, Int.not_le, Decidable.not_not, beq_iff_eq, bne_iff_ne] at hg62
                            refine wl (wl_val hl rfl ⟨_, _, rfl, rfl, rfl⟩ (r_move hl rfl) ?_)
                            clear hl a; intro a hl
                            refine wl (wl_val hl rfl ⟨_, _, rfl, rfl, rfl⟩ (r_nilCheck hl rfl) ?_)
                            clear hl a; intro a hl
                            refine wl (wl_val hl rfl ⟨_, _, rfl, rfl, rfl⟩ (r_field hl rfl fld127_8) ?_)
                            clear hl a; intro a hl
                            refine wl (w_load hl hh rfl ⟨_, _, rfl, rfl, rfl⟩ one4 rfl (by repeat (first | exact find_head | apply find_tail | apply find_skip)) (by first | exact gtc_led _ | exact gtc_ep _ | exact gtc_vs _ | exact gtc_is _ | exact gtc_fid _ | exact gtc_ph _ | exact gtc_vd _ | exact gtc_q _ | exact gtc_rf _ | exact gtc_ys _ | exact gtc_dn _ | exact gtc_tk _ | exact gtc_au _ | exact gtc_o _ | exact gtc_off _ | rfl) ?_)
                            clear hl a; intro a hl
                            refine wl (wl_val hl rfl trivial (r_pickT hl rfl rfl) ?_)
                            clear hl a; intro a hl
                            refine wl (wl_val hl rfl trivial (r_assign hl rfl) ?_)
                            clear hl a; intro a hl
                            refine w_nil ?_
                            have hl2 := hl.add (t := 0) (hl.add (t := 3) (hl.add (t := 4) (hl.add (t := 5) (hl.add (t := 121) (hl.nil) rfl) rfl) rfl) rfl) rfl; clear hl; have hl := hl2; clear hl2
                            refine then_normal ?_
                            refine c_cond hl rfl ?_ ?_
                            · intro hc7
                              try simp only [decide_eq_true_eq, decide_eq_false_iff_not, Bool.not_eq_true', Bool.not_eq_false', Bool.not_eq_true, Bool.not_eq_false, Bool.and_eq_true, Bool.or_eq_true, Bool.and_eq_false_iff, Bool.or_eq_false_iff, Bool.not_not, ne_eq, Int.not_lt, Int.not_le, Decidable.not_not, beq_iff_eq, bne_iff_ne] at hc7
                              have hk7 : m.k = 6 ∧ g.pl.st.ph = 3 ∧ g.pl.au = true := ⟨by omega, (show g.st.ph = 3 by omega), (show g.au = true by first | assumption | (simp_all; done))⟩
                              refine c_seq ?_
                              refine c_region ?_
                              refine wl (wl_val hl rfl trivial (r_field hl rfl fld38_5) ?_)
                              clear hl a; intro a hl
                              refine wl (w_load hl hh rfl trivial one36 rfl (by repeat (first | exact find_head | apply find_tail | apply find_skip)) (by first | exact gtc_led _ | exact gtc_ep _ | exact gtc_vs _ | exact gtc_is _ | exact gtc_fid _ | exact gtc_ph _ | exact gtc_vd _ | exact gtc_q _ | exact gtc_rf _ | exact gtc_ys _ | exact gtc_dn _ | exact gtc_tk _ | exact gtc_au _ | exact gtc_o _ | exact gtc_off _ | rfl) ?_)
                              clear hl a; intro a hl
                              refine wl (wl_val hl rfl trivial (r_field hl rfl fld87_0) ?_)
                              clear hl a; intro a hl
                              refine wl (w_load hl hh rfl trivial one36 rfl (by repeat (first | exact find_head | apply find_tail | apply find_skip)) (by first | exact gtc_led _ | exact gtc_ep _ | exact gtc_vs _ | exact gtc_is _ | exact gtc_fid _ | exact gtc_ph _ | exact gtc_vd _ | exact gtc_q _ | exact gtc_rf _ | exact gtc_ys _ | exact gtc_dn _ | exact gtc_tk _ | exact gtc_au _ | exact gtc_o _ | exact gtc_off _ | rfl) ?_)
                              clear hl a; intro a hl
                              refine wl (wl_val hl rfl trivial (r_neq hl rfl rfl) ?_)
                              clear hl a; intro a hl
                              refine wl (wl_val hl rfl trivial (r_move hl rfl) ?_)
                              clear hl a; intro a hl
                              refine sl_split (t := 141) hl rfl ?_ ?_
                              · intro hg63; clear hl; intro hl
                                try simp only [decide_eq_true_eq, decide_eq_false_iff_not, Bool.not_eq_true', Bool.not_eq_false', Bool.not_eq_true, Bool.not_eq_false, Bool.and_eq_true, Bool.or_eq_true, Bool.and_eq_false_iff, Bool.or_eq_false_iff, Bool.not_not, ne_eq, Int.not_lt, Int.not_le, Decidable.not_not, beq_iff_eq, bne_iff_ne] at hg63
                                refine wl (wl_val hl rfl ⟨_, _, rfl, rfl, rfl⟩ (r_field hl rfl fld38_6) ?_)
                                clear hl a; intro a hl
                                refine wl (w_load hl hh rfl ⟨_, _, rfl, rfl, rfl⟩ one36 rfl (by repeat (first | exact find_head | apply find_tail | apply find_skip)) (by first | exact gtc_led _ | exact gtc_ep _ | exact gtc_vs _ | exact gtc_is _ | exact gtc_fid _ | exact gtc_ph _ | exact gtc_vd _ | exact gtc_q _ | exact gtc_rf _ | exact gtc_ys _ | exact gtc_dn _ | exact gtc_tk _ | exact gtc_au _ | exact gtc_o _ | exact gtc_off _ | rfl) ?_)
                                clear hl a; intro a hl
                                refine wl (wl_val hl rfl ⟨_, _, rfl, rfl, rfl⟩ (r_eql hl rfl rfl) ?_)
                                clear hl a; intro a hl
                                refine wl (wl_val hl rfl trivial (r_pickT hl rfl rfl) ?_)
                                clear hl a; intro a hl
                                refine w_nil ?_
                                have hl2 := hl.add (t := 0) (hl.add (t := 5) (hl.add (t := 145) (hl.nil) rfl) rfl) rfl; clear hl; have hl := hl2; clear hl2
                                refine then_normal ?_
                                refine c_cond hl rfl ?_ ?_
                                · intro hc8
                                  try simp only [decide_eq_true_eq, decide_eq_false_iff_not, Bool.not_eq_true', Bool.not_eq_false', Bool.not_eq_true, Bool.not_eq_false, Bool.and_eq_true, Bool.or_eq_true, Bool.and_eq_false_iff, Bool.or_eq_false_iff, Bool.not_not, ne_eq, Int.not_lt, Int.not_le, Decidable.not_not, beq_iff_eq, bne_iff_ne] at hc8
                                  have hf := dl_7y (l := l.pl) hhd hk7 ⟨(show ¬ m.r = g.st.fid by omega), by omega⟩
                                  refine c_region ?_
                                  refine wl (wl_val hl rfl trivial (r_move hl rfl) ?_)
                                  clear hl a; intro a hl
                                  refine wl (wl_val hl rfl trivial (r_move hl rfl) ?_)
                                  clear hl a; intro a hl
                                  refine wl (w_call hl hh rfl trivial rfl cal52 rfl (confirm_spec Z gb g l hg hl9 (sh1 m.d) hvl) (by repeat (first | exact keeps_nil | apply keeps_cons (by repeat (first | exact find_head | apply find_tail | apply find_skip)) (by first  | rfl) | exact keeps_self | exact keeps_left | apply keeps_app | apply keeps_mv | apply keeps_skip)) trivial ?_)
                                  clear hl hh a w; intro vc Fc a w hR hl hh
                                  obtain ⟨rfl, g', l', G9, he9, hg', hl', hp1, hp2, rfl⟩ := hR
                                  try simp only [List.cons_append, List.nil_append, List.append_assoc, List.append_nil] at hh
                                  refine w_nil ?_
                                  have hl2 := hl.nil; clear hl; have hl := hl2; clear hl2
                                  refine blk_normal ?_
                                  first
                                  | (have hqq := hp2; refine f_end0 (F' := GF gb g' l' (Z ++ G9)) hl hh rfl (by first | exact keeps_self | exact keeps_left) ?_; exact ⟨rfl, g', l', G9, he9, hg', hl', hp1.trans (by rw [hf]; try rfl), hp2.trans (by rw [hf]; try rfl), rfl⟩)
                                  | (have hqq := hc3; refine f_end0 (F' := (gb, C (GtV.c { g with ys := orB g.ys (sh1 m.d) }) 127) :: (g.st.E ++ (g.qE ++ ((g.rb, MD (kInt .u32) g.rl g.rn) :: (g.oE ++ ((g.led, C (LdV.c l) 91) :: (l.d.E ++ Z))))))) hl hh rfl (by repeat (first | exact keeps_nil | apply keeps_cons (by repeat (first | exact find_head | apply find_tail | apply find_skip)) (by first  | rfl) | exact keeps_self | exact keeps_left | apply keeps_app | apply keeps_mv | apply keeps_skip)) ?_; exact ⟨rfl, GO.same (g' := { g with ys := orB g.ys (sh1 m.d) }) (ys_ok hg (orB_bd _ _)) hl9 (by rw [hf]; rfl) (by rw [hf]) rfl⟩)
                                  | (refine f_end0 (F' := (gb, C (GtV.c g) 127) :: (g.st.E ++ (g.qE ++ ((g.rb, MD (kInt .u32) g.rl g.rn) :: (g.oE ++ ((g.led, C (LdV.c l) 91) :: (l.d.E ++ Z))))))) hl hh rfl (by repeat (first | exact keeps_nil | apply keeps_cons (by repeat (first | exact find_head | apply find_tail | apply find_skip)) (by first  | rfl) | exact keeps_self | exact keeps_left | apply keeps_app | apply keeps_mv | apply keeps_skip)) ?_; exact ⟨rfl, GO.same hg hl9 (by rw [hf]) (by rw [hf]) rfl⟩)
                                · intro hc8
                                  try simp only [decide_eq_true_eq, decide_eq_false_iff_not, Bool.not_eq_true', Bool.not_eq_false', Bool.not_eq_true, Bool.not_eq_false, Bool.and_eq_true, Bool.or_eq_true, Bool.and_eq_false_iff, Bool.or_eq_false_iff, Bool.not_not, ne_eq, Int.not_lt, Int.not_le, Decidable.not_not, beq_iff_eq, bne_iff_ne] at hc8
                                  have hf := dl_7n (l := l.pl) hhd hk7 (fun ⟨q1, q2⟩ => by have q1 : ¬ m.r = g.st.fid := q1; omega)
                                  refine wp_skip ?_
                                  refine blk_normal ?_
                                  first
                                  | (have hqq := hp2; refine f_end0 (F' := GF gb g' l' (Z ++ G9)) hl hh rfl (by first | exact keeps_self | exact keeps_left) ?_; exact ⟨rfl, g', l', G9, he9, hg', hl', hp1.trans (by rw [hf]; try rfl), hp2.trans (by rw [hf]; try rfl), rfl⟩)
                                  | (have hqq := hc3; refine f_end0 (F' := (gb, C (GtV.c { g with ys := orB g.ys (sh1 m.d) }) 127) :: (g.st.E ++ (g.qE ++ ((g.rb, MD (kInt .u32) g.rl g.rn) :: (g.oE ++ ((g.led, C (LdV.c l) 91) :: (l.d.E ++ Z))))))) hl hh rfl (by repeat (first | exact keeps_nil | apply keeps_cons (by repeat (first | exact find_head | apply find_tail | apply find_skip)) (by first  | rfl) | exact keeps_self | exact keeps_left | apply keeps_app | apply keeps_mv | apply keeps_skip)) ?_; exact ⟨rfl, GO.same (g' := { g with ys := orB g.ys (sh1 m.d) }) (ys_ok hg (orB_bd _ _)) hl9 (by rw [hf]; rfl) (by rw [hf]) rfl⟩)
                                  | (refine f_end0 (F' := (gb, C (GtV.c g) 127) :: (g.st.E ++ (g.qE ++ ((g.rb, MD (kInt .u32) g.rl g.rn) :: (g.oE ++ ((g.led, C (LdV.c l) 91) :: (l.d.E ++ Z))))))) hl hh rfl (by repeat (first | exact keeps_nil | apply keeps_cons (by repeat (first | exact find_head | apply find_tail | apply find_skip)) (by first  | rfl) | exact keeps_self | exact keeps_left | apply keeps_app | apply keeps_mv | apply keeps_skip)) ?_; exact ⟨rfl, GO.same hg hl9 (by rw [hf]) (by rw [hf]) rfl⟩)
                              · intro hg63; clear hl; intro hl
                                try simp only [decide_eq_true_eq, decide_eq_false_iff_not, Bool.not_eq_true', Bool.not_eq_false', Bool.not_eq_true, Bool.not_eq_false, Bool.and_eq_true, Bool.or_eq_true, Bool.and_eq_false_iff, Bool.or_eq_false_iff, Bool.not_not, ne_eq, Int.not_lt, Int.not_le, Decidable.not_not, beq_iff_eq, bne_iff_ne] at hg63
                                refine wl (wl_skip hl rfl ⟨_, _, rfl, rfl, rfl⟩ ?_)
                                clear hl a; intro a hl
                                refine wl (wl_skip hl rfl ⟨_, _, rfl, rfl, rfl⟩ ?_)
                                clear hl a; intro a hl
                                refine wl (wl_skip hl rfl ⟨_, _, rfl, rfl, rfl⟩ ?_)
                                clear hl a; intro a hl
                                refine wl (wl_val hl rfl trivial (r_pickF hl rfl rfl) ?_)
                                clear hl a; intro a hl
                                refine w_nil ?_
                                have hl2 := hl.add (t := 0) (hl.add (t := 5) (hl.add (t := 145) (hl.nil) rfl) rfl) rfl; clear hl; have hl := hl2; clear hl2
                                refine then_normal ?_
                                refine c_condF hl rfl ?_
                                have hf := dl_7n (l := l.pl) hhd hk7 (fun ⟨q1, q2⟩ => by have q1 : ¬ m.r = g.st.fid := q1; omega)
                                refine wp_skip ?_
                                refine blk_normal ?_
                                first
                                | (have hqq := hp2; refine f_end0 (F' := GF gb g' l' (Z ++ G9)) hl hh rfl (by first | exact keeps_self | exact keeps_left) ?_; exact ⟨rfl, g', l', G9, he9, hg', hl', hp1.trans (by rw [hf]; try rfl), hp2.trans (by rw [hf]; try rfl), rfl⟩)
                                | (have hqq := hc3; refine f_end0 (F' := (gb, C (GtV.c { g with ys := orB g.ys (sh1 m.d) }) 127) :: (g.st.E ++ (g.qE ++ ((g.rb, MD (kInt .u32) g.rl g.rn) :: (g.oE ++ ((g.led, C (LdV.c l) 91) :: (l.d.E ++ Z))))))) hl hh rfl (by repeat (first | exact keeps_nil | apply keeps_cons (by repeat (first | exact find_head | apply find_tail | apply find_skip)) (by first  | rfl) | exact keeps_self | exact keeps_left | apply keeps_app | apply keeps_mv | apply keeps_skip)) ?_; exact ⟨rfl, GO.same (g' := { g with ys := orB g.ys (sh1 m.d) }) (ys_ok hg (orB_bd _ _)) hl9 (by rw [hf]; rfl) (by rw [hf]) rfl⟩)
                                | (refine f_end0 (F' := (gb, C (GtV.c g) 127) :: (g.st.E ++ (g.qE ++ ((g.rb, MD (kInt .u32) g.rl g.rn) :: (g.oE ++ ((g.led, C (LdV.c l) 91) :: (l.d.E ++ Z))))))) hl hh rfl (by repeat (first | exact keeps_nil | apply keeps_cons (by repeat (first | exact find_head | apply find_tail | apply find_skip)) (by first  | rfl) | exact keeps_self | exact keeps_left | apply keeps_app | apply keeps_mv | apply keeps_skip)) ?_; exact ⟨rfl, GO.same hg hl9 (by rw [hf]) (by rw [hf]) rfl⟩)
                            · intro hc7
                              try simp only [decide_eq_true_eq, decide_eq_false_iff_not, Bool.not_eq_true', Bool.not_eq_false', Bool.not_eq_true, Bool.not_eq_false, Bool.and_eq_true, Bool.or_eq_true, Bool.and_eq_false_iff, Bool.or_eq_false_iff, Bool.not_not, ne_eq, Int.not_lt, Int.not_le, Decidable.not_not, beq_iff_eq, bne_iff_ne] at hc7
                              have hn4 : ¬ (m.k = 6 ∧ g.pl.st.ph = 3 ∧ g.pl.au = true) := fun ⟨q1, q2, q3⟩ => by have q2 : g.st.ph = 3 := q2; have q3 : g.au = true := q3; first | omega | (simp_all; done)
                              have hf := dl_x (l := l.pl) hhd hn1 hn2 hn3 hn4
                              refine wp_skip ?_
                              refine blk_normal ?_
                              first
                              | (have hqq := hp2; refine f_end0 (F' := GF gb g' l' (Z ++ G9)) hl hh rfl (by first | exact keeps_self | exact keeps_left) ?_; exact ⟨rfl, g', l', G9, he9, hg', hl', hp1.trans (by rw [hf]; try rfl), hp2.trans (by rw [hf]; try rfl), rfl⟩)
                              | (have hqq := hc3; refine f_end0 (F' := (gb, C (GtV.c { g with ys := orB g.ys (sh1 m.d) }) 127) :: (g.st.E ++ (g.qE ++ ((g.rb, MD (kInt .u32) g.rl g.rn) :: (g.oE ++ ((g.led, C (LdV.c l) 91) :: (l.d.E ++ Z))))))) hl hh rfl (by repeat (first | exact keeps_nil | apply keeps_cons (by repeat (first | exact find_head | apply find_tail | apply find_skip)) (by first  | rfl) | exact keeps_self | exact keeps_left | apply keeps_app | apply keeps_mv | apply keeps_skip)) ?_; exact ⟨rfl, GO.same (g' := { g with ys := orB g.ys (sh1 m.d) }) (ys_ok hg (orB_bd _ _)) hl9 (by rw [hf]; rfl) (by rw [hf]) rfl⟩)
                              | (refine f_end0 (F' := (gb, C (GtV.c g) 127) :: (g.st.E ++ (g.qE ++ ((g.rb, MD (kInt .u32) g.rl g.rn) :: (g.oE ++ ((g.led, C (LdV.c l) 91) :: (l.d.E ++ Z))))))) hl hh rfl (by repeat (first | exact keeps_nil | apply keeps_cons (by repeat (first | exact find_head | apply find_tail | apply find_skip)) (by first  | rfl) | exact keeps_self | exact keeps_left | apply keeps_app | apply keeps_mv | apply keeps_skip)) ?_; exact ⟨rfl, GO.same hg hl9 (by rw [hf]) (by rw [hf]) rfl⟩)
                          · intro hg62; clear hl; intro hl
                            try simp only [decide_eq_true_eq, decide_eq_false_iff_not, Bool.not_eq_true', Bool.not_eq_false', Bool.not_eq_true, Bool.not_eq_false, Bool.and_eq_true, Bool.or_eq_true, Bool.and_eq_false_iff, Bool.or_eq_false_iff, Bool.not_not, ne_eq, Int.not_lt, Int.not_le, Decidable.not_not, beq_iff_eq, bne_iff_ne] at hg62
                            refine wl (wl_skip hl rfl ⟨_, _, rfl, rfl, rfl⟩ ?_)
                            clear hl a; intro a hl
                            refine wl (wl_skip hl rfl ⟨_, _, rfl, rfl, rfl⟩ ?_)
                            clear hl a; intro a hl
                            refine wl (wl_skip hl rfl ⟨_, _, rfl, rfl, rfl⟩ ?_)
                            clear hl a; intro a hl
                            refine wl (wl_skip hl rfl ⟨_, _, rfl, rfl, rfl⟩ ?_)
                            clear hl a; intro a hl
                            refine wl (wl_val hl rfl trivial (r_pickF hl rfl rfl) ?_)
                            clear hl a; intro a hl
                            refine wl (wl_val hl rfl trivial (r_assign hl rfl) ?_)
                            clear hl a; intro a hl
                            refine w_nil ?_
                            have hl2 := hl.add (t := 0) (hl.add (t := 3) (hl.add (t := 4) (hl.add (t := 5) (hl.add (t := 121) (hl.nil) rfl) rfl) rfl) rfl) rfl; clear hl; have hl := hl2; clear hl2
                            refine then_normal ?_
                            refine c_condF hl rfl ?_
                            have hn4 : ¬ (m.k = 6 ∧ g.pl.st.ph = 3 ∧ g.pl.au = true) := fun ⟨q1, q2, q3⟩ => by have q2 : g.st.ph = 3 := q2; have q3 : g.au = true := q3; first | omega | (simp_all; done)
                            have hf := dl_x (l := l.pl) hhd hn1 hn2 hn3 hn4
                            refine wp_skip ?_
                            refine blk_normal ?_
                            first
                            | (have hqq := hp2; refine f_end0 (F' := GF gb g' l' (Z ++ G9)) hl hh rfl (by first | exact keeps_self | exact keeps_left) ?_; exact ⟨rfl, g', l', G9, he9, hg', hl', hp1.trans (by rw [hf]; try rfl), hp2.trans (by rw [hf]; try rfl), rfl⟩)
                            | (have hqq := hc3; refine f_end0 (F' := (gb, C (GtV.c { g with ys := orB g.ys (sh1 m.d) }) 127) :: (g.st.E ++ (g.qE ++ ((g.rb, MD (kInt .u32) g.rl g.rn) :: (g.oE ++ ((g.led, C (LdV.c l) 91) :: (l.d.E ++ Z))))))) hl hh rfl (by repeat (first | exact keeps_nil | apply keeps_cons (by repeat (first | exact find_head | apply find_tail | apply find_skip)) (by first  | rfl) | exact keeps_self | exact keeps_left | apply keeps_app | apply keeps_mv | apply keeps_skip)) ?_; exact ⟨rfl, GO.same (g' := { g with ys := orB g.ys (sh1 m.d) }) (ys_ok hg (orB_bd _ _)) hl9 (by rw [hf]; rfl) (by rw [hf]) rfl⟩)
                            | (refine f_end0 (F' := (gb, C (GtV.c g) 127) :: (g.st.E ++ (g.qE ++ ((g.rb, MD (kInt .u32) g.rl g.rn) :: (g.oE ++ ((g.led, C (LdV.c l) 91) :: (l.d.E ++ Z))))))) hl hh rfl (by repeat (first | exact keeps_nil | apply keeps_cons (by repeat (first | exact find_head | apply find_tail | apply find_skip)) (by first  | rfl) | exact keeps_self | exact keeps_left | apply keeps_app | apply keeps_mv | apply keeps_skip)) ?_; exact ⟨rfl, GO.same hg hl9 (by rw [hf]) (by rw [hf]) rfl⟩)
                        · intro hg61; clear hl; intro hl
                          try simp only [decide_eq_true_eq, decide_eq_false_iff_not, Bool.not_eq_true', Bool.not_eq_false', Bool.not_eq_true, Bool.not_eq_false, Bool.and_eq_true, Bool.or_eq_true, Bool.and_eq_false_iff, Bool.or_eq_false_iff, Bool.not_not, ne_eq, Int.not_lt, Int.not_le, Decidable.not_not, beq_iff_eq, bne_iff_ne] at hg61
                          refine wl (wl_skip hl rfl ⟨_, _, rfl, rfl, rfl⟩ ?_)
                          clear hl a; intro a hl
                          refine wl (wl_skip hl rfl ⟨_, _, rfl, rfl, rfl⟩ ?_)
                          clear hl a; intro a hl
                          refine wl (wl_skip hl rfl ⟨_, _, rfl, rfl, rfl⟩ ?_)
                          clear hl a; intro a hl
                          refine wl (wl_val hl rfl trivial (r_pickF hl rfl rfl) ?_)
                          clear hl a; intro a hl
                          refine wl (wl_val hl rfl trivial (r_move hl rfl) ?_)
                          clear hl a; intro a hl
                          refine wl (wl_skip hl rfl ⟨_, _, rfl, rfl, rfl⟩ ?_)
                          clear hl a; intro a hl
                          refine wl (wl_skip hl rfl ⟨_, _, rfl, rfl, rfl⟩ ?_)
                          clear hl a; intro a hl
                          refine wl (wl_skip hl rfl ⟨_, _, rfl, rfl, rfl⟩ ?_)
                          clear hl a; intro a hl
                          refine wl (wl_skip hl rfl ⟨_, _, rfl, rfl, rfl⟩ ?_)
                          clear hl a; intro a hl
                          refine wl (wl_val hl rfl trivial (r_pickF hl rfl rfl) ?_)
                          clear hl a; intro a hl
                          refine wl (wl_val hl rfl trivial (r_assign hl rfl) ?_)
                          clear hl a; intro a hl
                          refine w_nil ?_
                          have hl2 := hl.add (t := 0) (hl.add (t := 3) (hl.add (t := 4) (hl.add (t := 5) (hl.add (t := 121) (hl.nil) rfl) rfl) rfl) rfl) rfl; clear hl; have hl := hl2; clear hl2
                          refine then_normal ?_
                          refine c_condF hl rfl ?_
                          have hn4 : ¬ (m.k = 6 ∧ g.pl.st.ph = 3 ∧ g.pl.au = true) := fun ⟨q1, q2, q3⟩ => by have q2 : g.st.ph = 3 := q2; have q3 : g.au = true := q3; first | omega | (simp_all; done)
                          have hf := dl_x (l := l.pl) hhd hn1 hn2 hn3 hn4
                          refine wp_skip ?_
                          refine blk_normal ?_
                          first
                          | (have hqq := hp2; refine f_end0 (F' := GF gb g' l' (Z ++ G9)) hl hh rfl (by first | exact keeps_self | exact keeps_left) ?_; exact ⟨rfl, g', l', G9, he9, hg', hl', hp1.trans (by rw [hf]; try rfl), hp2.trans (by rw [hf]; try rfl), rfl⟩)
                          | (have hqq := hc3; refine f_end0 (F' := (gb, C (GtV.c { g with ys := orB g.ys (sh1 m.d) }) 127) :: (g.st.E ++ (g.qE ++ ((g.rb, MD (kInt .u32) g.rl g.rn) :: (g.oE ++ ((g.led, C (LdV.c l) 91) :: (l.d.E ++ Z))))))) hl hh rfl (by repeat (first | exact keeps_nil | apply keeps_cons (by repeat (first | exact find_head | apply find_tail | apply find_skip)) (by first  | rfl) | exact keeps_self | exact keeps_left | apply keeps_app | apply keeps_mv | apply keeps_skip)) ?_; exact ⟨rfl, GO.same (g' := { g with ys := orB g.ys (sh1 m.d) }) (ys_ok hg (orB_bd _ _)) hl9 (by rw [hf]; rfl) (by rw [hf]) rfl⟩)
                          | (refine f_end0 (F' := (gb, C (GtV.c g) 127) :: (g.st.E ++ (g.qE ++ ((g.rb, MD (kInt .u32) g.rl g.rn) :: (g.oE ++ ((g.led, C (LdV.c l) 91) :: (l.d.E ++ Z))))))) hl hh rfl (by repeat (first | exact keeps_nil | apply keeps_cons (by repeat (first | exact find_head | apply find_tail | apply find_skip)) (by first  | rfl) | exact keeps_self | exact keeps_left | apply keeps_app | apply keeps_mv | apply keeps_skip)) ?_; exact ⟨rfl, GO.same hg hl9 (by rw [hf]) (by rw [hf]) rfl⟩)
                    · intro hg59; clear hl; intro hl
                      try simp only [decide_eq_true_eq, decide_eq_false_iff_not, Bool.not_eq_true', Bool.not_eq_false', Bool.not_eq_true, Bool.not_eq_false, Bool.and_eq_true, Bool.or_eq_true, Bool.and_eq_false_iff, Bool.or_eq_false_iff, Bool.not_not, ne_eq, Int.not_lt, Int.not_le, Decidable.not_not, beq_iff_eq, bne_iff_ne] at hg59
                      refine wl (wl_skip hl rfl ⟨_, _, rfl, rfl, rfl⟩ ?_)
                      clear hl a; intro a hl
                      refine wl (wl_skip hl rfl ⟨_, _, rfl, rfl, rfl⟩ ?_)
                      clear hl a; intro a hl
                      refine wl (wl_skip hl rfl ⟨_, _, rfl, rfl, rfl⟩ ?_)
                      clear hl a; intro a hl
                      refine wl (wl_skip hl rfl ⟨_, _, rfl, rfl, rfl⟩ ?_)
                      clear hl a; intro a hl
                      refine wl (wl_val hl rfl trivial (r_pickF hl rfl rfl) ?_)
                      clear hl a; intro a hl
                      refine wl (wl_val hl rfl trivial (r_assign hl rfl) ?_)
                      clear hl a; intro a hl
                      refine w_nil ?_
                      have hl2 := hl.add (t := 0) (hl.add (t := 3) (hl.add (t := 4) (hl.add (t := 5) (hl.add (t := 93) (hl.nil) rfl) rfl) rfl) rfl) rfl; clear hl; have hl := hl2; clear hl2
                      refine then_normal ?_
                      refine c_condF hl rfl ?_
                      have hn3 : ¬ (m.k = 6 ∧ g.pl.st.ph = 2 ∧ g.pl.au = true) := fun ⟨q1, q2, q3⟩ => by have q2 : g.st.ph = 2 := q2; have q3 : g.au = true := q3; first | omega | (simp_all; done)
                      refine c_seq ?_
                      refine c_region ?_
                      refine wl (wl_val hl rfl trivial (r_field hl rfl fld38_0) ?_)
                      clear hl a; intro a hl
                      refine wl (w_load hl hh rfl trivial one35 rfl (by repeat (first | exact find_head | apply find_tail | apply find_skip)) (by first | exact gtc_led _ | exact gtc_ep _ | exact gtc_vs _ | exact gtc_is _ | exact gtc_fid _ | exact gtc_ph _ | exact gtc_vd _ | exact gtc_q _ | exact gtc_rf _ | exact gtc_ys _ | exact gtc_dn _ | exact gtc_tk _ | exact gtc_au _ | exact gtc_o _ | exact gtc_off _ | rfl) ?_)
                      clear hl a; intro a hl
                      refine wl (wl_val hl rfl trivial (r_eql hl rfl rfl) ?_)
                      clear hl a; intro a hl
                      refine wl (wl_val hl rfl trivial (r_move hl rfl) ?_)
                      clear hl a; intro a hl
                      refine sl_split (t := 125) hl rfl ?_ ?_
                      · intro hg64; clear hl; intro hl
                        try simp only [decide_eq_true_eq, decide_eq_false_iff_not, Bool.not_eq_true', Bool.not_eq_false', Bool.not_eq_true, Bool.not_eq_false, Bool.and_eq_true, Bool.or_eq_true, Bool.and_eq_false_iff, Bool.or_eq_false_iff, Bool.not_not, ne_eq, Int.not_lt, Int.not_le, Decidable.not_not, beq_iff_eq, bne_iff_ne] at hg64
                        refine wl (wl_val hl rfl ⟨_, _, rfl, rfl, rfl⟩ (r_field hl rfl fld87_1) ?_)
                        clear hl a; intro a hl
                        refine wl (w_load hl hh rfl ⟨_, _, rfl, rfl, rfl⟩ one76 rfl (by repeat (first | exact find_head | apply find_tail | apply find_skip)) (by first | exact gtc_led _ | exact gtc_ep _ | exact gtc_vs _ | exact gtc_is _ | exact gtc_fid _ | exact gtc_ph _ | exact gtc_vd _ | exact gtc_q _ | exact gtc_rf _ | exact gtc_ys _ | exact gtc_dn _ | exact gtc_tk _ | exact gtc_au _ | exact gtc_o _ | exact gtc_off _ | rfl) ?_)
                        clear hl a; intro a hl
                        refine wl (wl_val hl rfl ⟨_, _, rfl, rfl, rfl⟩ (r_eql hl rfl rfl) ?_)
                        clear hl a; intro a hl
                        refine wl (wl_val hl rfl trivial (r_pickT hl rfl rfl) ?_)
                        clear hl a; intro a hl
                        refine wl (wl_val hl rfl trivial (r_move hl rfl) ?_)
                        clear hl a; intro a hl
                        refine sl_split (t := 130) hl rfl ?_ ?_
                        · intro hg65; clear hl; intro hl
                          try simp only [decide_eq_true_eq, decide_eq_false_iff_not, Bool.not_eq_true', Bool.not_eq_false', Bool.not_eq_true, Bool.not_eq_false, Bool.and_eq_true, Bool.or_eq_true, Bool.and_eq_false_iff, Bool.or_eq_false_iff, Bool.not_not, ne_eq, Int.not_lt, Int.not_le, Decidable.not_not, beq_iff_eq, bne_iff_ne] at hg65
                          refine wl (wl_val hl rfl ⟨_, _, rfl, rfl, rfl⟩ (r_move hl rfl) ?_)
                          clear hl a; intro a hl
                          refine wl (wl_val hl rfl ⟨_, _, rfl, rfl, rfl⟩ (r_nilCheck hl rfl) ?_)
                          clear hl a; intro a hl
                          refine wl (wl_val hl rfl ⟨_, _, rfl, rfl, rfl⟩ (r_field hl rfl fld127_8) ?_)
                          clear hl a; intro a hl
                          refine wl (w_load hl hh rfl ⟨_, _, rfl, rfl, rfl⟩ one4 rfl (by repeat (first | exact find_head | apply find_tail | apply find_skip)) (by first | exact gtc_led _ | exact gtc_ep _ | exact gtc_vs _ | exact gtc_is _ | exact gtc_fid _ | exact gtc_ph _ | exact gtc_vd _ | exact gtc_q _ | exact gtc_rf _ | exact gtc_ys _ | exact gtc_dn _ | exact gtc_tk _ | exact gtc_au _ | exact gtc_o _ | exact gtc_off _ | rfl) ?_)
                          clear hl a; intro a hl
                          refine wl (wl_val hl rfl trivial (r_pickT hl rfl rfl) ?_)
                          clear hl a; intro a hl
                          refine wl (wl_val hl rfl trivial (r_assign hl rfl) ?_)
                          clear hl a; intro a hl
                          refine w_nil ?_
                          have hl2 := hl.add (t := 0) (hl.add (t := 3) (hl.add (t := 4) (hl.add (t := 5) (hl.add (t := 121) (hl.nil) rfl) rfl) rfl) rfl) rfl; clear hl; have hl := hl2; clear hl2
                          refine then_normal ?_
                          refine c_cond hl rfl ?_ ?_
                          · intro hc7
                            try simp only [decide_eq_true_eq, decide_eq_false_iff_not, Bool.not_eq_true', Bool.not_eq_false', Bool.not_eq_true, Bool.not_eq_false, Bool.and_eq_true, Bool.or_eq_true, Bool.and_eq_false_iff, Bool.or_eq_false_iff, Bool.not_not, ne_eq, Int.not_lt, Int.not_le, Decidable.not_not, beq_iff_eq, bne_iff_ne] at hc7
                            have hk7 : m.k = 6 ∧ g.pl.st.ph = 3 ∧ g.pl.au = true := ⟨by omega, (show g.st.ph = 3 by omega), (show g.au = true by first | assumption | (simp_all; done))⟩
                            refine c_seq ?_
                            refine c_region ?_
                            refine wl (wl_val hl rfl trivial (r_field hl rfl fld38_5) ?_)
                            clear hl a; intro a hl
                            refine wl (w_load hl hh rfl trivial one36 rfl (by repeat (first | exact find_head | apply find_tail | apply find_skip)) (by first | exact gtc_led _ | exact gtc_ep _ | exact gtc_vs _ | exact gtc_is _ | exact gtc_fid _ | exact gtc_ph _ | exact gtc_vd _ | exact gtc_q _ | exact gtc_rf _ | exact gtc_ys _ | exact gtc_dn _ | exact gtc_tk _ | exact gtc_au _ | exact gtc_o _ | exact gtc_off _ | rfl) ?_)
                            clear hl a; intro a hl
                            refine wl (wl_val hl rfl trivial (r_field hl rfl fld87_0) ?_)
                            clear hl a; intro a hl
                            refine wl (w_load hl hh rfl trivial one36 rfl (by repeat (first | exact find_head | apply find_tail | apply find_skip)) (by first | exact gtc_led _ | exact gtc_ep _ | exact gtc_vs _ | exact gtc_is _ | exact gtc_fid _ | exact gtc_ph _ | exact gtc_vd _ | exact gtc_q _ | exact gtc_rf _ | exact gtc_ys _ | exact gtc_dn _ | exact gtc_tk _ | exact gtc_au _ | exact gtc_o _ | exact gtc_off _ | rfl) ?_)
                            clear hl a; intro a hl
                            refine wl (wl_val hl rfl trivial (r_neq hl rfl rfl) ?_)
                            clear hl a; intro a hl
                            refine wl (wl_val hl rfl trivial (r_move hl rfl) ?_)
                            clear hl a; intro a hl
                            refine sl_split (t := 141) hl rfl ?_ ?_
                            · intro hg66; clear hl; intro hl
                              try simp only [decide_eq_true_eq, decide_eq_false_iff_not, Bool.not_eq_true', Bool.not_eq_false', Bool.not_eq_true, Bool.not_eq_false, Bool.and_eq_true, Bool.or_eq_true, Bool.and_eq_false_iff, Bool.or_eq_false_iff, Bool.not_not, ne_eq, Int.not_lt, Int.not_le, Decidable.not_not, beq_iff_eq, bne_iff_ne] at hg66
                              refine wl (wl_val hl rfl ⟨_, _, rfl, rfl, rfl⟩ (r_field hl rfl fld38_6) ?_)
                              clear hl a; intro a hl
                              refine wl (w_load hl hh rfl ⟨_, _, rfl, rfl, rfl⟩ one36 rfl (by repeat (first | exact find_head | apply find_tail | apply find_skip)) (by first | exact gtc_led _ | exact gtc_ep _ | exact gtc_vs _ | exact gtc_is _ | exact gtc_fid _ | exact gtc_ph _ | exact gtc_vd _ | exact gtc_q _ | exact gtc_rf _ | exact gtc_ys _ | exact gtc_dn _ | exact gtc_tk _ | exact gtc_au _ | exact gtc_o _ | exact gtc_off _ | rfl) ?_)
                              clear hl a; intro a hl
                              refine wl (wl_val hl rfl ⟨_, _, rfl, rfl, rfl⟩ (r_eql hl rfl rfl) ?_)
                              clear hl a; intro a hl
                              refine wl (wl_val hl rfl trivial (r_pickT hl rfl rfl) ?_)
                              clear hl a; intro a hl
                              refine w_nil ?_
                              have hl2 := hl.add (t := 0) (hl.add (t := 5) (hl.add (t := 145) (hl.nil) rfl) rfl) rfl; clear hl; have hl := hl2; clear hl2
                              refine then_normal ?_
                              refine c_cond hl rfl ?_ ?_
                              · intro hc8
                                try simp only [decide_eq_true_eq, decide_eq_false_iff_not, Bool.not_eq_true', Bool.not_eq_false', Bool.not_eq_true, Bool.not_eq_false, Bool.and_eq_true, Bool.or_eq_true, Bool.and_eq_false_iff, Bool.or_eq_false_iff, Bool.not_not, ne_eq, Int.not_lt, Int.not_le, Decidable.not_not, beq_iff_eq, bne_iff_ne] at hc8
                                have hf := dl_7y (l := l.pl) hhd hk7 ⟨(show ¬ m.r = g.st.fid by omega), by omega⟩
                                refine c_region ?_
                                refine wl (wl_val hl rfl trivial (r_move hl rfl) ?_)
                                clear hl a; intro a hl
                                refine wl (wl_val hl rfl trivial (r_move hl rfl) ?_)
                                clear hl a; intro a hl
                                refine wl (w_call hl hh rfl trivial rfl cal52 rfl (confirm_spec Z gb g l hg hl9 (sh1 m.d) hvl) (by repeat (first | exact keeps_nil | apply keeps_cons (by repeat (first | exact find_head | apply find_tail | apply find_skip)) (by first  | rfl) | exact keeps_self | exact keeps_left | apply keeps_app | apply keeps_mv | apply keeps_skip)) trivial ?_)
                                clear hl hh a w; intro vc Fc a w hR hl hh
                                obtain ⟨rfl, g', l', G9, he9, hg', hl', hp1, hp2, rfl⟩ := hR
                                try simp only [List.cons_append, List.nil_append, List.append_assoc, List.append_nil] at hh
                                refine w_nil ?_
                                have hl2 := hl.nil; clear hl; have hl := hl2; clear hl2
                                refine blk_normal ?_
                                first
                                | (have hqq := hp2; refine f_end0 (F' := GF gb g' l' (Z ++ G9)) hl hh rfl (by first | exact keeps_self | exact keeps_left) ?_; exact ⟨rfl, g', l', G9, he9, hg', hl', hp1.trans (by rw [hf]; try rfl), hp2.trans (by rw [hf]; try rfl), rfl⟩)
                                | (have hqq := hc3; refine f_end0 (F' := (gb, C (GtV.c { g with ys := orB g.ys (sh1 m.d) }) 127) :: (g.st.E ++ (g.qE ++ ((g.rb, MD (kInt .u32) g.rl g.rn) :: (g.oE ++ ((g.led, C (LdV.c l) 91) :: (l.d.E ++ Z))))))) hl hh rfl (by repeat (first | exact keeps_nil | apply keeps_cons (by repeat (first | exact find_head | apply find_tail | apply find_skip)) (by first  | rfl) | exact keeps_self | exact keeps_left | apply keeps_app | apply keeps_mv | apply keeps_skip)) ?_; exact ⟨rfl, GO.same (g' := { g with ys := orB g.ys (sh1 m.d) }) (ys_ok hg (orB_bd _ _)) hl9 (by rw [hf]; rfl) (by rw [hf]) rfl⟩)
                                | (refine f_end0 (F' := (gb, C (GtV.c g) 127) :: (g.st.E ++ (g.qE ++ ((g.rb, MD (kInt .u32) g.rl g.rn) :: (g.oE ++ ((g.led, C (LdV.c l) 91) :: (l.d.E ++ Z))))))) hl hh rfl (by repeat (first | exact keeps_nil | apply keeps_cons (by repeat (first | exact find_head | apply find_tail | apply find_skip)) (by first  | rfl) | exact keeps_self | exact keeps_left | apply keeps_app | apply keeps_mv | apply keeps_skip)) ?_; exact ⟨rfl, GO.same hg hl9 (by rw [hf]) (by rw [hf]) rfl⟩)
                              · intro hc8
                                try simp only [decide_eq_true_eq, decide_eq_false_iff_not, Bool.not_eq_true', Bool.not_eq_false', Bool.not_eq_true, Bool.not_eq_false, Bool.and_eq_true, Bool.or_eq_true, Bool.and_eq_false_iff, Bool.or_eq_false_iff, Bool.not_not, ne_eq, Int.not_lt, Int.not_le, Decidable.not_not, beq_iff_eq, bne_iff_ne] at hc8
                                have hf := dl_7n (l := l.pl) hhd hk7 (fun ⟨q1, q2⟩ => by have q1 : ¬ m.r = g.st.fid := q1; omega)
                                refine wp_skip ?_
                                refine blk_normal ?_
                                first
                                | (have hqq := hp2; refine f_end0 (F' := GF gb g' l' (Z ++ G9)) hl hh rfl (by first | exact keeps_self | exact keeps_left) ?_; exact ⟨rfl, g', l', G9, he9, hg', hl', hp1.trans (by rw [hf]; try rfl), hp2.trans (by rw [hf]; try rfl), rfl⟩)
                                | (have hqq := hc3; refine f_end0 (F' := (gb, C (GtV.c { g with ys := orB g.ys (sh1 m.d) }) 127) :: (g.st.E ++ (g.qE ++ ((g.rb, MD (kInt .u32) g.rl g.rn) :: (g.oE ++ ((g.led, C (LdV.c l) 91) :: (l.d.E ++ Z))))))) hl hh rfl (by repeat (first | exact keeps_nil | apply keeps_cons (by repeat (first | exact find_head | apply find_tail | apply find_skip)) (by first  | rfl) | exact keeps_self | exact keeps_left | apply keeps_app | apply keeps_mv | apply keeps_skip)) ?_; exact ⟨rfl, GO.same (g' := { g with ys := orB g.ys (sh1 m.d) }) (ys_ok hg (orB_bd _ _)) hl9 (by rw [hf]; rfl) (by rw [hf]) rfl⟩)
                                | (refine f_end0 (F' := (gb, C (GtV.c g) 127) :: (g.st.E ++ (g.qE ++ ((g.rb, MD (kInt .u32) g.rl g.rn) :: (g.oE ++ ((g.led, C (LdV.c l) 91) :: (l.d.E ++ Z))))))) hl hh rfl (by repeat (first | exact keeps_nil | apply keeps_cons (by repeat (first | exact find_head | apply find_tail | apply find_skip)) (by first  | rfl) | exact keeps_self | exact keeps_left | apply keeps_app | apply keeps_mv | apply keeps_skip)) ?_; exact ⟨rfl, GO.same hg hl9 (by rw [hf]) (by rw [hf]) rfl⟩)
                            · intro hg66; clear hl; intro hl
                              try simp only [decide_eq_true_eq, decide_eq_false_iff_not, Bool.not_eq_true', Bool.not_eq_false', Bool.not_eq_true, Bool.not_eq_false, Bool.and_eq_true, Bool.or_eq_true, Bool.and_eq_false_iff, Bool.or_eq_false_iff, Bool.not_not, ne_eq, Int.not_lt, Int.not_le, Decidable.not_not, beq_iff_eq, bne_iff_ne] at hg66
                              refine wl (wl_skip hl rfl ⟨_, _, rfl, rfl, rfl⟩ ?_)
                              clear hl a; intro a hl
                              refine wl (wl_skip hl rfl ⟨_, _, rfl, rfl, rfl⟩ ?_)
                              clear hl a; intro a hl
                              refine wl (wl_skip hl rfl ⟨_, _, rfl, rfl, rfl⟩ ?_)
                              clear hl a; intro a hl
                              refine wl (wl_val hl rfl trivial (r_pickF hl rfl rfl) ?_)
                              clear hl a; intro a hl
                              refine w_nil ?_
                              have hl2 := hl.add (t := 0) (hl.add (t := 5) (hl.add (t := 145) (hl.nil) rfl) rfl) rfl; clear hl; have hl := hl2; clear hl2
                              refine then_normal ?_
                              refine c_condF hl rfl ?_
                              have hf := dl_7n (l := l.pl) hhd hk7 (fun ⟨q1, q2⟩ => by have q1 : ¬ m.r = g.st.fid := q1; omega)
                              refine wp_skip ?_
                              refine blk_normal ?_
                              first
                              | (have hqq := hp2; refine f_end0 (F' := GF gb g' l' (Z ++ G9)) hl hh rfl (by first | exact keeps_self | exact keeps_left) ?_; exact ⟨rfl, g', l', G9, he9, hg', hl', hp1.trans (by rw [hf]; try rfl), hp2.trans (by rw [hf]; try rfl), rfl⟩)
                              | (have hqq := hc3; refine f_end0 (F' := (gb, C (GtV.c { g with ys := orB g.ys (sh1 m.d) }) 127) :: (g.st.E ++ (g.qE ++ ((g.rb, MD (kInt .u32) g.rl g.rn) :: (g.oE ++ ((g.led, C (LdV.c l) 91) :: (l.d.E ++ Z))))))) hl hh rfl (by repeat (first | exact keeps_nil | apply keeps_cons (by repeat (first | exact find_head | apply find_tail | apply find_skip)) (by first  | rfl) | exact keeps_self | exact keeps_left | apply keeps_app | apply keeps_mv | apply keeps_skip)) ?_; exact ⟨rfl, GO.same (g' := { g with ys := orB g.ys (sh1 m.d) }) (ys_ok hg (orB_bd _ _)) hl9 (by rw [hf]; rfl) (by rw [hf]) rfl⟩)
                              | (refine f_end0 (F' := (gb, C (GtV.c g) 127) :: (g.st.E ++ (g.qE ++ ((g.rb, MD (kInt .u32) g.rl g.rn) :: (g.oE ++ ((g.led, C (LdV.c l) 91) :: (l.d.E ++ Z))))))) hl hh rfl (by repeat (first | exact keeps_nil | apply keeps_cons (by repeat (first | exact find_head | apply find_tail | apply find_skip)) (by first  | rfl) | exact keeps_self | exact keeps_left | apply keeps_app | apply keeps_mv | apply keeps_skip)) ?_; exact ⟨rfl, GO.same hg hl9 (by rw [hf]) (by rw [hf]) rfl⟩)
                          · intro hc7
                            try simp only [decide_eq_true_eq, decide_eq_false_iff_not, Bool.not_eq_true', Bool.not_eq_false', Bool.not_eq_true, Bool.not_eq_false, Bool.and_eq_true, Bool.or_eq_true, Bool.and_eq_false_iff, Bool.or_eq_false_iff, Bool.not_not, ne_eq, Int.not_lt, Int.not_le, Decidable.not_not, beq_iff_eq, bne_iff_ne] at hc7
                            have hn4 : ¬ (m.k = 6 ∧ g.pl.st.ph = 3 ∧ g.pl.au = true) := fun ⟨q1, q2, q3⟩ => by have q2 : g.st.ph = 3 := q2; have q3 : g.au = true := q3; first | omega | (simp_all; done)
                            have hf := dl_x (l := l.pl) hhd hn1 hn2 hn3 hn4
                            refine wp_skip ?_
                            refine blk_normal ?_
                            first
                            | (have hqq := hp2; refine f_end0 (F' := GF gb g' l' (Z ++ G9)) hl hh rfl (by first | exact keeps_self | exact keeps_left) ?_; exact ⟨rfl, g', l', G9, he9, hg', hl', hp1.trans (by rw [hf]; try rfl), hp2.trans (by rw [hf]; try rfl), rfl⟩)
                            | (have hqq := hc3; refine f_end0 (F' := (gb, C (GtV.c { g with ys := orB g.ys (sh1 m.d) }) 127) :: (g.st.E ++ (g.qE ++ ((g.rb, MD (kInt .u32) g.rl g.rn) :: (g.oE ++ ((g.led, C (LdV.c l) 91) :: (l.d.E ++ Z))))))) hl hh rfl (by repeat (first | exact keeps_nil | apply keeps_cons (by repeat (first | exact find_head | apply find_tail | apply find_skip)) (by first  | rfl) | exact keeps_self | exact keeps_left | apply keeps_app | apply keeps_mv | apply keeps_skip)) ?_; exact ⟨rfl, GO.same (g' := { g with ys := orB g.ys (sh1 m.d) }) (ys_ok hg (orB_bd _ _)) hl9 (by rw [hf]; rfl) (by rw [hf]) rfl⟩)
                            | (refine f_end0 (F' := (gb, C (GtV.c g) 127) :: (g.st.E ++ (g.qE ++ ((g.rb, MD (kInt .u32) g.rl g.rn) :: (g.oE ++ ((g.led, C (LdV.c l) 91) :: (l.d.E ++ Z))))))) hl hh rfl (by repeat (first | exact keeps_nil | apply keeps_cons (by repeat (first | exact find_head | apply find_tail | apply find_skip)) (by first  | rfl) | exact keeps_self | exact keeps_left | apply keeps_app | apply keeps_mv | apply keeps_skip)) ?_; exact ⟨rfl, GO.same hg hl9 (by rw [hf]) (by rw [hf]) rfl⟩)
                        · intro hg65; clear hl; intro hl
                          try simp only [decide_eq_true_eq, decide_eq_false_iff_not, Bool.not_eq_true', Bool.not_eq_false', Bool.not_eq_true, Bool.not_eq_false, Bool.and_eq_true, Bool.or_eq_true, Bool.and_eq_false_iff, Bool.or_eq_false_iff, Bool.not_not, ne_eq, Int.not_lt, Int.not_le, Decidable.not_not, beq_iff_eq, bne_iff_ne] at hg65
                          refine wl (wl_skip hl rfl ⟨_, _, rfl, rfl, rfl⟩ ?_)
                          clear hl a; intro a hl
                          refine wl (wl_skip hl rfl ⟨_, _, rfl, rfl, rfl⟩ ?_)
                          clear hl a; intro a hl
                          refine wl (wl_skip hl rfl ⟨_, _, rfl, rfl, rfl⟩ ?_)
                          clear hl a; intro a hl
                          refine wl (wl_skip hl rfl ⟨_, _, rfl, rfl, rfl⟩ ?_)
                          clear hl a; intro a hl
                          refine wl (wl_val hl rfl trivial (r_pickF hl rfl rfl) ?_)
                          clear hl a; intro a hl
                          refine wl (wl_val hl rfl trivial (r_assign hl rfl) ?_)
                          clear hl a; intro a hl
                          refine w_nil ?_
                          have hl2 := hl.add (t := 0) (hl.add (t := 3) (hl.add (t := 4) (hl.add (t := 5) (hl.add (t := 121) (hl.nil) rfl) rfl) rfl) rfl) rfl; clear hl; have hl := hl2; clear hl2
                          refine then_normal ?_
                          refine c_condF hl rfl ?_
                          have hn4 : ¬ (m.k = 6 ∧ g.pl.st.ph = 3 ∧ g.pl.au = true) := fun ⟨q1, q2, q3⟩ => by have q2 : g.st.ph = 3 := q2; have q3 : g.au = true := q3; first | omega | (simp_all; done)
                          have hf := dl_x (l := l.pl) hhd hn1 hn2 hn3 hn4
                          refine wp_skip ?_
                          refine blk_normal ?_
                          first
                          | (have hqq := hp2; refine f_end0 (F' := GF gb g' l' (Z ++ G9)) hl hh rfl (by first | exact keeps_self | exact keeps_left) ?_; exact ⟨rfl, g', l', G9, he9, hg', hl', hp1.trans (by rw [hf]; try rfl), hp2.trans (by rw [hf]; try rfl), rfl⟩)
                          | (have hqq := hc3; refine f_end0 (F' := (gb, C (GtV.c { g with ys := orB g.ys (sh1 m.d) }) 127) :: (g.st.E ++ (g.qE ++ ((g.rb, MD (kInt .u32) g.rl g.rn) :: (g.oE ++ ((g.led, C (LdV.c l) 91) :: (l.d.E ++ Z))))))) hl hh rfl (by repeat (first | exact keeps_nil | apply keeps_cons (by repeat (first | exact find_head | apply find_tail | apply find_skip)) (by first  | rfl) | exact keeps_self | exact keeps_left | apply keeps_app | apply keeps_mv | apply keeps_skip)) ?_; exact ⟨rfl, GO.same (g' := { g with ys := orB g.ys (sh1 m.d) }) (ys_ok hg (orB_bd _ _)) hl9 (by rw [hf]; rfl) (by rw [hf]) rfl⟩)
                          | (refine f_end0 (F' := (gb, C (GtV.c g) 127) :: (g.st.E ++ (g.qE ++ ((g.rb, MD (kInt .u32) g.rl g.rn) :: (g.oE ++ ((g.led, C (LdV.c l) 91) :: (l.d.E ++ Z))))))) hl hh rfl (by repeat (first | exact keeps_nil | apply keeps_cons (by repeat (first | exact find_head | apply find_tail | apply find_skip)) (by first  | rfl) | exact keeps_self | exact keeps_left | apply keeps_app | apply keeps_mv | apply keeps_skip)) ?_; exact ⟨rfl, GO.same hg hl9 (by rw [hf]) (by rw [hf]) rfl⟩)
                      · intro hg64; clear hl; intro hl
                        try simp only [decide_eq_true_eq, decide_eq_false_iff_not, Bool.not_eq_true', Bool.not_eq_false', Bool.not_eq_true, Bool.not_eq_false, Bool.and_eq_true, Bool.or_eq_true, Bool.and_eq_false_iff, Bool.or_eq_false_iff, Bool.not_not, ne_eq, Int.not_lt, Int.not_le, Decidable.not_not, beq_iff_eq, bne_iff_ne] at hg64
                        refine wl (wl_skip hl rfl ⟨_, _, rfl, rfl, rfl⟩ ?_)
                        clear hl a; intro a hl
                        refine wl (wl_skip hl rfl ⟨_, _, rfl, rfl, rfl⟩ ?_)
                        clear hl a; intro a hl
                        refine wl (wl_skip hl rfl ⟨_, _, rfl, rfl, rfl⟩ ?_)
                        clear hl a; intro a hl
                        refine wl (wl_val hl rfl trivial (r_pickF hl rfl rfl) ?_)
                        clear hl a; intro a hl
                        refine wl (wl_val hl rfl trivial (r_move hl rfl) ?_)
                        clear hl a; intro a hl
                        refine wl (wl_skip hl rfl ⟨_, _, rfl, rfl, rfl⟩ ?_)
                        clear hl a; intro a hl
                        refine wl (wl_skip hl rfl ⟨_, _, rfl, rfl, rfl⟩ ?_)
                        clear hl a; intro a hl
                        refine wl (wl_skip hl rfl ⟨_, _, rfl, rfl, rfl⟩ ?_)
                        clear hl a; intro a hl
                        refine wl (wl_skip hl rfl ⟨_, _, rfl, rfl, rfl⟩ ?_)
                        clear hl a; intro a hl
                        refine wl (wl_val hl rfl trivial (r_pickF hl rfl rfl) ?_)
                        clear hl a; intro a hl
                        refine wl (wl_val hl rfl trivial (r_assign hl rfl) ?_)
                        clear hl a; intro a hl
                        refine w_nil ?_
                        have hl2 := hl.add (t := 0) (hl.add (t := 3) (hl.add (t := 4) (hl.add (t := 5) (hl.add (t := 121) (hl.nil) rfl) rfl) rfl) rfl) rfl; clear hl; have hl := hl2; clear hl2
                        refine then_normal ?_
                        refine c_condF hl rfl ?_
                        have hn4 : ¬ (m.k = 6 ∧ g.pl.st.ph = 3 ∧ g.pl.au = true) := fun ⟨q1, q2, q3⟩ => by have q2 : g.st.ph = 3 := q2; have q3 : g.au = true := q3; first | omega | (simp_all; done)
                        have hf := dl_x (l := l.pl) hhd hn1 hn2 hn3 hn4
                        refine wp_skip ?_
                        refine blk_normal ?_
                        first
                        | (have hqq := hp2; refine f_end0 (F' := GF gb g' l' (Z ++ G9)) hl hh rfl (by first | exact keeps_self | exact keeps_left) ?_; exact ⟨rfl, g', l', G9, he9, hg', hl', hp1.trans (by rw [hf]; try rfl), hp2.trans (by rw [hf]; try rfl), rfl⟩)
                        | (have hqq := hc3; refine f_end0 (F' := (gb, C (GtV.c { g with ys := orB g.ys (sh1 m.d) }) 127) :: (g.st.E ++ (g.qE ++ ((g.rb, MD (kInt .u32) g.rl g.rn) :: (g.oE ++ ((g.led, C (LdV.c l) 91) :: (l.d.E ++ Z))))))) hl hh rfl (by repeat (first | exact keeps_nil | apply keeps_cons (by repeat (first | exact find_head | apply find_tail | apply find_skip)) (by first  | rfl) | exact keeps_self | exact keeps_left | apply keeps_app | apply keeps_mv | apply keeps_skip)) ?_; exact ⟨rfl, GO.same (g' := { g with ys := orB g.ys (sh1 m.d) }) (ys_ok hg (orB_bd _ _)) hl9 (by rw [hf]; rfl) (by rw [hf]) rfl⟩)
                        | (refine f_end0 (F' := (gb, C (GtV.c g) 127) :: (g.st.E ++ (g.qE ++ ((g.rb, MD (kInt .u32) g.rl g.rn) :: (g.oE ++ ((g.led, C (LdV.c l) 91) :: (l.d.E ++ Z))))))) hl hh rfl (by repeat (first | exact keeps_nil | apply keeps_cons (by repeat (first | exact find_head | apply find_tail | apply find_skip)) (by first  | rfl) | exact keeps_self | exact keeps_left | apply keeps_app | apply keeps_mv | apply keeps_skip)) ?_; exact ⟨rfl, GO.same hg hl9 (by rw [hf]) (by rw [hf]) rfl⟩)
                  · intro hg58; clear hl; intro hl
                    try simp only [decide_eq_true_eq, decide_eq_false_iff_not, Bool.not_eq_true', Bool.not_eq_false', Bool.not_eq_true, Bool.not_eq_false, Bool.and_eq_true, Bool.or_eq_true, Bool.and_eq_false_iff, Bool.or_eq_false_iff, Bool.not_not, ne_eq, Int.not_lt, Int.not_le, Decidable.not_not, beq_iff_eq, bne_iff_ne] at hg58
                    refine wl (wl_skip hl rfl ⟨_, _, rfl, rfl, rfl⟩ ?_)
                    clear hl a; intro a hl
                    refine wl (wl_skip hl rfl ⟨_, _, rfl, rfl, rfl⟩ ?_)
                    clear hl a; intro a hl
                    refine wl (wl_skip hl rfl ⟨_, _, rfl, rfl, rfl⟩ ?_)
                    clear hl a; intro a hl
                    refine wl (wl_val hl rfl trivial (r_pickF hl rfl rfl) ?_)
                    clear hl a; intro a hl
                    refine wl (wl_val hl rfl trivial (r_move hl rfl) ?_)
                    clear hl a; intro a hl
                    refine wl (wl_skip hl rfl ⟨_, _, rfl, rfl, rfl⟩ ?_)
                    clear hl a; intro a hl
                    refine wl (wl_skip hl rfl ⟨_, _, rfl, rfl, rfl⟩ ?_)
                    clear hl a; intro a hl
                    refine wl (wl_skip hl rfl ⟨_, _, rfl, rfl, rfl⟩ ?_)
                    clear hl a; intro a hl
                    refine wl (wl_skip hl rfl ⟨_, _, rfl, rfl, rfl⟩ ?_)
                    clear hl a; intro a hl
                    refine wl (wl_val hl rfl trivial (r_pickF hl rfl rfl) ?_)
                    clear hl a; intro a hl
                    refine wl (wl_val hl rfl trivial (r_assign hl rfl) ?_)
                    clear hl a; intro a hl
                    refine w_nil ?_
                    have hl2 := hl.add (t := 0) (hl.add (t := 3) (hl.add (t := 4) (hl.add (t := 5) (hl.add (t := 93) (hl.nil) rfl) rfl) rfl) rfl) rfl; clear hl; have hl := hl2; clear hl2
                    refine then_normal ?_
                    refine c_condF hl rfl ?_
                    have hn3 : ¬ (m.k = 6 ∧ g.pl.st.ph = 2 ∧ g.pl.au = true) := fun ⟨q1, q2, q3⟩ => by have q2 : g.st.ph = 2 := q2; have q3 : g.au = true := q3; first | omega | (simp_all; done)
                    refine c_seq ?_
                    refine c_region ?_
                    refine wl (wl_val hl rfl trivial (r_field hl rfl fld38_0) ?_)
                    clear hl a; intro a hl
                    refine wl (w_load hl hh rfl trivial one35 rfl (by repeat (first | exact find_head | apply find_tail | apply find_skip)) (by first | exact gtc_led _ | exact gtc_ep _ | exact gtc_vs _ | exact gtc_is _ | exact gtc_fid _ | exact gtc_ph _ | exact gtc_vd _ | exact gtc_q _ | exact gtc_rf _ | exact gtc_ys _ | exact gtc_dn _ | exact gtc_tk _ | exact gtc_au _ | exact gtc_o _ | exact gtc_off _ | rfl) ?_)
                    clear hl a; intro a hl
                    refine wl (wl_val hl rfl trivial (r_eql hl rfl rfl) ?_)
                    clear hl a; intro a hl
                    refine wl (wl_val hl rfl trivial (r_move hl rfl) ?_)
                    clear hl a; intro a hl
                    refine sl_split (t := 125) hl rfl ?_ ?_
                    · intro hg67; clear hl; intro hl
                      try simp only [decide_eq_true_eq, decide_eq_false_iff_not, Bool.not_eq_true', Bool.not_eq_false', Bool.not_eq_true, Bool.not_eq_false, Bool.and_eq_true, Bool.or_eq_true, Bool.and_eq_false_iff, Bool.or_eq_false_iff, Bool.not_not, ne_eq, Int.not_lt, Int.not_le, Decidable.not_not, beq_iff_eq, bne_iff_ne] at hg67
                      refine wl (wl_val hl rfl ⟨_, _, rfl, rfl, rfl⟩ (r_field hl rfl fld87_1) ?_)
                      clear hl a; intro a hl
                      refine wl (w_load hl hh rfl ⟨_, _, rfl, rfl, rfl⟩ one76 rfl (by repeat (first | exact find_head | apply find_tail | apply find_skip)) (by first | exact gtc_led _ | exact gtc_ep _ | exact gtc_vs _ | exact gtc_is _ | exact gtc_fid _ | exact gtc_ph _ | exact gtc_vd _ | exact gtc_q _ | exact gtc_rf _ | exact gtc_ys _ | exact gtc_dn _ | exact gtc_tk _ | exact gtc_au _ | exact gtc_o _ | exact gtc_off _ | rfl) ?_)
                      clear hl a; intro a hl
                      refine wl (wl_val hl rfl ⟨_, _, rfl, rfl, rfl⟩ (r_eql hl rfl rfl) ?_)
                      clear hl a; intro a hl
                      refine wl (wl_val hl rfl trivial (r_pickT hl rfl rfl) ?_)
                      clear hl a; intro a hl
                      refine wl (wl_val hl rfl trivial (r_move hl rfl) ?_)
                      clear hl a; intro a hl
                      refine sl_split (t := 130) hl rfl ?_ ?_
                      · intro hg68; clear hl; intro hl
                        try simp only [decide_eq_true_eq, decide_eq_false_iff_not, Bool.not_eq_true', Bool.not_eq_false', Bool.not_eq_true, Bool.not_eq_false, Bool.and_eq_true, Bool.or_eq_true, Bool.and_eq_false_iff, Bool.or_eq_false_iff, Bool.not_not, ne_eq, Int.not_lt, Int.not_le, Decidable.not_not, beq_iff_eq, bne_iff_ne] at hg68
                        refine wl (wl_val hl rfl ⟨_, _, rfl, rfl, rfl⟩ (r_move hl rfl) ?_)
                        clear hl a; intro a hl
                        refine wl (wl_val hl rfl ⟨_, _, rfl, rfl, rfl⟩ (r_nilCheck hl rfl) ?_)
                        clear hl a; intro a hl
                        refine wl (wl_val hl rfl ⟨_, _, rfl, rfl, rfl⟩ (r_field hl rfl fld127_8) ?_)
                        clear hl a; intro a hl
                        refine wl (w_load hl hh rfl ⟨_, _, rfl, rfl, rfl⟩ one4 rfl (by repeat (first | exact find_head | apply find_tail | apply find_skip)) (by first | exact gtc_led _ | exact gtc_ep _ | exact gtc_vs _ | exact gtc_is _ | exact gtc_fid _ | exact gtc_ph _ | exact gtc_vd _ | exact gtc_q _ | exact gtc_rf _ | exact gtc_ys _ | exact gtc_dn _ | exact gtc_tk _ | exact gtc_au _ | exact gtc_o _ | exact gtc_off _ | rfl) ?_)
                        clear hl a; intro a hl
                        refine wl (wl_val hl rfl trivial (r_pickT hl rfl rfl) ?_)
                        clear hl a; intro a hl
                        refine wl (wl_val hl rfl trivial (r_assign hl rfl) ?_)
                        clear hl a; intro a hl
                        refine w_nil ?_
                        have hl2 := hl.add (t := 0) (hl.add (t := 3) (hl.add (t := 4) (hl.add (t := 5) (hl.add (t := 121) (hl.nil) rfl) rfl) rfl) rfl) rfl; clear hl; have hl := hl2; clear hl2
                        refine then_normal ?_
                        refine c_cond hl rfl ?_ ?_
                        · intro hc7
                          try simp only [decide_eq_true_eq, decide_eq_false_iff_not, Bool.not_eq_true', Bool.not_eq_false', Bool.not_eq_true, Bool.not_eq_false, Bool.and_eq_true, Bool.or_eq_true, Bool.and_eq_false_iff, Bool.or_eq_false_iff, Bool.not_not, ne_eq, Int.not_lt, Int.not_le, Decidable.not_not, beq_iff_eq, bne_iff_ne] at hc7
                          have hk7 : m.k = 6 ∧ g.pl.st.ph = 3 ∧ g.pl.au = true := ⟨by omega, (show g.st.ph = 3 by omega), (show g.au = true by first | assumption | (simp_all; done))⟩
                          refine c_seq ?_
                          refine c_region ?_
                          refine wl (wl_val hl rfl trivial (r_field hl rfl fld38_5) ?_)
                          clear hl a; intro a hl
                          refine wl (w_load hl hh rfl trivial one36 rfl (by repeat (first | exact find_head | apply find_tail | apply find_skip)) (by first | exact gtc_led _ | exact gtc_ep _ | exact gtc_vs _ | exact gtc_is _ | exact gtc_fid _ | exact gtc_ph _ | exact gtc_vd _ | exact gtc_q _ | exact gtc_rf _ | exact gtc_ys _ | exact gtc_dn _ | exact gtc_tk _ | exact gtc_au _ | exact gtc_o _ | exact gtc_off _ | rfl) ?_)
                          clear hl a; intro a hl
                          refine wl (wl_val hl rfl trivial (r_field hl rfl fld87_0) ?_)
                          clear hl a; intro a hl
                          refine wl (w_load hl hh rfl trivial one36 rfl (by repeat (first | exact find_head | apply find_tail | apply find_skip)) (by first | exact gtc_led _ | exact gtc_ep _ | exact gtc_vs _ | exact gtc_is _ | exact gtc_fid _ | exact gtc_ph _ | exact gtc_vd _ | exact gtc_q _ | exact gtc_rf _ | exact gtc_ys _ | exact gtc_dn _ | exact gtc_tk _ | exact gtc_au _ | exact gtc_o _ | exact gtc_off _ | rfl) ?_)
                          clear hl a; intro a hl
                          refine wl (wl_val hl rfl trivial (r_neq hl rfl rfl) ?_)
                          clear hl a; intro a hl
                          refine wl (wl_val hl rfl trivial (r_move hl rfl) ?_)
                          clear hl a; intro a hl
                          refine sl_split (t := 141) hl rfl ?_ ?_
                          · intro hg69; clear hl; intro hl
                            try simp only [decide_eq_true_eq, decide_eq_false_iff_not, Bool.not_eq_true', Bool.not_eq_false', Bool.not_eq_true, Bool.not_eq_false, Bool.and_eq_true, Bool.or_eq_true, Bool.and_eq_false_iff, Bool.or_eq_false_iff, Bool.not_not, ne_eq, Int.not_lt, Int.not_le, Decidable.not_not, beq_iff_eq, bne_iff_ne] at hg69
                            refine wl (wl_val hl rfl ⟨_, _, rfl, rfl, rfl⟩ (r_field hl rfl fld38_6) ?_)
                            clear hl a; intro a hl
                            refine wl (w_load hl hh rfl ⟨_, _, rfl, rfl, rfl⟩ one36 rfl (by repeat (first | exact find_head | apply find_tail | apply find_skip)) (by first | exact gtc_led _ | exact gtc_ep _ | exact gtc_vs _ | exact gtc_is _ | exact gtc_fid _ | exact gtc_ph _ | exact gtc_vd _ | exact gtc_q _ | exact gtc_rf _ | exact gtc_ys _ | exact gtc_dn _ | exact gtc_tk _ | exact gtc_au _ | exact gtc_o _ | exact gtc_off _ | rfl) ?_)
                            clear hl a; intro a hl
                            refine wl (wl_val hl rfl ⟨_, _, rfl, rfl, rfl⟩ (r_eql hl rfl rfl) ?_)
                            clear hl a; intro a hl
                            refine wl (wl_val hl rfl trivial (r_pickT hl rfl rfl) ?_)
                            clear hl a; intro a hl
                            refine w_nil ?_
                            have hl2 := hl.add (t := 0) (hl.add (t := 5) (hl.add (t := 145) (hl.nil) rfl) rfl) rfl; clear hl; have hl := hl2; clear hl2
                            refine then_normal ?_
                            refine c_cond hl rfl ?_ ?_
                            · intro hc8
                              try simp only [decide_eq_true_eq, decide_eq_false_iff_not, Bool.not_eq_true', Bool.not_eq_false', Bool.not_eq_true, Bool.not_eq_false, Bool.and_eq_true, Bool.or_eq_true, Bool.and_eq_false_iff, Bool.or_eq_false_iff, Bool.not_not, ne_eq, Int.not_lt, Int.not_le, Decidable.not_not, beq_iff_eq, bne_iff_ne] at hc8
                              have hf := dl_7y (l := l.pl) hhd hk7 ⟨(show ¬ m.r = g.st.fid by omega), by omega⟩
                              refine c_region ?_
                              refine wl (wl_val hl rfl trivial (r_move hl rfl) ?_)
                              clear hl a; intro a hl
                              refine wl (wl_val hl rfl trivial (r_move hl rfl) ?_)
                              clear hl a; intro a hl
                              refine wl (w_call hl hh rfl trivial rfl cal52 rfl (confirm_spec Z gb g l hg hl9 (sh1 m.d) hvl) (by repeat (first | exact keeps_nil | apply keeps_cons (by repeat (first | exact find_head | apply find_tail | apply find_skip)) (by first  | rfl) | exact keeps_self | exact keeps_left | apply keeps_app | apply keeps_mv | apply keeps_skip)) trivial ?_)
                              clear hl hh a w; intro vc Fc a w hR hl hh
                              obtain ⟨rfl, g', l', G9, he9, hg', hl', hp1, hp2, rfl⟩ := hR
                              try simp only [List.cons_append, List.nil_append, List.append_assoc, List.append_nil] at hh
                              refine w_nil ?_
                              have hl2 := hl.nil; clear hl; have hl := hl2; clear hl2
                              refine blk_normal ?_
                              first
                              | (have hqq := hp2; refine f_end0 (F' := GF gb g' l' (Z ++ G9)) hl hh rfl (by first | exact keeps_self | exact keeps_left) ?_; exact ⟨rfl, g', l', G9, he9, hg', hl', hp1.trans (by rw [hf]; try rfl), hp2.trans (by rw [hf]; try rfl), rfl⟩)
                              | (have hqq := hc3; refine f_end0 (F' := (gb, C (GtV.c { g with ys := orB g.ys (sh1 m.d) }) 127) :: (g.st.E ++ (g.qE ++ ((g.rb, MD (kInt .u32) g.rl g.rn) :: (g.oE ++ ((g.led, C (LdV.c l) 91) :: (l.d.E ++ Z))))))) hl hh rfl (by repeat (first | exact keeps_nil | apply keeps_cons (by repeat (first | exact find_head | apply find_tail | apply find_skip)) (by first  | rfl) | exact keeps_self | exact keeps_left | apply keeps_app | apply keeps_mv | apply keeps_skip)) ?_; exact ⟨rfl, GO.same (g' := { g with ys := orB g.ys (sh1 m.d) }) (ys_ok hg (orB_bd _ _)) hl9 (by rw [hf]; rfl) (by rw [hf]) rfl⟩)
                              | (refine f_end0 (F' := (gb, C (GtV.c g) 127) :: (g.st.E ++ (g.qE ++ ((g.rb, MD (kInt .u32) g.rl g.rn) :: (g.oE ++ ((g.led, C (LdV.c l) 91) :: (l.d.E ++ Z))))))) hl hh rfl (by repeat (first | exact keeps_nil | apply keeps_cons (by repeat (first | exact find_head | apply find_tail | apply find_skip)) (by first  | rfl) | exact keeps_self | exact keeps_left | apply keeps_app | apply keeps_mv | apply keeps_skip)) ?_; exact ⟨rfl, GO.same hg hl9 (by rw [hf]) (by rw [hf]) rfl⟩)
                            · intro hc8
                              try simp only [decide_eq_true_eq, decide_eq_false_iff_not, Bool.not_eq_true', Bool.not_eq_false', Bool.not_eq_true, Bool.not_eq_false, Bool.and_eq_true, Bool.or_eq_true, Bool.and_eq_false_iff, Bool.or_eq_false_iff, Bool.not_not, ne_eq, Int.not_lt, Int.not_le, Decidable.not_not, beq_iff_eq, bne_iff_ne] at hc8
                              have hf := dl_7n (l := l.pl) hhd hk7 (fun ⟨q1, q2⟩ => by have q1 : ¬ m.r = g.st.fid := q1; omega)
                              refine wp_skip ?_
                              refine blk_normal ?_
                              first
                              | (have hqq := hp2; refine f_end0 (F' := GF gb g' l' (Z ++ G9)) hl hh rfl (by first | exact keeps_self | exact keeps_left) ?_; exact ⟨rfl, g', l', G9, he9, hg', hl', hp1.trans (by rw [hf]; try rfl), hp2.trans (by rw [hf]; try rfl), rfl⟩)
                              | (have hqq := hc3; refine f_end0 (F' := (gb, C (GtV.c { g with ys := orB g.ys (sh1 m.d) }) 127) :: (g.st.E ++ (g.qE ++ ((g.rb, MD (kInt .u32) g.rl g.rn) :: (g.oE ++ ((g.led, C (LdV.c l) 91) :: (l.d.E ++ Z))))))) hl hh rfl (by repeat (first | exact keeps_nil | apply keeps_cons (by repeat (first | exact find_head | apply find_tail | apply find_skip)) (by first  | rfl) | exact keeps_self | exact keeps_left | apply keeps_app | apply keeps_mv | apply keeps_skip)) ?_; exact ⟨rfl, GO.same (g' := { g with ys := orB g.ys (sh1 m.d) }) (ys_ok hg (orB_bd _ _)) hl9 (by rw [hf]; rfl) (by rw [hf]) rfl⟩)
                              | (refine f_end0 (F' := (gb, C (GtV.c g) 127) :: (g.st.E ++ (g.qE ++ ((g.rb, MD (kInt .u32) g.rl g.rn) :: (g.oE ++ ((g.led, C (LdV.c l) 91) :: (l.d.E ++ Z))))))) hl hh rfl (by repeat (first | exact keeps_nil | apply keeps_cons (by repeat (first | exact find_head | apply find_tail | apply find_skip)) (by first  | rfl) | exact keeps_self | exact keeps_left | apply keeps_app | apply keeps_mv | apply keeps_skip)) ?_; exact ⟨rfl, GO.same hg hl9 (by rw [hf]) (by rw [hf]) rfl⟩)
                          · intro hg69; clear hl; intro hl
                            try simp only [decide_eq_true_eq, decide_eq_false_iff_not, Bool.not_eq_true', Bool.not_eq_false', Bool.not_eq_true, Bool.not_eq_false, Bool.and_eq_true, Bool.or_eq_true, Bool.and_eq_false_iff, Bool.or_eq_false_iff, Bool.not_not, ne_eq, Int.not_lt, Int.not_le, Decidable.not_not, beq_iff_eq, bne_iff_ne] at hg69
                            refine wl (wl_skip hl rfl ⟨_, _, rfl, rfl, rfl⟩ ?_)
                            clear hl a; intro a hl
                            refine wl (wl_skip hl rfl ⟨_, _, rfl, rfl, rfl⟩ ?_)
                            clear hl a; intro a hl
                            refine wl (wl_skip hl rfl ⟨_, _, rfl, rfl, rfl⟩ ?_)
                            clear hl a; intro a hl
                            refine wl (wl_val hl rfl trivial (r_pickF hl rfl rfl) ?_)
                            clear hl a; intro a hl
                            refine w_nil ?_
                            have hl2 := hl.add (t := 0) (hl.add (t := 5) (hl.add (t := 145) (hl.nil) rfl) rfl) rfl; clear hl; have hl := hl2; clear hl2
                            refine then_normal ?_
                            refine c_condF hl rfl ?_
                            have hf := dl_7n (l := l.pl) hhd hk7 (fun ⟨q1, q2⟩ => by have q1 : ¬ m.r = g.st.fid := q1; omega)
                            refine wp_skip ?_
                            refine blk_normal ?_
                            first
                            | (have hqq := hp2; refine f_end0 (F' := GF gb g' l' (Z ++ G9)) hl hh rfl (by first | exact keeps_self | exact keeps_left) ?_; exact ⟨rfl, g', l', G9, he9, hg', hl', hp1.trans (by rw [hf]; try rfl), hp2.trans (by rw [hf]; try rfl), rfl⟩)
                            | (have hqq := hc3; refine f_end0 (F' := (gb, C (GtV.c { g with ys := orB g.ys (sh1 m.d) }) 127) :: (g.st.E ++ (g.qE ++ ((g.rb, MD (kInt .u32) g.rl g.rn) :: (g.oE ++ ((g.led, C (LdV.c l) 91) :: (l.d.E ++ Z))))))) hl hh rfl (by repeat (first | exact keeps_nil | apply keeps_cons (by repeat (first | exact find_head | apply find_tail | apply find_skip)) (by first  | rfl) | exact keeps_self | exact keeps_left | apply keeps_app | apply keeps_mv | apply keeps_skip)) ?_; exact ⟨rfl, GO.same (g' := { g with ys := orB g.ys (sh1 m.d) }) (ys_ok hg (orB_bd _ _)) hl9 (by rw [hf]; rfl) (by rw [hf]) rfl⟩)
                            | (refine f_end0 (F' := (gb, C (GtV.c g) 127) :: (g.st.E ++ (g.qE ++ ((g.rb, MD (kInt .u32) g.rl g.rn) :: (g.oE ++ ((g.led, C (LdV.c l) 91) :: (l.d.E ++ Z))))))) hl hh rfl (by repeat (first | exact keeps_nil | apply keeps_cons (by repeat (first | exact find_head | apply find_tail | apply find_skip)) (by first  | rfl) | exact keeps_self | exact keeps_left | apply keeps_app | apply keeps_mv | apply keeps_skip)) ?_; exact ⟨rfl, GO.same hg hl9 (by rw [hf]) (by rw [hf]) rfl⟩)
                        · intro hc7
                          try simp only [decide_eq_true_eq, decide_eq_false_iff_not, Bool.not_eq_true', Bool.not_eq_false', Bool.not_eq_true, Bool.not_eq_false, Bool.and_eq_true, Bool.or_eq_true, Bool.and_eq_false_iff, Bool.or_eq_false_iff, Bool.not_not, ne_eq, Int.not_lt, Int.not_le, Decidable.not_not, beq_iff_eq, bne_iff_ne] at hc7
                          have hn4 : ¬ (m.k = 6 ∧ g.pl.st.ph = 3 ∧ g.pl.au = true) := fun ⟨q1, q2, q3⟩ => by have q2 : g.st.ph = 3 := q2; have q3 : g.au = true := q3; first | omega | (simp_all; done)
                          have hf := dl_x (l := l.pl) hhd hn1 hn2 hn3 hn4
                          refine wp_skip ?_
                          refine blk_normal ?_
                          first
                          | (have hqq := hp2; refine f_end0 (F' := GF gb g' l' (Z ++ G9)) hl hh rfl (by first | exact keeps_self | exact keeps_left) ?_; exact ⟨rfl, g', l', G9, he9, hg', hl', hp1.trans (by rw [hf]; try rfl), hp2.trans (by rw [hf]; try rfl), rfl⟩)
                          | (have hqq := hc3; refine f_end0 (F' := (gb, C (GtV.c { g with ys := orB g.ys (sh1 m.d) }) 127) :: (g.st.E ++ (g.qE ++ ((g.rb, MD (kInt .u32) g.rl g.rn) :: (g.oE ++ ((g.led, C (LdV.c l) 91) :: (l.d.E ++ Z))))))) hl hh rfl (by repeat (first | exact keeps_nil | apply keeps_cons (by repeat (first | exact find_head | apply find_tail | apply find_skip)) (by first  | rfl) | exact keeps_self | exact keeps_left | apply keeps_app | apply keeps_mv | apply keeps_skip)) ?_; exact ⟨rfl, GO.same (g' := { g with ys := orB g.ys (sh1 m.d) }) (ys_ok hg (orB_bd _ _)) hl9 (by rw [hf]; rfl) (by rw [hf]) rfl⟩)
                          | (refine f_end0 (F' := (gb, C (GtV.c g) 127) :: (g.st.E ++ (g.qE ++ ((g.rb, MD (kInt .u32) g.rl g.rn) :: (g.oE ++ ((g.led, C (LdV.c l) 91) :: (l.d.E ++ Z))))))) hl hh rfl (by repeat (first | exact keeps_nil | apply keeps_cons (by repeat (first | exact find_head | apply find_tail | apply find_skip)) (by first  | rfl) | exact keeps_self | exact keeps_left | apply keeps_app | apply keeps_mv | apply keeps_skip)) ?_; exact ⟨rfl, GO.same hg hl9 (by rw [hf]) (by rw [hf]) rfl⟩)
                      · intro hg68; clear hl; intro hl
                        try simp only [decide_eq_true_eq, decide_eq_false_iff_not, Bool.not_eq_true', Bool.not_eq_false', Bool.not_eq_true, Bool.not_eq_false, Bool.and_eq_true, Bool.or_eq_true, Bool.and_eq_false_iff, Bool.or_eq_false_iff, Bool.not_not, ne_eq, Int.not_lt, Int.not_le, Decidable.not_not, beq_iff_eq, bne_iff_ne] at hg68
                        refine wl (wl_skip hl rfl ⟨_, _, rfl, rfl, rfl⟩ ?_)
                        clear hl a; intro a hl
                        refine wl (wl_skip hl rfl ⟨_, _, rfl, rfl, rfl⟩ ?_)
                        clear hl a; intro a hl
                        refine wl (wl_skip hl rfl ⟨_, _, rfl, rfl, rfl⟩ ?_)
                        clear hl a; intro a hl
                        refine wl (wl_skip hl rfl ⟨_, _, rfl, rfl, rfl⟩ ?_)
                        clear hl a; intro a hl
                        refine wl (wl_val hl rfl trivial (r_pickF hl rfl rfl) ?_)
                        clear hl a; intro a hl
                        refine wl (wl_val hl rfl trivial (r_assign hl rfl) ?_)
                        clear hl a; intro a hl
                        refine w_nil ?_
                        have hl2 := hl.add (t := 0) (hl.add (t := 3) (hl.add (t := 4) (hl.add (t := 5) (hl.add (t := 121) (hl.nil) rfl) rfl) rfl) rfl) rfl; clear hl; have hl := hl2; clear hl2
                        refine then_normal ?_
                        refine c_condF hl rfl ?_
                        have hn4 : ¬ (m.k = 6 ∧ g.pl.st.ph = 3 ∧ g.pl.au = true) := fun ⟨q1, q2, q3⟩ => by have q2 : g.st.ph = 3 := q2; have q3 : g.au = true := q3; first | omega | (simp_all; done)
                        have hf := dl_x (l := l.pl) hhd hn1 hn2 hn3 hn4
                        refine wp_skip ?_
                        refine blk_normal ?_
                        first
                        | (have hqq := hp2; refine f_end0 (F' := GF gb g' l' (Z ++ G9)) hl hh rfl (by first | exact keeps_self | exact keeps_left) ?_; exact ⟨rfl, g', l', G9, he9, hg', hl', hp1.trans (by rw [hf]; try rfl), hp2.trans (by rw [hf]; try rfl), rfl⟩)
                        | (have hqq := hc3; refine f_end0 (F' := (gb, C (GtV.c { g with ys := orB g.ys (sh1 m.d) }) 127) :: (g.st.E ++ (g.qE ++ ((g.rb, MD (kInt .u32) g.rl g.rn) :: (g.oE ++ ((g.led, C (LdV.c l) 91) :: (l.d.E ++ Z))))))) hl hh rfl (by repeat (first | exact keeps_nil | apply keeps_cons (by repeat (first | exact find_head | apply find_tail | apply find_skip)) (by first  | rfl) | exact keeps_self | exact keeps_left | apply keeps_app | apply keeps_mv | apply keeps_skip)) ?_; exact ⟨rfl, GO.same (g' := { g with ys := orB g.ys (sh1 m.d) }) (ys_ok hg (orB_bd _ _)) hl9 (by rw [hf]; rfl) (by rw [hf]) rfl⟩)
                        | (refine f_end0 (F' := (gb, C (GtV.c g) 127) :: (g.st.E ++ (g.qE ++ ((g.rb, MD (kInt .u32) g.rl g.rn) :: (g.oE ++ ((g.led, C (LdV.c l) 91) :: (l.d.E ++ Z))))))) hl hh rfl (by repeat (first | exact keeps_nil | apply keeps_cons (by repeat (first | exact find_head | apply find_tail | apply find_skip)) (by first  | rfl) | exact keeps_self | exact keeps_left | apply keeps_app | apply keeps_mv | apply keeps_skip)) ?_; exact ⟨rfl, GO.same hg hl9 (by rw [hf]) (by rw [hf]) rfl⟩)
                    · intro hg67; clear hl; intro hl
                      try simp only [decide_eq_true_eq, decide_eq_false_iff_not, Bool.not_eq_true', Bool.not_eq_false', Bool.not_eq_true, Bool.not_eq_false, Bool.and_eq_true, Bool.or_eq_true, Bool.and_eq_false_iff, Bool.or_eq_false_iff, Bool.not_not, ne_eq, Int.not_lt, Int.not_le, Decidable.not_not, beq_iff_eq, bne_iff_ne] at hg67
                      refine wl (wl_skip hl rfl ⟨_, _, rfl, rfl, rfl⟩ ?_)
                      clear hl a; intro a hl
                      refine wl (wl_skip hl rfl ⟨_, _, rfl, rfl, rfl⟩ ?_)
                      clear hl a; intro a hl
                      refine wl (wl_skip hl rfl ⟨_, _, rfl, rfl, rfl⟩ ?_)
                      clear hl a; intro a hl
                      refine wl (wl_val hl rfl trivial (r_pickF hl rfl rfl) ?_)
                      clear hl a; intro a hl
                      refine wl (wl_val hl rfl trivial (r_move hl rfl) ?_)
                      clear hl a; intro a hl
                      refine wl (wl_skip hl rfl ⟨_, _, rfl, rfl, rfl⟩ ?_)
                      clear hl a; intro a hl
                      refine wl (wl_skip hl rfl ⟨_, _, rfl, rfl, rfl⟩ ?_)
                      clear hl a; intro a hl
                      refine wl (wl_skip hl rfl ⟨_, _, rfl, rfl, rfl⟩ ?_)
                      clear hl a; intro a hl
                      refine wl (wl_skip hl rfl ⟨_, _, rfl, rfl, rfl⟩ ?_)
                      clear hl a; intro a hl
                      refine wl (wl_val hl rfl trivial (r_pickF hl rfl rfl) ?_)
                      clear hl a; intro a hl
                      refine wl (wl_val hl rfl trivial (r_assign hl rfl) ?_)
                      clear hl a; intro a hl
                      refine w_nil ?_
                      have hl2 := hl.add (t := 0) (hl.add (t := 3) (hl.add (t := 4) (hl.add (t := 5) (hl.add (t := 121) (hl.nil) rfl) rfl) rfl) rfl) rfl; clear hl; have hl := hl2; clear hl2
                      refine then_normal ?_
                      refine c_condF hl rfl ?_
                      have hn4 : ¬ (m.k = 6 ∧ g.pl.st.ph = 3 ∧ g.pl.au = true) := fun ⟨q1, q2, q3⟩ => by have q2 : g.st.ph = 3 := q2; have q3 : g.au = true := q3; first | omega | (simp_all; done)
                      have hf := dl_x (l := l.pl) hhd hn1 hn2 hn3 hn4
                      refine wp_skip ?_
                      refine blk_normal ?_
                      first
                      | (have hqq := hp2; refine f_end0 (F' := GF gb g' l' (Z ++ G9)) hl hh rfl (by first | exact keeps_self | exact keeps_left) ?_; exact ⟨rfl, g', l', G9, he9, hg', hl', hp1.trans (by rw [hf]; try rfl), hp2.trans (by rw [hf]; try rfl), rfl⟩)
                      | (have hqq := hc3; refine f_end0 (F' := (gb, C (GtV.c { g with ys := orB g.ys (sh1 m.d) }) 127) :: (g.st.E ++ (g.qE ++ ((g.rb, MD (kInt .u32) g.rl g.rn) :: (g.oE ++ ((g.led, C (LdV.c l) 91) :: (l.d.E ++ Z))))))) hl hh rfl (by repeat (first | exact keeps_nil | apply keeps_cons (by repeat (first | exact find_head | apply find_tail | apply find_skip)) (by first  | rfl) | exact keeps_self | exact keeps_left | apply keeps_app | apply keeps_mv | apply keeps_skip)) ?_; exact ⟨rfl, GO.same (g' := { g with ys := orB g.ys (sh1 m.d) }) (ys_ok hg (orB_bd _ _)) hl9 (by rw [hf]; rfl) (by rw [hf]) rfl⟩)
                      | (refine f_end0 (F' := (gb, C (GtV.c g) 127) :: (g.st.E ++ (g.qE ++ ((g.rb, MD (kInt .u32) g.rl g.rn) :: (g.oE ++ ((g.led, C (LdV.c l) 91) :: (l.d.E ++ Z))))))) hl hh rfl (by repeat (first | exact keeps_nil | apply keeps_cons (by repeat (first | exact find_head | apply find_tail | apply find_skip)) (by first  | rfl) | exact keeps_self | exact keeps_left | apply keeps_app | apply keeps_mv | apply keeps_skip)) ?_; exact ⟨rfl, GO.same hg hl9 (by rw [hf]) (by rw [hf]) rfl⟩)
              · intro hg44; clear hl; intro hl
                try simp only [decide_eq_true_eq, decide_eq_false_iff_not, Bool.not_eq_true', Bool.not_eq_false', Bool.not_eq_true, Bool.not_eq_false, Bool.and_eq_true, Bool.or_eq_true, Bool.and_eq_false_iff, Bool.or_eq_false_iff, Bool.not_not, ne_eq, Int.not_lt, Int.not_le, Decidable.not_not, beq_iff_eq, bne_iff_ne] at hg44
                refine wl (wl_skip hl rfl ⟨_, _, rfl, rfl, rfl⟩ ?_)
                clear hl a; intro a hl
                refine wl (wl_skip hl rfl ⟨_, _, rfl, rfl, rfl⟩ ?_)
                clear hl a; intro a hl
                refine wl (wl_skip hl rfl ⟨_, _, rfl, rfl, rfl⟩ ?_)
                clear hl a; intro a hl
                refine wl (wl_val hl rfl trivial (r_pickF hl rfl rfl) ?_)
                clear hl a; intro a hl
                refine wl (wl_val hl rfl trivial (r_move hl rfl) ?_)
                clear hl a; intro a hl
                refine wl (wl_skip hl rfl ⟨_, _, rfl, rfl, rfl⟩ ?_)
                clear hl a; intro a hl
                refine wl (wl_skip hl rfl ⟨_, _, rfl, rfl, rfl⟩ ?_)
                clear hl a; intro a hl
                refine wl (wl_skip hl rfl ⟨_, _, rfl, rfl, rfl⟩ ?_)
                clear hl a; intro a hl
                refine wl (wl_skip hl rfl ⟨_, _, rfl, rfl, rfl⟩ ?_)
                clear hl a; intro a hl
                refine wl (wl_skip hl rfl ⟨_, _, rfl, rfl, rfl⟩ ?_)
                clear hl a; intro a hl
                refine wl (wl_val hl rfl trivial (r_pickF hl rfl rfl) ?_)
                clear hl a; intro a hl
                refine wl (wl_val hl rfl trivial (r_assign hl rfl) ?_)
                clear hl a; intro a hl
                refine w_nil ?_
                have hl2 := hl.add (t := 0) (hl.add (t := 3) (hl.add (t := 4) (hl.add (t := 5) (hl.add (t := 74) (hl.nil) rfl) rfl) rfl) rfl) rfl; clear hl; have hl := hl2; clear hl2
                refine then_normal ?_
                refine c_condF hl rfl ?_
                have hn2 : ¬ (m.k = 5 ∧ ¬ g.pl.st.ph = 1 ∧ g.pl.au = false) := fun ⟨q1, q2, q3⟩ => by have q2 : ¬ g.st.ph = 1 := q2; have q3 : g.au = false := q3; first | omega | (simp_all; done)
                refine c_seq ?_
                refine c_region ?_
                refine wl (wl_val hl rfl trivial (r_field hl rfl fld38_0) ?_)
                clear hl a; intro a hl
                refine wl (w_load hl hh rfl trivial one35 rfl (by repeat (first | exact find_head | apply find_tail | apply find_skip)) (by first | exact gtc_led _ | exact gtc_ep _ | exact gtc_vs _ | exact gtc_is _ | exact gtc_fid _ | exact gtc_ph _ | exact gtc_vd _ | exact gtc_q _ | exact gtc_rf _ | exact gtc_ys _ | exact gtc_dn _ | exact gtc_tk _ | exact gtc_au _ | exact gtc_o _ | exact gtc_off _ | rfl) ?_)
                clear hl a; intro a hl
                refine wl (wl_val hl rfl trivial (r_eql hl rfl rfl) ?_)
                clear hl a; intro a hl
                refine wl (wl_val hl rfl trivial (r_move hl rfl) ?_)
                clear hl a; intro a hl
                refine sl_split (t := 97) hl rfl ?_ ?_
                · intro hg70; clear hl; intro hl
                  try simp only [decide_eq_true_eq, decide_eq_false_iff_not, Bool.not_eq_true', Bool.not_eq_false', Bool.not_eq_true, Bool.not_eq_false, Bool.and_eq_true, Bool.or_eq_true, Bool.and_eq_false_iff, Bool.or_eq_false_iff, Bool.not_not, ne_eq, Int.not_lt, Int.not_le, Decidable.not_not, beq_iff_eq, bne_iff_ne] at hg70
                  refine wl (wl_val hl rfl ⟨_, _, rfl, rfl, rfl⟩ (r_field hl rfl fld87_1) ?_)
                  clear hl a; intro a hl
                  refine wl (w_load hl hh rfl ⟨_, _, rfl, rfl, rfl⟩ one76 rfl (by repeat (first | exact find_head | apply find_tail | apply find_skip)) (by first | exact gtc_led _ | exact gtc_ep _ | exact gtc_vs _ | exact gtc_is _ | exact gtc_fid _ | exact gtc_ph _ | exact gtc_vd _ | exact gtc_q _ | exact gtc_rf _ | exact gtc_ys _ | exact gtc_dn _ | exact gtc_tk _ | exact gtc_au _ | exact gtc_o _ | exact gtc_off _ | rfl) ?_)
                  clear hl a; intro a hl
                  refine wl (wl_val hl rfl ⟨_, _, rfl, rfl, rfl⟩ (r_eql hl rfl rfl) ?_)
                  clear hl a; intro a hl
                  refine wl (wl_val hl rfl trivial (r_pickT hl rfl rfl) ?_)
                  clear hl a; intro a hl
                  refine wl (wl_val hl rfl trivial (r_move hl rfl) ?_)
                  clear hl a; intro a hl
                  refine sl_split (t := 102) hl rfl ?_ ?_
                  · intro hg71; clear hl; intro hl
                    try simp only [decide_eq_true_eq, decide_eq_false_iff_not, Bool.not_eq_true', Bool.not_eq_false', Bool.not_eq_true, Bool.not_eq_false, Bool.and_eq_true, Bool.or_eq_true, Bool.and_eq_false_iff, Bool.or_eq_false_iff, Bool.not_not, ne_eq, Int.not_lt, Int.not_le, Decidable.not_not, beq_iff_eq, bne_iff_ne] at hg71
                    refine wl (wl_val hl rfl ⟨_, _, rfl, rfl, rfl⟩ (r_move hl rfl) ?_)
                    clear hl a; intro a hl
                    refine wl (wl_val hl rfl ⟨_, _, rfl, rfl, rfl⟩ (r_nilCheck hl rfl) ?_)
                    clear hl a; intro a hl
                    refine wl (wl_val hl rfl ⟨_, _, rfl, rfl, rfl⟩ (r_field hl rfl fld127_8) ?_)
                    clear hl a; intro a hl
                    refine wl (w_load hl hh rfl ⟨_, _, rfl, rfl, rfl⟩ one4 rfl (by repeat (first | exact find_head | apply find_tail | apply find_skip)) (by first | exact gtc_led _ | exact gtc_ep _ | exact gtc_vs _ | exact gtc_is _ | exact gtc_fid _ | exact gtc_ph _ | exact gtc_vd _ | exact gtc_q _ | exact gtc_rf _ | exact gtc_ys _ | exact gtc_dn _ | exact gtc_tk _ | exact gtc_au _ | exact gtc_o _ | exact gtc_off _ | rfl) ?_)
                    clear hl a; intro a hl
                    refine wl (wl_val hl rfl trivial (r_pickT hl rfl rfl) ?_)
                    clear hl a; intro a hl
                    refine wl (wl_val hl rfl trivial (r_assign hl rfl) ?_)
                    clear hl a; intro a hl
                    refine w_nil ?_
                    have hl2 := hl.add (t := 0) (hl.add (t := 3) (hl.add (t := 4) (hl.add (t := 5) (hl.add (t := 93) (hl.nil) rfl) rfl) rfl) rfl) rfl; clear hl; have hl := hl2; clear hl2
                    refine then_normal ?_
                    refine c_cond hl rfl ?_ ?_
                    · intro hc5
                      try simp only [decide_eq_true_eq, decide_eq_false_iff_not, Bool.not_eq_true', Bool.not_eq_false', Bool.not_eq_true, Bool.not_eq_false, Bool.and_eq_true, Bool.or_eq_true, Bool.and_eq_false_iff, Bool.or_eq_false_iff, Bool.not_not, ne_eq, Int.not_lt, Int.not_le, Decidable.not_not, beq_iff_eq, bne_iff_ne] at hc5
                      have hk6 : m.k = 6 ∧ g.pl.st.ph = 2 ∧ g.pl.au = true := ⟨by omega, (show g.st.ph = 2 by omega), (show g.au = true by first | assumption | (simp_all; done))⟩
                      refine c_seq ?_
                      refine c_region ?_
                      refine wl (wl_val hl rfl trivial (r_field hl rfl fld38_5) ?_)
                      clear hl a; intro a hl
                      refine wl (w_load hl hh rfl trivial one36 rfl (by repeat (first | exact find_head | apply find_tail | apply find_skip)) (by first | exact gtc_led _ | exact gtc_ep _ | exact gtc_vs _ | exact gtc_is _ | exact gtc_fid _ | exact gtc_ph _ | exact gtc_vd _ | exact gtc_q _ | exact gtc_rf _ | exact gtc_ys _ | exact gtc_dn _ | exact gtc_tk _ | exact gtc_au _ | exact gtc_o _ | exact gtc_off _ | rfl) ?_)
                      clear hl a; intro a hl
                      refine wl (wl_val hl rfl trivial (r_field hl rfl fld87_0) ?_)
                      clear hl a; intro a hl
                      refine wl (w_load hl hh rfl trivial one36 rfl (by repeat (first | exact find_head | apply find_tail | apply find_skip)) (by first | exact gtc_led _ | exact gtc_ep _ | exact gtc_vs _ | exact gtc_is _ | exact gtc_fid _ | exact gtc_ph _ | exact gtc_vd _ | exact gtc_q _ | exact gtc_rf _ | exact gtc_ys _ | exact gtc_dn _ | exact gtc_tk _ | exact gtc_au _ | exact gtc_o _ | exact gtc_off _ | rfl) ?_)
                      clear hl a; intro a hl
                      refine wl (wl_val hl rfl trivial (r_eql hl rfl rfl) ?_)
                      clear hl a; intro a hl
                      refine wl (wl_val hl rfl trivial (r_move hl rfl) ?_)
                      clear hl a; intro a hl
                      refine sl_split (t := 113) hl rfl ?_ ?_
                      · intro hg72; clear hl; intro hl
                        try simp only [decide_eq_true_eq, decide_eq_false_iff_not, Bool.not_eq_true', Bool.not_eq_false', Bool.not_eq_true, Bool.not_eq_false, Bool.and_eq_true, Bool.or_eq_true, Bool.and_eq_false_iff, Bool.or_eq_false_iff, Bool.not_not, ne_eq, Int.not_lt, Int.not_le, Decidable.not_not, beq_iff_eq, bne_iff_ne] at hg72
                        refine wl (wl_val hl rfl ⟨_, _, rfl, rfl, rfl⟩ (r_field hl rfl fld38_6) ?_)
                        clear hl a; intro a hl
                        refine wl (w_load hl hh rfl ⟨_, _, rfl, rfl, rfl⟩ one36 rfl (by repeat (first | exact find_head | apply find_tail | apply find_skip)) (by first | exact gtc_led _ | exact gtc_ep _ | exact gtc_vs _ | exact gtc_is _ | exact gtc_fid _ | exact gtc_ph _ | exact gtc_vd _ | exact gtc_q _ | exact gtc_rf _ | exact gtc_ys _ | exact gtc_dn _ | exact gtc_tk _ | exact gtc_au _ | exact gtc_o _ | exact gtc_off _ | rfl) ?_)
                        clear hl a; intro a hl
                        refine wl (wl_val hl rfl ⟨_, _, rfl, rfl, rfl⟩ (r_eql hl rfl rfl) ?_)
                        clear hl a; intro a hl
                        refine wl (wl_val hl rfl trivial (r_pickT hl rfl rfl) ?_)
                        clear hl a; intro a hl
                        refine w_nil ?_
                        have hl2 := hl.add (t := 0) (hl.add (t := 5) (hl.add (t := 117) (hl.nil) rfl) rfl) rfl; clear hl; have hl := hl2; clear hl2
                        refine then_normal ?_
                        refine c_cond hl rfl ?_ ?_
                        · intro hc6
                          try simp only [decide_eq_true_eq, decide_eq_false_iff_not, Bool.not_eq_true', Bool.not_eq_false', Bool.not_eq_true, Bool.not_eq_false, Bool.and_eq_true, Bool.or_eq_true, Bool.and_eq_false_iff, Bool.or_eq_false_iff, Bool.not_not, ne_eq, Int.not_lt, Int.not_le, Decidable.not_not, beq_iff_eq, bne_iff_ne] at hc6
                          have hf := dl_6y (l := l.pl) hhd hk6 ⟨(show m.r = g.st.fid by omega), by omega⟩
                          refine c_region ?_
                          refine wl (wl_val hl rfl trivial (r_move hl rfl) ?_)
                          clear hl a; intro a hl
                          refine wl (wl_val hl rfl trivial (r_move hl rfl) ?_)
                          clear hl a; intro a hl
                          refine wl (w_call hl hh rfl trivial rfl cal52 rfl (confirm_spec Z gb g l hg hl9 (sh1 m.d) hvl) (by repeat (first | exact keeps_nil | apply keeps_cons (by repeat (first | exact find_head | apply find_tail | apply find_skip)) (by first  | rfl) | exact keeps_self | exact keeps_left | apply keeps_app | apply keeps_mv | apply keeps_skip)) trivial ?_)
                          clear hl hh a w; intro vc Fc a w hR hl hh
                          obtain ⟨rfl, g', l', G9, he9, hg', hl', hp1, hp2, rfl⟩ := hR
                          try simp only [List.cons_append, List.nil_append, List.append_assoc, List.append_nil] at hh
                          refine w_nil ?_
                          have hl2 := hl.nil; clear hl; have hl := hl2; clear hl2
                          refine blk_normal ?_
                          first
                          | (have hqq := hp2; refine f_end0 (F' := GF gb g' l' (Z ++ G9)) hl hh rfl (by first | exact keeps_self | exact keeps_left) ?_; exact ⟨rfl, g', l', G9, he9, hg', hl', hp1.trans (by rw [hf]; try rfl), hp2.trans (by rw [hf]; try rfl), rfl⟩)
                          | (have hqq := hc3; refine f_end0 (F' := (gb, C (GtV.c { g with ys := orB g.ys (sh1 m.d) }) 127) :: (g.st.E ++ (g.qE ++ ((g.rb, MD (kInt .u32) g.rl g.rn) :: (g.oE ++ ((g.led, C (LdV.c l) 91) :: (l.d.E ++ Z))))))) hl hh rfl (by repeat (first | exact keeps_nil | apply keeps_cons (by repeat (first | exact find_head | apply find_tail | apply find_skip)) (by first  | rfl) | exact keeps_self | exact keeps_left | apply keeps_app | apply keeps_mv | apply keeps_skip)) ?_; exact ⟨rfl, GO.same (g' := { g with ys := orB g.ys (sh1 m.d) }) (ys_ok hg (orB_bd _ _)) hl9 (by rw [hf]; rfl) (by rw [hf]) rfl⟩)
                          | (refine f_end0 (F' := (gb, C (GtV.c g) 127) :: (g.st.E ++ (g.qE ++ ((g.rb, MD (kInt .u32) g.rl g.rn) :: (g.oE ++ ((g.led, C (LdV.c l) 91) :: (l.d.E ++ Z))))))) hl hh rfl (by repeat (first | exact keeps_nil | apply keeps_cons (by repeat (first | exact find_head | apply find_tail | apply find_skip)) (by first  | rfl) | exact keeps_self | exact keeps_left | apply keeps_app | apply keeps_mv | apply keeps_skip)) ?_; exact ⟨rfl, GO.same hg hl9 (by rw [hf]) (by rw [hf]) rfl⟩)
                        · intro hc6
                          try simp only [decide_eq_true_eq, decide_eq_false_iff_not, Bool.not_eq_true', Bool.not_eq_false', Bool.not_eq_true, Bool.not_eq_false, Bool.and_eq_true, Bool.or_eq_true, Bool.and_eq_false_iff, Bool.or_eq_false_iff, Bool.not_not, ne_eq, Int.not_lt, Int.not_le, Decidable.not_not, beq_iff_eq, bne_iff_ne] at hc6
                          have hf := dl_6n (l := l.pl) hhd hk6 (fun ⟨q1, q2⟩ => by have q1 : m.r = g.st.fid := q1; omega)
                          refine wp_skip ?_
                          refine blk_normal ?_
                          first
                          | (have hqq := hp2; refine f_end0 (F' := GF gb g' l' (Z ++ G9)) hl hh rfl (by first | exact keeps_self | exact keeps_left) ?_; exact ⟨rfl, g', l', G9, he9, hg', hl', hp1.trans (by rw [hf]; try rfl), hp2.trans (by rw [hf]; try rfl), rfl⟩)
                          | (have hqq := hc3; refine f_end0 (F' := (gb, C (GtV.c { g with ys := orB g.ys (sh1 m.d) }) 127) :: (g.st.E ++ (g.qE ++ ((g.rb, MD (kInt .u32) g.rl g.rn) :: (g.oE ++ ((g.led, C (LdV.c l) 91) :: (l.d.E ++ Z))))))) hl hh rfl (by repeat (first | exact keeps_nil | apply keeps_cons (by repeat (first | exact find_head | apply find_tail | apply find_skip)) (by first  | rfl) | exact keeps_self | exact keeps_left | apply keeps_app | apply keeps_mv | apply keeps_skip)) ?_; exact ⟨rfl, GO.same (g' := { g with ys := orB g.ys (sh1 m.d) }) (ys_ok hg (orB_bd _ _)) hl9 (by rw [hf]; rfl) (by rw [hf]) rfl⟩)
                          | (refine f_end0 (F' := (gb, C (GtV.c g) 127) :: (g.st.E ++ (g.qE ++ ((g.rb, MD (kInt .u32) g.rl g.rn) :: (g.oE ++ ((g.led, C (LdV.c l) 91) :: (l.d.E ++ Z))))))) hl hh rfl (by repeat (first | exact keeps_nil | apply keeps_cons (by repeat (first | exact find_head | apply find_tail | apply find_skip)) (by first  | rfl) | exact keeps_self | exact keeps_left | apply keeps_app | apply keeps_mv | apply keeps_skip)) ?_; exact ⟨rfl, GO.same hg hl9 (by rw [hf]) (by rw [hf]) rfl⟩)
                      · intro hg72; clear hl; intro hl
                        try simp only [decide_eq_true_eq, decide_eq_false_iff_not, Bool.not_eq_true', Bool.not_eq_false', Bool.not_eq_true, Bool.not_eq_false, Bool.and_eq_true, Bool.or_eq_true, Bool.and_eq_false_iff, Bool.or_eq_false_iff, Bool.not_not, ne_eq, Int.not_lt, Int.not_le, Decidable.not_not, beq_iff_eq, bne_iff_ne] at hg72
                        refine wl (wl_skip hl rfl ⟨_, _, rfl, rfl, rfl⟩ ?_)
                        clear hl a; intro a hl
                        refine wl (wl_skip hl rfl ⟨_, _, rfl, rfl, rfl⟩ ?_)
                        clear hl a; intro a hl
                        refine wl (wl_skip hl rfl ⟨_, _, rfl, rfl, rfl⟩ ?_)
                        clear hl a; intro a hl
                        refine wl (wl_val hl rfl trivial (r_pickF hl rfl rfl) ?_)
                        clear hl a; intro a hl
                        refine w_nil ?_
                        have hl2 := hl.add (t := 0) (hl.add (t := 5) (hl.add (t := 117) (hl.nil) rfl) rfl) rfl; clear hl; have hl := hl2; clear hl2
                        refine then_normal ?_
                        refine c_condF hl rfl ?_
                        have hf := dl_6n (l := l.pl) hhd hk6 (fun ⟨q1, q2⟩ => by have q1 : m.r = g.st.fid := q1; omega)
                        refine wp_skip ?_
                        refine blk_normal ?_
                        first
                        | (have hqq := hp2; refine f_end0 (F' := GF gb g' l' (Z ++ G9)) hl hh rfl (by first | exact keeps_self | exact keeps_left) ?_; exact ⟨rfl, g', l', G9, he9, hg', hl', hp1.trans (by rw [hf]; try rfl), hp2.trans (by rw [hf]; try rfl), rfl⟩)
                        | (have hqq := hc3; refine f_end0 (F' := (gb, C (GtV.c { g with ys := orB g.ys (sh1 m.d) }) 127) :: (g.st.E ++ (g.qE ++ ((g.rb, MD (kInt .u32) g.rl g.rn) :: (g.oE ++ ((g.led, C (LdV.c l) 91) :: (l.d.E ++ Z))))))) hl hh rfl (by repeat (first | exact keeps_nil | apply keeps_cons (by repeat (first | exact find_head | apply find_tail | apply find_skip)) (by first  | rfl) | exact keeps_self | exact keeps_left | apply keeps_app | apply keeps_mv | apply keeps_skip)) ?_; exact ⟨rfl, GO.same (g' := { g with ys := orB g.ys (sh1 m.d) }) (ys_ok hg (orB_bd _ _)) hl9 (by rw [hf]; rfl) (by rw [hf]) rfl⟩)
                        | (refine f_end0 (F' := (gb, C (GtV.c g) 127) :: (g.st.E ++ (g.qE ++ ((g.rb, MD (kInt .u32) g.rl g.rn) :: (g.oE ++ ((g.led, C (LdV.c l) 91) :: (l.d.E ++ Z))))))) hl hh rfl (by repeat (first | exact keeps_nil | apply keeps_cons (by repeat (first | exact find_head | apply find_tail | apply find_skip)) (by first  | rfl) | exact keeps_self | exact keeps_left | apply keeps_app | apply keeps_mv | apply keeps_skip)) ?_; exact ⟨rfl, GO.same hg hl9 (by rw [hf]) (by rw [hf]) rfl⟩)
                    · intro hc5
                      try simp only [decide_eq_true_eq, decide_eq_false_iff_not, Bool.not_eq_true', Bool.not_eq_false', Bool.not_eq_true, Bool.not_eq_false, Bool.and_eq_true, Bool.or_eq_true, Bool.and_eq_false_iff, Bool.or_eq_false_iff, Bool.not_not, ne_eq, Int.not_lt, Int.not_le, Decidable.not_not, beq_iff_eq, bne_iff_ne] at hc5
                      have hn3 : ¬ (m.k = 6 ∧ g.pl.st.ph = 2 ∧ g.pl.au = true) := fun ⟨q1, q2, q3⟩ => by have q2 : g.st.ph = 2 := q2; have q3 : g.au = true := q3; first | omega | (simp_all; done)
                      refine c_seq ?_
                      refine c_region ?_
                      refine wl (wl_val hl rfl trivial (r_field hl rfl fld38_0) ?_)
                      clear hl a; intro a hl
                      refine wl (w_load hl hh rfl trivial one35 rfl (by repeat (first | exact find_head | apply find_tail | apply find_skip)) (by first | exact gtc_led _ | exact gtc_ep _ | exact gtc_vs _ | exact gtc_is _ | exact gtc_fid _ | exact gtc_ph _ | exact gtc_vd _ | exact gtc_q _ | exact gtc_rf _ | exact gtc_ys _ | exact gtc_dn _ | exact gtc_tk _ | exact gtc_au _ | exact gtc_o _ | exact gtc_off _ | rfl) ?_)
                      clear hl a; intro a hl
                      refine wl (wl_val hl rfl trivial (r_eql hl rfl rfl) ?_)
                      clear hl a; intro a hl
                      refine wl (wl_val hl rfl trivial (r_move hl rfl) ?_)
                      clear hl a; intro a hl
                      refine sl_split (t := 125) hl rfl ?_ ?_
                      · intro hg73; clear hl; intro hl
                        try simp only [decide_eq_true_eq, decide_eq_false_iff_not, Bool.not_eq_true', Bool.not_eq_false', Bool.not_eq_true, Bool.not_eq_false, Bool.and_eq_true, Bool.or_eq_true, Bool.and_eq_false_iff, Bool.or_eq_false_iff, Bool.not_not, ne_eq, Int.not_lt, Int.not_le, Decidable.not_not, beq_iff_eq, bne_iff_ne] at hg73
                        refine wl (wl_val hl rfl ⟨_, _, rfl, rfl, rfl⟩ (r_field hl rfl fld87_1) ?_)
                        clear hl a; intro a hl
                        refine wl (w_load hl hh rfl ⟨_, _, rfl, rfl, rfl⟩ one76 rfl (by repeat (first | exact find_head | apply find_tail | apply find_skip)) (by first | exact gtc_led _ | exact gtc_ep _ | exact gtc_vs _ | exact gtc_is _ | exact gtc_fid _ | exact gtc_ph _ | exact gtc_vd _ | exact gtc_q _ | exact gtc_rf _ | exact gtc_ys _ | exact gtc_dn _ | exact gtc_tk _ | exact gtc_au _ | exact gtc_o _ | exact gtc_off _ | rfl) ?_)
                        clear hl a; intro a hl
                        refine wl (wl_val hl rfl ⟨_, _, rfl, rfl, rfl⟩ (r_eql hl rfl rfl) ?_)
                        clear hl a; intro a hl
                        refine wl (wl_val hl rfl trivial (r_pickT hl rfl rfl) ?_)
                        clear hl a; intro a hl
                        refine wl (wl_val hl rfl trivial (r_move hl rfl) ?_)
                        clear hl a; intro a hl
                        refine sl_split (t := 130) hl rfl ?_ ?_
                        · intro hg74; clear hl; intro hl
                          try simp only [decide_eq_true_eq, decide_eq_false_iff_not, Bool.not_eq_true', Bool.not_eq_false', Bool.not_eq_true, Bool.not_eq_false, Bool.and_eq_true, Bool.or_eq_true, Bool.and_eq_false_iff, Bool.or_eq_false_iff, Bool.not_not, ne_eq, Int.not_lt, Int.not_le, Decidable.not_not, beq_iff_eq, bne_iff_ne] at hg74
                          refine wl (wl_val hl rfl ⟨_, _, rfl, rfl, rfl⟩ (r_move hl rfl) ?_)
                          clear hl a; intro a hl
                          refine wl (wl_val hl rfl ⟨_, _, rfl, rfl, rfl⟩ (r_nilCheck hl rfl) ?_)
                          clear hl a; intro a hl
                          refine wl (wl_val hl rfl ⟨_, _, rfl, rfl, rfl⟩ (r_field hl rfl fld127_8) ?_)
                          clear hl a; intro a hl
                          refine wl (w_load hl hh rfl ⟨_, _, rfl, rfl, rfl⟩ one4 rfl (by repeat (first | exact find_head | apply find_tail | apply find_skip)) (by first | exact gtc_led _ | exact gtc_ep _ | exact gtc_vs _ | exact gtc_is _ | exact gtc_fid _ | exact gtc_ph _ | exact gtc_vd _ | exact gtc_q _ | exact gtc_rf _ | exact gtc_ys _ | exact gtc_dn _ | exact gtc_tk _ | exact gtc_au _ | exact gtc_o _ | exact gtc_off _ | rfl) ?_)
                          clear hl a; intro a hl
                          refine wl (wl_val hl rfl trivial (r_pickT hl rfl rfl) ?_)
                          clear hl a; intro a hl
                          refine wl (wl_val hl rfl trivial (r_assign hl rfl) ?_)
                          clear hl a; intro a hl
                          refine w_nil ?_
                          have hl2 := hl.add (t := 0) (hl.add (t := 3) (hl.add (t := 4) (hl.add (t := 5) (hl.add (t := 121) (hl.nil) rfl) rfl) rfl) rfl) rfl; clear hl; have hl := hl2; clear hl2
                          refine then_normal ?_
                          refine c_cond hl rfl ?_ ?_
                          · intro hc7
                            try simp only [decide_eq_true_eq, decide_eq_false_iff_not, Bool.not_eq_true', Bool.not_eq_false', Bool.not_eq_true, Bool.not_eq_false, Bool.and_eq_true, Bool.or_eq_true, Bool.and_eq_false_iff, Bool.or_eq_false_iff, Bool.not_not, ne_eq, Int.not_lt, Int.not_le, Decidable.not_not, beq_iff_eq, bne_iff_ne] at hc7
                            have hk7 : m.k = 6 ∧ g.pl.st.ph = 3 ∧ g.pl.au = true := ⟨by omega, (show g.st.ph = 3 by omega), (show g.au = true by first | assumption | (simp_all; done))⟩
                            refine c_seq ?_
                            refine c_region ?_
                            refine wl (wl_val hl rfl trivial (r_field hl rfl fld38_5) ?_)
                            clear hl a; intro a hl
                            refine wl (w_load hl hh rfl trivial one36 rfl (by repeat (first | exact find_head | apply find_tail | apply find_skip)) (by first | exact gtc_led _ | exact gtc_ep _ | exact gtc_vs _ | exact gtc_is _ | exact gtc_fid _ | exact gtc_ph _ | exact gtc_vd _ | exact gtc_q _ | exact gtc_rf _ | exact gtc_ys _ | exact gtc_dn _ | exact gtc_tk _ | exact gtc_au _ | exact gtc_o _ | exact gtc_off _ | rfl) ?_)
                            clear hl a; intro a hl
                            refine wl (wl_val hl rfl trivial (r_field hl rfl fld87_0) ?_)
                            clear hl a; intro a hl
                            refine wl (w_load hl hh rfl trivial one36 rfl (by repeat (first | exact find_head | apply find_tail | apply find_skip)) (by first | exact gtc_led _ | exact gtc_ep _ | exact gtc_vs _ | exact gtc_is _ | exact gtc_fid _ | exact gtc_ph _ | exact gtc_vd _ | exact gtc_q _ | exact gtc_rf _ | exact gtc_ys _ | exact gtc_dn _ | exact gtc_tk _ | exact gtc_au _ | exact gtc_o _ | exact gtc_off _ | rfl) ?_)
                            clear hl a; intro a hl
                            refine wl (wl_val hl rfl trivial (r_neq hl rfl rfl) ?_)
                            clear hl a; intro a hl
                            refine wl (wl_val hl rfl trivial (r_move hl rfl) ?_)
                            clear hl a; intro a hl
                            refine sl_split (t := 141) hl rfl ?_ ?_
                            · intro hg75; clear hl; intro hl
                              try simp only [decide_eq_true_eq, decide_eq_false_iff_not, Bool.not_eq_true', Bool.not_eq_false', Bool.not_eq_true, Bool.not_eq_false, Bool.and_eq_true, Bool.or_eq_true, Bool.and_eq_false_iff, Bool.or_eq_false_iff, Bool.not_not, ne_eq, Int.not_lt, Int.not_le, Decidable.not_not, beq_iff_eq, bne_iff_ne] at hg75
                              refine wl (wl_val hl rfl ⟨_, _, rfl, rfl, rfl⟩ (r_field hl rfl fld38_6) ?_)
                              clear hl a; intro a hl
                              refine wl (w_load hl hh rfl ⟨_, _, rfl, rfl, rfl⟩ one36 rfl (by repeat (first | exact find_head | apply find_tail | apply find_skip)) (by first | exact gtc_led _ | exact gtc_ep _ | exact gtc_vs _ | exact gtc_is _ | exact gtc_fid _ | exact gtc_ph _ | exact gtc_vd _ | exact gtc_q _ | exact gtc_rf _ | exact gtc_ys _ | exact gtc_dn _ | exact gtc_tk _ | exact gtc_au _ | exact gtc_o _ | exact gtc_off _ | rfl) ?_)
                              clear hl a; intro a hl
                              refine wl (wl_val hl rfl ⟨_, _, rfl, rfl, rfl⟩ (r_eql hl rfl rfl) ?_)
                              clear hl a; intro a hl
                              refine wl (wl_val hl rfl trivial (r_pickT hl rfl rfl) ?_)
                              clear hl a; intro a hl
                              refine w_nil ?_
                              have hl2 := hl.add (t := 0) (hl.add (t := 5) (hl.add (t := 145) (hl.nil) rfl) rfl) rfl; clear hl; have hl := hl2; clear hl2
                              refine then_normal ?_
                              refine c_cond hl rfl ?_ ?_
                              · intro hc8
                                try simp only [decide_eq_true_eq, decide_eq_false_iff_not, Bool.not_eq_true', Bool.not_eq_false', Bool.not_eq_true, Bool.not_eq_false, Bool.and_eq_true, Bool.or_eq_true, Bool.and_eq_false_iff, Bool.or_eq_false_iff, Bool.not_not, ne_eq, Int.not_lt, Int.not_le, Decidable.not_not, beq_iff_eq, bne_iff_ne] at hc8
                                have hf := dl_7y (l := l.pl) hhd hk7 ⟨(show ¬ m.r = g.st.fid by omega), by omega⟩
                                refine c_region ?_
                                refine wl (wl_val hl rfl trivial (r_move hl rfl) ?_)
                                clear hl a; intro a hl
                                refine wl (wl_val hl rfl trivial (r_move hl rfl) ?_)
                                clear hl a; intro a hl
                                refine wl (w_call hl hh rfl trivial rfl cal52 rfl (confirm_spec Z gb g l hg hl9 (sh1 m.d) hvl) (by repeat (first | exact keeps_nil | apply keeps_cons (by repeat (first | exact find_head | apply find_tail | apply find_skip)) (by first  | rfl) | exact keeps_self | exact keeps_left | apply keeps_app | apply keeps_mv | apply keeps_skip)) trivial ?_)
                                clear hl hh a w; intro vc Fc a w hR hl hh
                                obtain ⟨rfl, g', l', G9, he9, hg', hl', hp1, hp2, rfl⟩ := hR
                                try simp only [List.cons_append, List.nil_append, List.append_assoc, List.append_nil] at hh
                                refine w_nil ?_
                                have hl2 := hl.nil; clear hl; have hl := hl2; clear hl2
                                refine blk_normal ?_
                                first
                                | (have hqq := hp2; refine f_end0 (F' := GF gb g' l' (Z ++ G9)) hl hh rfl (by first | exact keeps_self | exact keeps_left) ?_; exact ⟨rfl, g', l', G9, he9, hg', hl', hp1.trans (by rw [hf]; try rfl), hp2.trans (by rw [hf]; try rfl), rfl⟩)
                                | (have hqq := hc3; refine f_end0 (F' := (gb, C (GtV.c { g with ys := orB g.ys (sh1 m.d) }) 127) :: (g.st.E ++ (g.qE ++ ((g.rb, MD (kInt .u32) g.rl g.rn) :: (g.oE ++ ((g.led, C (LdV.c l) 91) :: (l.d.E ++ Z))))))) hl hh rfl (by repeat (first | exact keeps_nil | apply keeps_cons (by repeat (first | exact find_head | apply find_tail | apply find_skip)) (by first  | rfl) | exact keeps_self | exact keeps_left | apply keeps_app | apply keeps_mv | apply keeps_skip)) ?_; exact ⟨rfl, GO.same (g' := { g with ys := orB g.ys (sh1 m.d) }) (ys_ok hg (orB_bd _ _)) hl9 (by rw [hf]; rfl) (by rw [hf]) rfl⟩)
                                | (refine f_end0 (F' := (gb, C (GtV.c g) 127) :: (g.st.E ++ (g.qE ++ ((g.rb, MD (kInt .u32) g.rl g.rn) :: (g.oE ++ ((g.led, C (LdV.c l) 91) :: (l.d.E ++ Z))))))) hl hh rfl (by repeat (first | exact keeps_nil | apply keeps_cons (by repeat (first | exact find_head | apply find_tail | apply find_skip)) (by first  | rfl) | exact keeps_self | exact keeps_left | apply keeps_app | apply keeps_mv | apply keeps_skip)) ?_; exact ⟨rfl, GO.same hg hl9 (by rw [hf]) (by rw [hf]) rfl⟩)
                              · intro hc8
                                try simp only [decide_eq_true_eq, decide_eq_false_iff_not, Bool.not_eq_true', Bool.not_eq_false', Bool.not_eq_true, Bool.not_eq_false, Bool.and_eq_true, Bool.or_eq_true, Bool.and_eq_false_iff, Bool.or_eq_false_iff, Bool.not_not, ne_eq, Int.not_lt, Int.not_le, Decidable.not_not, beq_iff_eq, bne_iff_ne] at hc8
                                have hf := dl_7n (l := l.pl) hhd hk7 (fun ⟨q1, q2⟩ => by have q1 : ¬ m.r = g.st.fid := q1; omega)
                                refine wp_skip ?_
                                refine blk_normal ?_
                                first
                                | (have hqq := hp2; refine f_end0 (F' := GF gb g' l' (Z ++ G9)) hl hh rfl (by first | exact keeps_self | exact keeps_left) ?_; exact ⟨rfl, g', l', G9, he9, hg', hl', hp1.trans (by rw [hf]; try rfl), hp2.trans (by rw [hf]; try rfl), rfl⟩)
                                | (have hqq := hc3; refine f_end0 (F' := (gb, C (GtV.c { g with ys := orB g.ys (sh1 m.d) }) 127) :: (g.st.E ++ (g.qE ++ ((g.rb, MD (kInt .u32) g.rl g.rn) :: (g.oE ++ ((g.led, C (LdV.c l) 91) :: (l.d.E ++ Z))))))) hl hh rfl (by repeat (first | exact keeps_nil | apply keeps_cons (by repeat (first | exact find_head | apply find_tail | apply find_skip)) (by first  | rfl) | exact keeps_self | exact keeps_left | apply keeps_app | apply keeps_mv | apply keeps_skip)) ?_; exact ⟨rfl, GO.same (g' := { g with ys := orB g.ys (sh1 m.d) }) (ys_ok hg (orB_bd _ _)) hl9 (by rw [hf]; rfl) (by rw [hf]) rfl⟩)
                                | (refine f_end0 (F' := (gb, C (GtV.c g) 127) :: (g.st.E ++ (g.qE ++ ((g.rb, MD (kInt .u32) g.rl g.rn) :: (g.oE ++ ((g.led, C (LdV.c l) 91) :: (l.d.E ++ Z))))))) hl hh rfl (by repeat (first | exact keeps_nil | apply keeps_cons (by repeat (first | exact find_head | apply find_tail | apply find_skip)) (by first  | rfl) | exact keeps_self | exact keeps_left | apply keeps_app | apply keeps_mv | apply keeps_skip)) ?_; exact ⟨rfl, GO.same hg hl9 (by rw [hf]) (by rw [hf]) rfl⟩)
                            · intro hg75; clear hl; intro hl
                              try simp only [decide_eq_true_eq, decide_eq_false_iff_not, Bool.not_eq_true', Bool.not_eq_false', Bool.not_eq_true, Bool.not_eq_false, Bool.and_eq_true, Bool.or_eq_true, Bool.and_eq_false_iff, Bool.or_eq_false_iff, Bool.not_not, ne_eq, Int.not_lt, Int.not_le, Decidable.not_not, beq_iff_eq, bne_iff_ne] at hg75
                              refine wl (wl_skip hl rfl ⟨_, _, rfl, rfl, rfl⟩ ?_)
                              clear hl a; intro a hl
                              refine wl (wl_skip hl rfl ⟨_, _, rfl, rfl, rfl⟩ ?_)
                              clear hl a; intro a hl
                              refine wl (wl_skip hl rfl ⟨_, _, rfl, rfl, rfl⟩ ?_)
                              clear hl a; intro a hl
                              refine wl (wl_val hl rfl trivial (r_pickF hl rfl rfl) ?_)
                              clear hl a; intro a hl
                              refine w_nil ?_
                              have hl2 := hl.add (t := 0) (hl.add (t := 5) (hl.add (t := 145) (hl.nil) rfl) rfl) rfl; clear hl; have hl := hl2; clear hl2
                              refine then_normal ?_
                              refine c_condF hl rfl ?_
                              have hf := dl_7n (l := l.pl) hhd hk7 (fun ⟨q1, q2⟩ => by have q1 : ¬ m.r = g.st.fid := q1; omega)
                              refine wp_skip ?_
                              refine blk_normal ?_
                              first
                              | (have hqq := hp2; refine f_end0 (F' := GF gb g' l' (Z ++ G9)) hl hh rfl (by first | exact keeps_self | exact keeps_left) ?_; exact ⟨rfl, g', l', G9, he9, hg', hl', hp1.trans (by rw [hf]; try rfl), hp2.trans (by rw [hf]; try rfl), rfl⟩)
                              | (have hqq := hc3; refine f_end0 (F' := (gb, C (GtV.c { g with ys := orB g.ys (sh1 m.d) }) 127) :: (g.st.E ++ (g.qE ++ ((g.rb, MD (kInt .u32) g.rl g.rn) :: (g.oE ++ ((g.led, C (LdV.c l) 91) :: (l.d.E ++ Z))))))) hl hh rfl (by repeat (first | exact keeps_nil | apply keeps_cons (by repeat (first | exact find_head | apply find_tail | apply find_skip)) (by first  | rfl) | exact keeps_self | exact keeps_left | apply keeps_app | apply keeps_mv | apply keeps_skip)) ?_; exact ⟨rfl, GO.same (g' := { g with ys := orB g.ys (sh1 m.d) }) (ys_ok hg (orB_bd _ _)) hl9 (by rw [hf]; rfl) (by rw [hf]) rfl⟩)
                              | (refine f_end0 (F' := (gb, C (GtV.c g) 127) :: (g.st.E ++ (g.qE ++ ((g.rb, MD (kInt .u32) g.rl g.rn) :: (g.oE ++ ((g.led, C (LdV.c l) 91) :: (l.d.E ++ Z))))))) hl hh rfl (by repeat (first | exact keeps_nil | apply keeps_cons (by repeat (first | exact find_head | apply find_tail | apply find_skip)) (by first  | rfl) | exact keeps_self | exact keeps_left | apply keeps_app | apply keeps_mv | apply keeps_skip)) ?_; exact ⟨rfl, GO.same hg hl9 (by rw [hf]) (by rw [hf]) rfl⟩)
                          · intro hc7
                            try simp only [decide_eq_true_eq, decide_eq_false_iff_not, Bool.not_eq_true', Bool.not_eq_false', Bool.not_eq_true, Bool.not_eq_false, Bool.and_eq_true, Bool.or_eq_true, Bool.and_eq_false_iff, Bool.or_eq_false_iff, Bool.not_not, ne_eq, Int.not_lt, Int.not_le, Decidable.not_not, beq_iff_eq, bne_iff_ne] at hc7
                            have hn4 : ¬ (m.k = 6 ∧ g.pl.st.ph = 3 ∧ g.pl.au = true) := fun ⟨q1, q2, q3⟩ => by have q2 : g.st.ph = 3 := q2; have q3 : g.au = true := q3; first | omega | (simp_all; done)
                            have hf := dl_x (l := l.pl) hhd hn1 hn2 hn3 hn4
                            refine wp_skip ?_
                            refine blk_normal ?_
                            first
                            | (have hqq := hp2; refine f_end0 (F' := GF gb g' l' (Z ++ G9)) hl hh rfl (by first | exact keeps_self | exact keeps_left) ?_; exact ⟨rfl, g', l', G9, he9, hg', hl', hp1.trans (by rw [hf]; try rfl), hp2.trans (by rw [hf]; try rfl), rfl⟩)
                            | (have hqq := hc3; refine f_end0 (F' := (gb, C (GtV.c { g with ys := orB g.ys (sh1 m.d) }) 127) :: (g.st.E ++ (g.qE ++ ((g.rb, MD (kInt .u32) g.rl g.rn) :: (g.oE ++ ((g.led, C (LdV.c l) 91) :: (l.d.E ++ Z))))))) hl hh rfl (by repeat (first | exact keeps_nil | apply keeps_cons (by repeat (first | exact find_head | apply find_tail | apply find_skip)) (by first  | rfl) | exact keeps_self | exact keeps_left | apply keeps_app | apply keeps_mv | apply keeps_skip)) ?_; exact ⟨rfl, GO.same (g' := { g with ys := orB g.ys (sh1 m.d) }) (ys_ok hg (orB_bd _ _)) hl9 (by rw [hf]; rfl) (by rw [hf]) rfl⟩)
                            | (refine f_end0 (F' := (gb, C (GtV.c g) 127) :: (g.st.E ++ (g.qE ++ ((g.rb, MD (kInt .u32) g.rl g.rn) :: (g.oE ++ ((g.led, C (LdV.c l) 91) :: (l.d.E ++ Z))))))) hl hh rfl (by repeat (first | exact keeps_nil | apply keeps_cons (by repeat (first | exact find_head | apply find_tail | apply find_skip)) (by first  | rfl) | exact keeps_self | exact keeps_left | apply keeps_app | apply keeps_mv | apply keeps_skip)) ?_; exact ⟨rfl, GO.same hg hl9 (by rw [hf]) (by rw [hf]) rfl⟩)
                        · intro hg74; clear hl; intro hl
                          try simp only [decide_eq_true_eq, decide_eq_false_iff_not, Bool.not_eq_true', Bool.not_eq_false', Bool.not_eq_true, Bool.not_eq_false, Bool.and_eq_true, Bool.or_eq_true, Bool.and_eq_false_iff, Bool.or_eq_false_iff, Bool.not_not, ne_eq, Int.not_lt, Int.not_le, Decidable.not_not, beq_iff_eq, bne_iff_ne] at hg74
                          refine wl (wl_skip hl rfl ⟨_, _, rfl, rfl, rfl⟩ ?_)
                          clear hl a; intro a hl
                          refine wl (wl_skip hl rfl ⟨_, _, rfl, rfl, rfl⟩ ?_)
                          clear hl a; intro a hl
                          refine wl (wl_skip hl rfl ⟨_, _, rfl, rfl, rfl⟩ ?_)
                          clear hl a; intro a hl
                          refine wl (wl_skip hl rfl ⟨_, _, rfl, rfl, rfl⟩ ?_)
                          clear hl a; intro a hl
                          refine wl (wl_val hl rfl trivial (r_pickF hl rfl rfl) ?_)
                          clear hl a; intro a hl
                          refine wl (wl_val hl rfl trivial (r_assign hl rfl) ?_)
                          clear hl a; intro a hl
                          refine w_nil ?_
                          have hl2 := hl.add (t := 0) (hl.add (t := 3) (hl.add (t := 4) (hl.add (t := 5) (hl.add (t := 121) (hl.nil) rfl) rfl) rfl) rfl) rfl; clear hl; have hl := hl2; clear hl2
                          refine then_normal ?_
                          refine c_condF hl rfl ?_
                          have hn4 : ¬ (m.k = 6 ∧ g.pl.st.ph = 3 ∧ g.pl.au = true) := fun ⟨q1, q2, q3⟩ => by have q2 : g.st.ph = 3 := q2; have q3 : g.au = true := q3; first | omega | (simp_all; done)
                          have hf := dl_x (l := l.pl) hhd hn1 hn2 hn3 hn4
                          refine wp_skip ?_
                          refine blk_normal ?_
                          first
                          | (have hqq := hp2; refine f_end0 (F' := GF gb g' l' (Z ++ G9)) hl hh rfl (by first | exact keeps_self | exact keeps_left) ?_; exact ⟨rfl, g', l', G9, he9, hg', hl', hp1.trans (by rw [hf]; try rfl), hp2.trans (by rw [hf]; try rfl), rfl⟩)
                          | (have hqq := hc3; refine f_end0 (F' := (gb, C (GtV.c { g with ys := orB g.ys (sh1 m.d) }) 127) :: (g.st.E ++ (g.qE ++ ((g.rb, MD (kInt .u32) g.rl g.rn) :: (g.oE ++ ((g.led, C (LdV.c l) 91) :: (l.d.E ++ Z))))))) hl hh rfl (by repeat (first | exact keeps_nil | apply keeps_cons (by repeat (first | exact find_head | apply find_tail | apply find_skip)) (by first  | rfl) | exact keeps_self | exact keeps_left | apply keeps_app | apply keeps_mv | apply keeps_skip)) ?_; exact ⟨rfl, GO.same (g' := { g with ys := orB g.ys (sh1 m.d) }) (ys_ok hg (orB_bd _ _)) hl9 (by rw [hf]; rfl) (by rw [hf]) rfl⟩)
                          | (refine f_end0 (F' := (gb, C (GtV.c g) 127) :: (g.st.E ++ (g.qE ++ ((g.rb, MD (kInt .u32) g.rl g.rn) :: (g.oE ++ ((g.led, C (LdV.c l) 91) :: (l.d.E ++ Z))))))) hl hh rfl (by repeat (first | exact keeps_nil | apply keeps_cons (by repeat (first | exact find_head | apply find_tail | apply find_skip)) (by first  | rfl) | exact keeps_self | exact keeps_left | apply keeps_app | apply keeps_mv | apply keeps_skip)) ?_; exact ⟨rfl, GO.same hg hl9 (by rw [hf]) (by rw [hf]) rfl⟩)
                      · intro hg73; clear hl; intro hl
                        try simp only [decide_eq_true_eq, decide_eq_false_iff_not, Bool.not_eq_true', Bool.not_eq_false', Bool.not_eq_true, Bool.not_eq_false, Bool.and_eq_true, Bool.or_eq_true, Bool.and_eq_false_iff, Bool.or_eq_false_iff, Bool.not_not, ne_eq, Int.not_lt, Int.not_le, Decidable.not_not, beq_iff_eq, bne_iff_ne] at hg73
                        refine wl (wl_skip hl rfl ⟨_, _, rfl, rfl, rfl⟩ ?_)
                        clear hl a; intro a hl
                        refine wl (wl_skip hl rfl ⟨_, _, rfl, rfl, rfl⟩ ?_)
                        clear hl a; intro a hl
                        refine wl (wl_skip hl rfl ⟨_, _, rfl, rfl, rfl⟩ ?_)
                        clear hl a; intro a hl
                        refine wl (wl_val hl rfl trivial (r_pickF hl rfl rfl) ?_)
                        clear hl a; intro a hl
                        refine wl (wl_val hl rfl trivial (r_move hl rfl) ?_)
                        clear hl a; intro a hl
                        refine wl (wl_skip hl rfl ⟨_, _, rfl, rfl, rfl⟩ ?_)
                        clear hl a; intro a hl
                        refine wl (wl_skip hl rfl ⟨_, _, rfl, rfl, rfl⟩ ?_)
                        clear hl a; intro a hl
                        refine wl (wl_skip hl rfl ⟨_, _, rfl, rfl, rfl⟩ ?_)
                        clear hl a; intro a hl
                        refine wl (wl_skip hl rfl ⟨_, _, rfl, rfl, rfl⟩ ?_)
                        clear hl a; intro a hl
                        refine wl (wl_val hl rfl trivial (r_pickF hl rfl rfl) ?_)
                        clear hl a; intro a hl
                        refine wl (wl_val hl rfl trivial (r_assign hl rfl) ?_)
                        clear hl a; intro a hl
                        refine w_nil ?_
                        have hl2 := hl.add (t := 0) (hl.add (t := 3) (hl.add (t := 4) (hl.add (t := 5) (hl.add (t := 121) (hl.nil) rfl) rfl) rfl) rfl) rfl; clear hl; have hl := hl2; clear hl2
                        refine then_normal ?_
                        refine c_condF hl rfl ?_
                        have hn4 : ¬ (m.k = 6 ∧ g.pl.st.ph = 3 ∧ g.pl.au = true) := fun ⟨q1, q2, q3⟩ => by have q2 : g.st.ph = 3 := q2; have q3 : g.au = true := q3; first | omega | (simp_all; done)
                        have hf := dl_x (l := l.pl) hhd hn1 hn2 hn3 hn4
                        refine wp_skip ?_
                        refine blk_normal ?_
                        first
                        | (have hqq := hp2; refine f_end0 (F' := GF gb g' l' (Z ++ G9)) hl hh rfl (by first | exact keeps_self | exact keeps_left) ?_; exact ⟨rfl, g', l', G9, he9, hg', hl', hp1.trans (by rw [hf]; try rfl), hp2.trans (by rw [hf]; try rfl), rfl⟩)
                        | (have hqq := hc3; refine f_end0 (F' := (gb, C (GtV.c { g with ys := orB g.ys (sh1 m.d) }) 127) :: (g.st.E ++ (g.qE ++ ((g.rb, MD (kInt .u32) g.rl g.rn) :: (g.oE ++ ((g.led, C (LdV.c l) 91) :: (l.d.E ++ Z))))))) hl hh rfl (by repeat (first | exact keeps_nil | apply keeps_cons (by repeat (first | exact find_head | apply find_tail | apply find_skip)) (by first  | rfl) | exact keeps_self | exact keeps_left | apply keeps_app | apply keeps_mv | apply keeps_skip)) ?_; exact ⟨rfl, GO.same (g' := { g with ys := orB g.ys (sh1 m.d) }) (ys_ok hg (orB_bd _ _)) hl9 (by rw [hf]; rfl) (by rw [hf]) rfl⟩)
                        | (refine f_end0 (F' := (gb, C (GtV.c g) 127) :: (g.st.E ++ (g.qE ++ ((g.rb, MD (kInt .u32) g.rl g.rn) :: (g.oE ++ ((g.led, C (LdV.c l) 91) :: (l.d.E ++ Z))))))) hl hh rfl (by repeat (first | exact keeps_nil | apply keeps_cons (by repeat (first | exact find_head | apply find_tail | apply find_skip)) (by first  | rfl) | exact keeps_self | exact keeps_left | apply keeps_app | apply keeps_mv | apply keeps_skip)) ?_; exact ⟨rfl, GO.same hg hl9 (by rw [hf]) (by rw [hf]) rfl⟩)
                  · intro hg71; clear hl; intro hl
                    try simp only [decide_eq_true_eq, decide_eq_false_iff_not, Bool.not_eq_true', Bool.not_eq_false', Bool.not_eq_true, Bool.not_eq_false, Bool.and_eq_true, Bool.or_eq_true, Bool.and_eq_false_iff, Bool.or_eq_false_iff, Bool.not_not, ne_eq, Int.not_lt, Int.not_le, Decidable.not_not, beq_iff_eq, bne_iff_ne] at hg71
                    refine wl (wl_skip hl rfl ⟨_, _, rfl, rfl, rfl⟩ ?_)
                    clear hl a; intro a hl
                    refine wl (wl_skip hl rfl ⟨_, _, rfl, rfl, rfl⟩ ?_)
                    clear hl a; intro a hl
                    refine wl (wl_skip hl rfl ⟨_, _, rfl, rfl, rfl⟩ ?_)
                    clear hl a; intro a hl
                    refine wl (wl_skip hl rfl ⟨_, _, rfl, rfl, rfl⟩ ?_)
                    clear hl a; intro a hl
                    refine wl (wl_val hl rfl trivial (r_pickF hl rfl rfl) ?_)
                    clear hl a; intro a hl
                    refine wl (wl_val hl rfl trivial (r_assign hl rfl) ?_)
                    clear hl a; intro a hl
                    refine w_nil ?_
                    have hl2 := hl.add (t := 0) (hl.add (t := 3) (hl.add (t := 4) (hl.add (t := 5) (hl.add (t := 93) (hl.nil) rfl) rfl) rfl) rfl) rfl; clear hl; have hl := hl2; clear hl2
                    refine then_normal ?_
                    refine c_condF hl rfl ?_
                    have hn3 : ¬ (m.k = 6 ∧ g.pl.st.ph = 2 ∧ g.pl.au = true) := fun ⟨q1, q2, q3⟩ => by have q2 : g.st.ph = 2 := q2; have q3 : g.au = true := q3; first | omega | (simp_all; done)
                    refine c_seq ?_
                    refine c_region ?_
                    refine wl (wl_val hl rfl trivial (r_field hl rfl fld38_0) ?_)
                    clear hl a; intro a hl
                    refine wl (w_load hl hh rfl trivial one35 rfl (by repeat (first | exact find_head | apply find_tail | apply find_skip)) (by first | exact gtc_led _ | exact gtc_ep _ | exact gtc_vs _ | exact gtc_is _ | exact gtc_fid _ | exact gtc_ph _ | exact gtc_vd _ | exact gtc_q _ | exact gtc_rf _ | exact gtc_ys _ | exact gtc_dn _ | exact gtc_tk _ | exact gtc_au _ | exact gtc_o _ | exact gtc_off _ | rfl) ?_)
                    clear hl a; intro a hl
                    refine wl (wl_val hl rfl trivial (r_eql hl rfl rfl) ?_)
                    clear hl a; intro a hl
                    refine wl (wl_val hl rfl trivial (r_move hl rfl) ?_)
                    clear hl a; intro a hl
                    refine sl_split (t := 125) hl rfl ?_ ?_
                    · intro hg76; clear hl; intro hl
                      try simp only [decide_eq_true_eq, decide_eq_false_iff_not, Bool.not_eq_true', Bool.not_eq_false', Bool.not_eq_true, Bool.not_eq_false, Bool.and_eq_true, Bool.or_eq_true, Bool.and_eq_false_iff, Bool.or_eq_false_iff, Bool.not_not, ne_eq, Int.not_lt, Int.not_le, Decidable.not_not, beq_iff_eq, bne_iff_ne] at hg76
                      refine wl (wl_val hl rfl ⟨_, _, rfl, rfl, rfl⟩ (r_field hl rfl fld87_1) ?_)
                      clear hl a; intro a hl
                      refine wl (w_load hl hh rfl ⟨_, _, rfl, rfl, rfl⟩ one76 rfl (by repeat (first | exact find_head | apply find_tail | apply find_skip)) (by first | exact gtc_led _ | exact gtc_ep _ | exact gtc_vs _ | exact gtc_is _ | exact gtc_fid _ | exact gtc_ph _ | exact gtc_vd _ | exact gtc_q _ | exact gtc_rf _ | exact gtc_ys _ | exact gtc_dn _ | exact gtc_tk _ | exact gtc_au _ | exact gtc_o _ | exact gtc_off _ | rfl) ?_)
                      clear hl a; intro a hl
                      refine wl (wl_val hl rfl ⟨_, _, rfl, rfl, rfl⟩ (r_eql hl rfl rfl) ?_)
                      clear hl a; intro a hl
                      refine wl (wl_val hl rfl trivial (r_pickT hl rfl rfl) ?_)
                      clear hl a; intro a hl
                      refine wl (wl_val hl rfl trivial (r_move hl rfl) ?_)
                      clear hl a; intro a hl
                      refine sl_split (t := 130) hl rfl ?_ ?_
                      · intro hg77; clear hl; intro hl
                        try simp only [decide_eq_true_eq, decide_eq_false_iff_not, Bool.not_eq_true', Bool.not_eq_false', Bool.not_eq_true, Bool.not_eq_false, Bool.and_eq_true, Bool.or_eq_true, Bool.and_eq_false_iff, Bool.or_eq_false_iff, Bool.not_not, ne_eq, Int.not_lt, Int.not_le, Decidable.not_not, beq_iff_eq, bne_iff_ne] at hg77
                        refine wl (wl_val hl rfl ⟨_, _, rfl, rfl, rfl⟩ (r_move hl rfl) ?_)
                        clear hl a; intro a hl
                        refine wl (wl_val hl rfl ⟨_, _, rfl, rfl, rfl⟩ (r_nilCheck hl rfl) ?_)
                        clear hl a; intro a hl
                        refine wl (wl_val hl rfl ⟨_, _, rfl, rfl, rfl⟩ (r_field hl rfl fld127_8) ?_)
                        clear hl a; intro a hl
                        refine wl (w_load hl hh rfl ⟨_, _, rfl, rfl, rfl⟩ one4 rfl (by repeat (first | exact find_head | apply find_tail | apply find_skip)) (by first | exact gtc_led _ | exact gtc_ep _ | exact gtc_vs _ | exact gtc_is _ | exact gtc_fid _ | exact gtc_ph _ | exact gtc_vd _ | exact gtc_q _ | exact gtc_rf _ | exact gtc_ys _ | exact gtc_dn _ | exact gtc_tk _ | exact gtc_au _ | exact gtc_o _ | exact gtc_off _ | rfl) ?_)
                        clear hl a; intro a hl
                        refine wl (wl_val hl rfl trivial (r_pickT hl rfl rfl) ?_)
                        clear hl a; intro a hl
                        refine wl (wl_val hl rfl trivial (r_assign hl rfl) ?_)
                        clear hl a; intro a hl
                        refine w_nil ?_
                        have hl2 := hl.add (t := 0) (hl.add (t := 3) (hl.add (t := 4) (hl.add (t := 5) (hl.add (t := 121) (hl.nil) rfl) rfl) rfl) rfl) rfl; clear hl; have hl := hl2; clear hl2
                        refine then_normal ?_
                        refine c_cond hl rfl ?_ ?_
                        · intro hc7
                          try simp only [decide_eq_true_eq, decide_eq_false_iff_not, Bool.not_eq_true', Bool.not_eq_false', Bool.not_eq_true, Bool.not_eq_false, Bool.and_eq_true, Bool.or_eq_true, Bool.and_eq_false_iff, Bool.or_eq_false_iff, Bool.not_not, ne_eq, Int.not_lt, Int.not_le, Decidable.not_not, beq_iff_eq, bne_iff_ne] at hc7
                          have hk7 : m.k = 6 ∧ g.pl.st.ph = 3 ∧ g.pl.au = true := ⟨by omega, (show g.st.ph = 3 by omega), (show g.au = true by first | assumption | (simp_all; done))⟩
                          refine c_seq ?_
                          refine c_region ?_
                          refine wl (wl_val hl rfl trivial (r_field hl rfl fld38_5) ?_)
                          clear hl a; intro a hl
                          refine wl (w_load hl hh rfl trivial one36 rfl (by repeat (first | exact find_head | apply find_tail | apply find_skip)) (by first | exact gtc_led _ | exact gtc_ep _ | exact gtc_vs _ | exact gtc_is _ | exact gtc_fid _ | exact gtc_ph _ | exact gtc_vd _ | exact gtc_q _ | exact gtc_rf _ | exact gtc_ys _ | exact gtc_dn _ | exact gtc_tk _ | exact gtc_au _ | exact gtc_o _ | exact gtc_off _ | rfl) ?_)
                          clear hl a; intro a hl
                          refine wl (wl_val hl rfl trivial (r_field hl rfl fld87_0) ?_)
                          clear hl a; intro a hl
                          refine wl (w_load hl hh rfl trivial one36 rfl (by repeat (first | exact find_head | apply find_tail | apply find_skip)) (by first | exact gtc_led _ | exact gtc_ep _ | exact gtc_vs _ | exact gtc_is _ | exact gtc_fid _ | exact gtc_ph _ | exact gtc_vd _ | exact gtc_q _ | exact gtc_rf _ | exact gtc_ys _ | exact gtc_dn _ | exact gtc_tk _ | exact gtc_au _ | exact gtc_o _ | exact gtc_off _ | rfl) ?_)
                          clear hl a; intro a hl
                          refine wl (wl_val hl rfl trivial (r_neq hl rfl rfl) ?_)
                          clear hl a; intro a hl
                          refine wl (wl_val hl rfl trivial (r_move hl rfl) ?_)
                          clear hl a; intro a hl
                          refine sl_split (t := 141) hl rfl ?_ ?_
                          · intro hg78; clear hl; intro hl
                            try simp only [decide_eq_true_eq, decide_eq_false_iff_not, Bool.not_eq_true', Bool.not_eq_false', Bool.not_eq_true, Bool.not_eq_false, Bool.and_eq_true, Bool.or_eq_true, Bool.and_eq_false_iff, Bool.or_eq_false_iff, Bool.not_not, ne_eq, Int.not_lt, Int.not_le, Decidable.not_not, beq_iff_eq, bne_iff_ne] at hg78
                            refine wl (wl_val hl rfl ⟨_, _, rfl, rfl, rfl⟩ (r_field hl rfl fld38_6) ?_)
                            clear hl a; intro a hl
                            refine wl (w_load hl hh rfl ⟨_, _, rfl, rfl, rfl⟩ one36 rfl (by repeat (first | exact find_head | apply find_tail | apply find_skip)) (by first | exact gtc_led _ | exact gtc_ep _ | exact gtc_vs _ | exact gtc_is _ | exact gtc_fid _ | exact gtc_ph _ | exact gtc_vd _ | exact gtc_q _ | exact gtc_rf _ | exact gtc_ys _ | exact gtc_dn _ | exact gtc_tk _ | exact gtc_au _ | exact gtc_o _ | exact gtc_off _ | rfl) ?_)
                            clear hl a; intro a hl
                            refine wl (wl_val hl rfl ⟨_, _, rfl, rfl, rfl⟩ (r_eql hl rfl rfl) ?_)
                            clear hl a; intro a hl
                            refine wl (wl_val hl rfl trivial (r_pickT hl rfl rfl) ?_)
                            clear hl a; intro a hl
                            refine w_nil ?_
                            have hl2 := hl.add (t := 0) (hl.add (t := 5) (hl.add (t := 145) (hl.nil) rfl) rfl) rfl; clear hl; have hl := hl2; clear hl2
                            refine then_normal ?_
                            refine c_cond hl rfl ?_ ?_
                            · intro hc8
                              try simp only [decide_eq_true_eq, decide_eq_false_iff_not, Bool.not_eq_true', Bool.not_eq_false', Bool.not_eq_true, Bool.not_eq_false, Bool.and_eq_true, Bool.or_eq_true, Bool.and_eq_false_iff, Bool.or_eq_false_iff, Bool.not_not, ne_eq, Int.not_lt, Int.not_le, Decidable.not_not, beq_iff_eq, bne_iff_ne] at hc8
                              have hf := dl_7y (l := l.pl) hhd hk7 ⟨(show ¬ m.r = g.st.fid by omega), by omega⟩
                              refine c_region ?_
                              refine wl (wl_val hl rfl trivial (r_move hl rfl) ?_)
                              clear hl a; intro a hl
                              refine wl (wl_val hl rfl trivial (r_move hl rfl) ?_)
                              clear hl a; intro a hl
                              refine wl (w_call hl hh rfl trivial rfl cal52 rfl (confirm_spec Z gb g l hg hl9 (sh1 m.d) hvl) (by repeat (first | exact keeps_nil | apply keeps_cons (by repeat (first | exact find_head | apply find_tail | apply find_skip)) (by first  | rfl) | exact keeps_self | exact keeps_left | apply keeps_app | apply keeps_mv | apply keeps_skip)) trivial ?_)
                              clear hl hh a w; intro vc Fc a w hR hl hh
                              obtain ⟨rfl, g', l', G9, he9, hg', hl', hp1, hp2, rfl⟩ := hR
                              try simp only [List.cons_append, List.nil_append, List.append_assoc, List.append_nil] at hh
                              refine w_nil ?_
                              have hl2 := hl.nil; clear hl; have hl := hl2; clear hl2
                              refine blk_normal ?_
                              first
                              | (have hqq := hp2; refine f_end0 (F' := GF gb g' l' (Z ++ G9)) hl hh rfl (by first | exact keeps_self | exact keeps_left) ?_; exact ⟨rfl, g', l', G9, he9, hg', hl', hp1.trans (by rw [hf]; try rfl), hp2.trans (by rw [hf]; try rfl), rfl⟩)
                              | (have hqq := hc3; refine f_end0 (F' := (gb, C (GtV.c { g with ys := orB g.ys (sh1 m.d) }) 127) :: (g.st.E ++ (g.qE ++ ((g.rb, MD (kInt .u32) g.rl g.rn) :: (g.oE ++ ((g.led, C (LdV.c l) 91) :: (l.d.E ++ Z))))))) hl hh rfl (by repeat (first | exact keeps_nil | apply keeps_cons (by repeat (first | exact find_head | apply find_tail | apply find_skip)) (by first  | rfl) | exact keeps_self | exact keeps_left | apply keeps_app | apply keeps_mv | apply keeps_skip)) ?_; exact ⟨rfl, GO.same (g' := { g with ys := orB g.ys (sh1 m.d) }) (ys_ok hg (orB_bd _ _)) hl9 (by rw [hf]; rfl) (by rw [hf]) rfl⟩)
                              | (refine f_end0 (F' := (gb, C (GtV.c g) 127) :: (g.st.E ++ (g.qE ++ ((g.rb, MD (kInt .u32) g.rl g.rn) :: (g.oE ++ ((g.led, C (LdV.c l) 91) :: (l.d.E ++ Z))))))) hl hh rfl (by repeat (first | exact keeps_nil | apply keeps_cons (by repeat (first | exact find_head | apply find_tail | apply find_skip)) (by first  | rfl) | exact keeps_self | exact keeps_left | apply keeps_app | apply keeps_mv | apply keeps_skip)) ?_; exact ⟨rfl, GO.same hg hl9 (by rw [hf]) (by rw [hf]) rfl⟩)
                            · intro hc8
                              try simp only [decide_eq_true_eq, decide_eq_false_iff_not, Bool.not_eq_true', Bool.not_eq_false', Bool.not_eq_true, Bool.not_eq_false, Bool.and_eq_true, Bool.or_eq_true, Bool.and_eq_false_iff, Bool.or_eq_false_iff, Bool.not_not, ne_eq, Int.not_lt, Int.not_le, Decidable.not_not, beq_iff_eq, bne_iff_ne] at hc8
                              have hf := dl_7n (l := l.pl) hhd hk7 (fun ⟨q1, q2⟩ => by have q1 : ¬ m.r = g.st.fid := q1; omega)
                              refine wp_skip ?_
                              refine blk_normal ?_
                              first
                              | (have hqq := hp2; refine f_end0 (F' := GF gb g' l' (Z ++ G9)) hl hh rfl (by first | exact keeps_self | exact keeps_left) ?_; exact ⟨rfl, g', l', G9, he9, hg', hl', hp1.trans (by rw [hf]; try rfl), hp2.trans (by rw [hf]; try rfl), rfl⟩)
                              | (have hqq := hc3; refine f_end0 (F' := (gb, C (GtV.c { g with ys := orB g.ys (sh1 m.d) }) 127) :: (g.st.E ++ (g.qE ++ ((g.rb, MD (kInt .u32) g.rl g.rn) :: (g.oE ++ ((g.led, C (LdV.c l) 91) :: (l.d.E ++ Z))))))) hl hh rfl (by repeat (first | exact keeps_nil | apply keeps_cons (by repeat (first | exact find_head | apply find_tail | apply find_skip)) (by first  | rfl) | exact keeps_self | exact keeps_left | apply keeps_app | apply keeps_mv | apply keeps_skip)) ?_; exact ⟨rfl, GO.same (g' := { g with ys := orB g.ys (sh1 m.d) }) (ys_ok hg (orB_bd _ _)) hl9 (by rw [hf]; rfl) (by rw [hf]) rfl⟩)
                              | (refine f_end0 (F' := (gb, C (GtV.c g) 127) :: (g.st.E ++ (g.qE ++ ((g.rb, MD (kInt .u32) g.rl g.rn) :: (g.oE ++ ((g.led, C (LdV.c l) 91) :: (l.d.E ++ Z))))))) hl hh rfl (by repeat (first | exact keeps_nil | apply keeps_cons (by repeat (first | exact find_head | apply find_tail | apply find_skip)) (by first  | rfl) | exact keeps_self | exact keeps_left | apply keeps_app | apply keeps_mv | apply keeps_skip)) ?_; exact ⟨rfl, GO.same hg hl9 (by rw [hf]) (by rw [hf]) rfl⟩)
                          · intro hg78; clear hl; intro hl
                            try simp only [decide_eq_true_eq, decide_eq_false_iff_not, Bool.not_eq_true', Bool.not_eq_false', Bool.not_eq_true, Bool.not_eq_false, Bool.and_eq_true, Bool.or_eq_true, Bool.and_eq_false_iff, Bool.or_eq_false_iff, Bool.not_not, ne_eq, Int.not_lt, Int.not_le, Decidable.not_not, beq_iff_eq, bne_iff_ne] at hg78
                            refine wl (wl_skip hl rfl ⟨_, _, rfl, rfl, rfl⟩ ?_)
                            clear hl a; intro a hl
                            refine wl (wl_skip hl rfl ⟨_, _, rfl, rfl, rfl⟩ ?_)
                            clear hl a; intro a hl
                            refine wl (wl_skip hl rfl ⟨_, _, rfl, rfl, rfl⟩ ?_)
                            clear hl a; intro a hl
                            refine wl (wl_val hl rfl trivial (r_pickF hl rfl rfl) ?_)
                            clear hl a; intro a hl
                            refine w_nil ?_
                            have hl2 := hl.add (t := 0) (hl.add (t := 5) (hl.add (t := 145) (hl.nil) rfl) rfl) rfl; clear hl; have hl := hl2; clear hl2
                            refine then_normal ?_
                            refine c_condF hl rfl ?_
                            have hf := dl_7n (l := l.pl) hhd hk7 (fun ⟨q1, q2⟩ => by have q1 : ¬ m.r = g.st.fid := q1; omega)
                            refine wp_skip ?_
                            refine blk_normal ?_
                            first
                            | (have hqq := hp2; refine f_end0 (F' := GF gb g' l' (Z ++ G9)) hl hh rfl (by first | exact keeps_self | exact keeps_left) ?_; exact ⟨rfl, g', l', G9, he9, hg', hl', hp1.trans (by rw [hf]; try rfl), hp2.trans (by rw [hf]; try rfl), rfl⟩)
                            | (have hqq := hc3; refine f_end0 (F' := (gb, C (GtV.c { g with ys := orB g.ys (sh1 m.d) }) 127) :: (g.st.E ++ (g.qE ++ ((g.rb, MD (kInt .u32) g.rl g.rn) :: (g.oE ++ ((g.led, C (LdV.c l) 91) :: (l.d.E ++ Z))))))) hl hh rfl (by repeat (first | exact keeps_nil | apply keeps_cons (by repeat (first | exact find_head | apply find_tail | apply find_skip)) (by first  | rfl) | exact keeps_self | exact keeps_left | apply keeps_app | apply keeps_mv | apply keeps_skip)) ?_; exact ⟨rfl, GO.same (g' := { g with ys := orB g.ys (sh1 m.d) }) (ys_ok hg (orB_bd _ _)) hl9 (by rw [hf]; rfl) (by rw [hf]) rfl⟩)
                            | (refine f_end0 (F' := (gb, C (GtV.c g) 127) :: (g.st.E ++ (g.qE ++ ((g.rb, MD (kInt .u32) g.rl g.rn) :: (g.oE ++ ((g.led, C (LdV.c l) 91) :: (l.d.E ++ Z))))))) hl hh rfl (by repeat (first | exact keeps_nil | apply keeps_cons (by repeat (first | exact find_head | apply find_tail | apply find_skip)) (by first  | rfl) | exact keeps_self | exact keeps_left | apply keeps_app | apply keeps_mv | apply keeps_skip)) ?_; exact ⟨rfl, GO.same hg hl9 (by rw [hf]) (by rw [hf]) rfl⟩)
                        · intro hc7
                          try simp only [decide_eq_true_eq, decide_eq_false_iff_not, Bool.not_eq_true', Bool.not_eq_false', Bool.not_eq_true, Bool.not_eq_false, Bool.and_eq_true, Bool.or_eq_true, Bool.and_eq_false_iff, Bool.or_eq_false_iff, Bool.not_not, ne_eq, Int.not_lt, Int.not_le, Decidable.not_not, beq_iff_eq, bne_iff_ne] at hc7
                          have hn4 : ¬ (m.k = 6 ∧ g.pl.st.ph = 3 ∧ g.pl.au = true) := fun ⟨q1, q2, q3⟩ => by have q2 : g.st.ph = 3 := q2; have q3 : g.au = true := q3; first | omega | (simp_all; done)
                          have hf := dl_x (l := l.pl) hhd hn1 hn2 hn3 hn4
                          refine wp_skip ?_
                          refine blk_normal ?_
                          first
                          | (have hqq := hp2; refine f_end0 (F' := GF gb g' l' (Z ++ G9)) hl hh rfl (by first | exact keeps_self | exact keeps_left) ?_; exact ⟨rfl, g', l', G9, he9, hg', hl', hp1.trans (by rw [hf]; try rfl), hp2.trans (by rw [hf]; try rfl), rfl⟩)
                          | (have hqq := hc3; refine f_end0 (F' := (gb, C (GtV.c { g with ys := orB g.ys (sh1 m.d) }) 127) :: (g.st.E ++ (g.qE ++ ((g.rb, MD (kInt .u32) g.rl g.rn) :: (g.oE ++ ((g.led, C (LdV.c l) 91) :: (l.d.E ++ Z))))))) hl hh rfl (by repeat (first | exact keeps_nil | apply keeps_cons (by repeat (first | exact find_head | apply find_tail | apply find_skip)) (by first  | rfl) | exact keeps_self | exact keeps_left | apply keeps_app | apply keeps_mv | apply keeps_skip)) ?_; exact ⟨rfl, GO.same (g' := { g with ys := orB g.ys (sh1 m.d) }) (ys_ok hg (orB_bd _ _)) hl9 (by rw [hf]; rfl) (by rw [hf]) rfl⟩)
                          | (refine f_end0 (F' := (gb, C (GtV.c g) 127) :: (g.st.E ++ (g.qE ++ ((g.rb, MD (kInt .u32) g.rl g.rn) :: (g.oE ++ ((g.led, C (LdV.c l) 91) :: (l.d.E ++ Z))))))) hl hh rfl (by repeat (first | exact keeps_nil | apply keeps_cons (by repeat (first | exact find_head | apply find_tail | apply find_skip)) (by first  | rfl) | exact keeps_self | exact keeps_left | apply keeps_app | apply keeps_mv | apply keeps_skip)) ?_; exact ⟨rfl, GO.same hg hl9 (by rw [hf]) (by rw [hf]) rfl⟩)
                      · intro hg77; clear hl; intro hl
                        try simp only [decide_eq_true_eq, decide_eq_false_iff_not, Bool.not_eq_true', Bool.not_eq_false', Bool.not_eq_true, Bool.not_eq_false, Bool.and_eq_true, Bool.or_eq_true, Bool.and_eq_false_iff, Bool.or_eq_false_iff, Bool.not_not, ne_eq, Int.not_lt, Int.not_le, Decidable.not_not, beq_iff_eq, bne_iff_ne] at hg77
                        refine wl (wl_skip hl rfl ⟨_, _, rfl, rfl, rfl⟩ ?_)
                        clear hl a; intro a hl
                        refine wl (wl_skip hl rfl ⟨_, _, rfl, rfl, rfl⟩ ?_)
                        clear hl a; intro a hl
                        refine wl (wl_skip hl rfl ⟨_, _, rfl, rfl, rfl⟩ ?_)
                        clear hl a; intro a hl
                        refine wl (wl_skip hl rfl ⟨_, _, rfl, rfl, rfl⟩ ?_)
                        clear hl a; intro a hl
                        refine wl (wl_val hl rfl trivial (r_pickF hl rfl rfl) ?_)
                        clear hl a; intro a hl
                        refine wl (wl_val hl rfl trivial (r_assign hl rfl) ?_)
                        clear hl a; intro a hl
                        refine w_nil ?_
                        have hl2 := hl.add (t := 0) (hl.add (t := 3) (hl.add (t := 4) (hl.add (t := 5) (hl.add (t := 121) (hl.nil) rfl) rfl) rfl) rfl) rfl; clear hl; have hl := hl2; clear hl2
                        refine then_normal ?_
                        refine c_condF hl rfl ?_
                        have hn4 : ¬ (m.k = 6 ∧ g.pl.st.ph = 3 ∧ g.pl.au = true) := fun ⟨q1, q2, q3⟩ => by have q2 : g.st.ph = 3 := q2; have q3 : g.au = true := q3; first | omega | (simp_all; done)
                        have hf := dl_x (l := l.pl) hhd hn1 hn2 hn3 hn4
                        refine wp_skip ?_
                        refine blk_normal ?_
                        first
                        | (have hqq := hp2; refine f_end0 (F' := GF gb g' l' (Z ++ G9)) hl hh rfl (by first | exact keeps_self | exact keeps_left) ?_; exact ⟨rfl, g', l', G9, he9, hg', hl', hp1.trans (by rw [hf]; try rfl), hp2.trans (by rw [hf]; try rfl), rfl⟩)
                        | (have hqq := hc3; refine f_end0 (F' := (gb, C (GtV.c { g with ys := orB g.ys (sh1 m.d) }) 127) :: (g.st.E ++ (g.qE ++ ((g.rb, MD (kInt .u32) g.rl g.rn) :: (g.oE ++ ((g.led, C (LdV.c l) 91) :: (l.d.E ++ Z))))))) hl hh rfl (by repeat (first | exact keeps_nil | apply keeps_cons (by repeat (first | exact find_head | apply find_tail | apply find_skip)) (by first  | rfl) | exact keeps_self | exact keeps_left | apply keeps_app | apply keeps_mv | apply keeps_skip)) ?_; exact ⟨rfl, GO.same (g' := { g with ys := orB g.ys (sh1 m.d) }) (ys_ok hg (orB_bd _ _)) hl9 (by rw [hf]; rfl) (by rw [hf]) rfl⟩)
                        | (refine f_end0 (F' := (gb, C (GtV.c g) 127) :: (g.st.E ++ (g.qE ++ ((g.rb, MD (kInt .u32) g.rl g.rn) :: (g.oE ++ ((g.led, C (LdV.c l) 91) :: (l.d.E ++ Z))))))) hl hh rfl (by repeat (first | exact keeps_nil | apply keeps_cons (by repeat (first | exact find_head | apply find_tail | apply find_skip)) (by first  | rfl) | exact keeps_self | exact keeps_left | apply keeps_app | apply keeps_mv | apply keeps_skip)) ?_; exact ⟨rfl, GO.same hg hl9 (by rw [hf]) (by rw [hf]) rfl⟩)
                    · intro hg76; clear hl; intro hl
                      try simp only [decide_eq_true_eq, decide_eq_false_iff_not, Bool.not_eq_true', Bool.not_eq_false', Bool.not_eq_true, Bool.not_eq_false, Bool.and_eq_true, Bool.or_eq_true, Bool.and_eq_false_iff, Bool.or_eq_false_iff, Bool.not_not, ne_eq, Int.not_lt, Int.not_le, Decidable.not_not, beq_iff_eq, bne_iff_ne] at hg76
                      refine wl (wl_skip hl rfl ⟨_, _, rfl, rfl, rfl⟩ ?_)
                      clear hl a; intro a hl
                      refine wl (wl_skip hl rfl ⟨_, _, rfl, rfl, rfl⟩ ?_)
                      clear hl a; intro a hl
                      refine wl (wl_skip hl rfl ⟨_, _, rfl, rfl, rfl⟩ ?_)
                      clear hl a; intro a hl
                      refine wl (wl_val hl rfl trivial (r_pickF hl rfl rfl) ?_)
                      clear hl a; intro a hl
                      refine wl (wl_val hl rfl trivial (r_move hl rfl) ?_)
                      clear hl a; intro a hl
                      refine wl (wl_skip hl rfl ⟨_, _, rfl, rfl, rfl⟩ ?_)
                      clear hl a; intro a hl
                      refine wl (wl_skip hl rfl ⟨_, _, rfl, rfl, rfl⟩ ?_)
                      clear hl a; intro a hl
                      refine wl (wl_skip hl rfl ⟨_, _, rfl, rfl, rfl⟩ ?_)
                      clear hl a; intro a hl
                      refine wl (wl_skip hl rfl ⟨_, _, rfl, rfl, rfl⟩ ?_)
                      clear hl a; intro a hl
                      refine wl (wl_val hl rfl trivial (r_pickF hl rfl rfl) ?_)
                      clear hl a; intro a hl
                      refine wl (wl_val hl rfl trivial (r_assign hl rfl) ?_)
                      clear hl a; intro a hl
                      refine w_nil ?_
                      have hl2 := hl.add (t := 0) (hl.add (t := 3) (hl.add (t := 4) (hl.add (t := 5) (hl.add (t := 121) (hl.nil) rfl) rfl) rfl) rfl) rfl; clear hl; have hl := hl2; clear hl2
                      refine then_normal ?_
                      refine c_condF hl rfl ?_
                      have hn4 : ¬ (m.k = 6 ∧ g.pl.st.ph = 3 ∧ g.pl.au = true) := fun ⟨q1, q2, q3⟩ => by have q2 : g.st.ph = 3 := q2; have q3 : g.au = true := q3; first | omega | (simp_all; done)
                      have hf := dl_x (l := l.pl) hhd hn1 hn2 hn3 hn4
                      refine wp_skip ?_
                      refine blk_normal ?_
                      first
                      | (have hqq := hp2; refine f_end0 (F' := GF gb g' l' (Z ++ G9)) hl hh rfl (by first | exact keeps_self | exact keeps_left) ?_; exact ⟨rfl, g', l', G9, he9, hg', hl', hp1.trans (by rw [hf]; try rfl), hp2.trans (by rw [hf]; try rfl), rfl⟩)
                      | (have hqq := hc3; refine f_end0 (F' := (gb, C (GtV.c { g with ys := orB g.ys (sh1 m.d) }) 127) :: (g.st.E ++ (g.qE ++ ((g.rb, MD (kInt .u32) g.rl g.rn) :: (g.oE ++ ((g.led, C (LdV.c l) 91) :: (l.d.E ++ Z))))))) hl hh rfl (by repeat (first | exact keeps_nil | apply keeps_cons (by repeat (first | exact find_head | apply find_tail | apply find_skip)) (by first  | rfl) | exact keeps_self | exact keeps_left | apply keeps_app | apply keeps_mv | apply keeps_skip)) ?_; exact ⟨rfl, GO.same (g' := { g with ys := orB g.ys (sh1 m.d) }) (ys_ok hg (orB_bd _ _)) hl9 (by rw [hf]; rfl) (by rw [hf]) rfl⟩)
                      | (refine f_end0 (F' := (gb, C (GtV.c g) 127) :: (g.st.E ++ (g.qE ++ ((g.rb, MD (kInt .u32) g.rl g.rn) :: (g.oE ++ ((g.led, C (LdV.c l) 91) :: (l.d.E ++ Z))))))) hl hh rfl (by repeat (first | exact keeps_nil | apply keeps_cons (by repeat (first | exact find_head | apply find_tail | apply find_skip)) (by first  | rfl) | exact keeps_self | exact keeps_left | apply keeps_app | apply keeps_mv | apply keeps_skip)) ?_; exact ⟨rfl, GO.same hg hl9 (by rw [hf]) (by rw [hf]) rfl⟩)
                · intro hg70; clear hl; intro hl
                  try simp only [decide_eq_true_eq, decide_eq_false_iff_not, Bool.not_eq_true', Bool.not_eq_false', Bool.not_eq_true, Bool.not_eq_false, Bool.and_eq_true, Bool.or_eq_true, Bool.and_eq_false_iff, Bool.or_eq_false_iff, Bool.not_not, ne_eq, Int.not_lt, Int.not_le, Decidable.not_not, beq_iff_eq, bne_iff_ne] at hg70
                  refine wl (wl_skip hl rfl ⟨_, _, rfl, rfl, rfl⟩ ?_)
                  clear hl a; intro a hl
                  refine wl (wl_skip hl rfl ⟨_, _, rfl, rfl, rfl⟩ ?_)
                  clear hl a; intro a hl
                  refine wl (wl_skip hl rfl ⟨_, _, rfl, rfl, rfl⟩ ?_)
                  clear hl a; intro a hl
                  refine wl (wl_val hl rfl trivial (r_pickF hl rfl rfl) ?_)
                  clear hl a; intro a hl
                  refine wl (wl_val hl rfl trivial (r_move hl rfl) ?_)
                  clear hl a; intro a hl
                  refine wl (wl_skip hl rfl ⟨_, _, rfl, rfl, rfl⟩ ?_)
                  clear hl a; intro a hl
                  refine wl (wl_skip hl rfl ⟨_, _, rfl, rfl, rfl⟩ ?_)
                  clear hl a; intro a hl
                  refine wl (wl_skip hl rfl ⟨_, _, rfl, rfl, rfl⟩ ?_)
                  clear hl a; intro a hl
                  refine wl (wl_skip hl rfl ⟨_, _, rfl, rfl, rfl⟩ ?_)
                  clear hl a; intro a hl
                  refine wl (wl_val hl rfl trivial (r_pickF hl rfl rfl) ?_)
                  clear hl a; intro a hl
                  refine wl (wl_val hl rfl trivial (r_assign hl rfl) ?_)
                  clear hl a; intro a hl
                  refine w_nil ?_
                  have hl2 := hl.add (t := 0) (hl.add (t := 3) (hl.add (t := 4) (hl.add (t := 5) (hl.add (t := 93) (hl.nil) rfl) rfl) rfl) rfl) rfl; clear hl; have hl := hl2; clear hl2
                  refine then_normal ?_
                  refine c_condF hl rfl ?_
                  have hn3 : ¬ (m.k = 6 ∧ g.pl.st.ph = 2 ∧ g.pl.au = true) := fun ⟨q1, q2, q3⟩ => by have q2 : g.st.ph = 2 := q2; have q3 : g.au = true := q3; first | omega | (simp_all; done)
                  refine c_seq ?_
                  refine c_region ?_
                  refine wl (wl_val hl rfl trivial (r_field hl rfl fld38_0) ?_)
                  clear hl a; intro a hl
                  refine wl (w_load hl hh rfl trivial one35 rfl (by repeat (first | exact find_head | apply find_tail | apply find_skip)) (by first | exact gtc_led _ | exact gtc_ep _ | exact gtc_vs _ | exact gtc_is _ | exact gtc_fid _ | exact gtc_ph _ | exact gtc_vd _ | exact gtc_q _ | exact gtc_rf _ | exact gtc_ys _ | exact gtc_dn _ | exact gtc_tk _ | exact gtc_au _ | exact gtc_o _ | exact gtc_off _ | rfl) ?_)
                  clear hl a; intro a hl
                  refine wl (wl_val hl rfl trivial (r_eql hl rfl rfl) ?_)
                  clear hl a; intro a hl
                  refine wl (wl_val hl rfl trivial (r_move hl rfl) ?_)
                  clear hl a; intro a hl
                  refine sl_split (t := 125) hl rfl ?_ ?_
                  · intro hg79; clear hl; intro hl
                    try simp only [decide_eq_true_eq, decide_eq_false_iff_not, Bool.not_eq_true', Bool.not_eq_false', Bool.not_eq_true, Bool.not_eq_false, Bool.and_eq_true, Bool.or_eq_true, Bool.and_eq_false_iff, Bool.or_eq_false_iff, Bool.not_not, ne_eq, Int.not_lt, Int.not_le, Decidable.not_not, beq_iff_eq, bne_iff_ne] at hg79
                    refine wl (wl_val hl rfl ⟨_, _, rfl, rfl, rfl⟩ (r_field hl rfl fld87_1) ?_)
                    clear hl a; intro a hl
                    refine wl (w_load hl hh rfl ⟨_, _, rfl, rfl, rfl⟩ one76 rfl (by repeat (first | exact find_head | apply find_tail | apply find_skip)) (by first | exact gtc_led _ | exact gtc_ep _ | exact gtc_vs _ | exact gtc_is _ | exact gtc_fid _ | exact gtc_ph _ | exact gtc_vd _ | exact gtc_q _ | exact gtc_rf _ | exact gtc_ys _ | exact gtc_dn _ | exact gtc_tk _ | exact gtc_au _ | exact gtc_o _ | exact gtc_off _ | rfl) ?_)
                    clear hl a; intro a hl
                    refine wl (wl_val hl rfl ⟨_, _, rfl, rfl, rfl⟩ (r_eql hl rfl rfl) ?_)
                    clear hl a; intro a hl
                    refine wl (wl_val hl rfl trivial (r_pickT hl rfl rfl) ?_)
                    clear hl a; intro a hl
                    refine wl (wl_val hl rfl trivial (r_move hl rfl) ?_)
                    clear hl a; intro a hl
                    refine sl_split (t := 130) hl rfl ?_ ?_
                    · intro hg80; clear hl; intro hl
                      try simp only [decide_eq_true_eq, decide_eq_false_iff_not, Bool.not_eq_true', Bool.not_eq_false', Bool.not_eq_true, Bool.not_eq_false, Bool.and_eq_true, Bool.or_eq_true, Bool.and_eq_false_iff, Bool.or_eq_false_iff, Bool.not_not, ne_eq, Int.not_lt, Int.not_le, Decidable.not_not, beq_iff_eq, bne_iff_ne] at hg80
                      refine wl (wl_val hl rfl ⟨_, _, rfl, rfl, rfl⟩ (r_move hl rfl) ?_)
                      clear hl a; intro a hl
                      refine wl (wl_val hl rfl ⟨_, _, rfl, rfl, rfl⟩ (r_nilCheck hl rfl) ?_)
                      clear hl a; intro a hl
                      refine wl (wl_val hl rfl ⟨_, _, rfl, rfl, rfl⟩ (r_field hl rfl fld127_8) ?_)
                      clear hl a; intro a hl
                      refine wl (w_load hl hh rfl ⟨_, _, rfl, rfl, rfl⟩ one4 rfl (by repeat (first | exact find_head | apply find_tail | apply find_skip)) (by first | exact gtc_led _ | exact gtc_ep _ | exact gtc_vs _ | exact gtc_is _ | exact gtc_fid _ | exact gtc_ph _ | exact gtc_vd _ | exact gtc_q _ | exact gtc_rf _ | exact gtc_ys _ | exact gtc_dn _ | exact gtc_tk _ | exact gtc_au _ | exact gtc_o _ | exact gtc_off _ | rfl) ?_)
                      clear hl a; intro a hl
                      refine wl (wl_val hl rfl trivial (r_pickT hl rfl rfl) ?_)
                      clear hl a; intro a hl
                      refine wl (wl_val hl rfl trivial (r_assign hl rfl) ?_)
                      clear hl a; intro a hl
                      refine w_nil ?_
                      have hl2 := hl.add (t := 0) (hl.add (t := 3) (hl.add (t := 4) (hl.add (t := 5) (hl.add (t := 121) (hl.nil) rfl) rfl) rfl) rfl) rfl; clear hl; have hl := hl2; clear hl2
                      refine then_normal ?_
                      refine c_cond hl rfl ?_ ?_
                      · intro hc7
                        try simp only [decide_eq_true_eq, decide_eq_false_iff_not, Bool.not_eq_true', Bool.not_eq_false', Bool.not_eq_true, Bool.not_eq_false, Bool.and_eq_true, Bool.or_eq_true, Bool.and_eq_false_iff, Bool.or_eq_false_iff, Bool.not_not, ne_eq, Int.not_lt, Int.not_le, Decidable.not_not, beq_iff_eq, bne_iff_ne] at hc7
                        have hk7 : m.k = 6 ∧ g.pl.st.ph = 3 ∧ g.pl.au = true := ⟨by omega, (show g.st.ph = 3 by omega), (show g.au = true by first | assumption | (simp_all; done))⟩
                        refine c_seq ?_
                        refine c_region ?_
                        refine wl (wl_val hl rfl trivial (r_field hl rfl fld38_5) ?_)
                        clear hl a; intro a hl
                        refine wl (w_load hl hh rfl trivial one36 rfl (by repeat (first | exact find_head | apply find_tail | apply find_skip)) (by first | exact gtc_led _ | exact gtc_ep _ | exact gtc_vs _ | exact gtc_is _ | exact gtc_fid _ | exact gtc_ph _ | exact gtc_vd _ | exact gtc_q _ | exact gtc_rf _ | exact gtc_ys _ | exact gtc_dn _ | exact gtc_tk _ | exact gtc_au _ | exact gtc_o _ | exact gtc_off _ | rfl) ?_)
                        clear hl a; intro a hl
                        refine wl (wl_val hl rfl trivial (r_field hl rfl fld87_0) ?_)
                        clear hl a; intro a hl
                        refine wl (w_load hl hh rfl trivial one36 rfl (by repeat (first | exact find_head | apply find_tail | apply find_skip)) (by first | exact gtc_led _ | exact gtc_ep _ | exact gtc_vs _ | exact gtc_is _ | exact gtc_fid _ | exact gtc_ph _ | exact gtc_vd _ | exact gtc_q _ | exact gtc_rf _ | exact gtc_ys _ | exact gtc_dn _ | exact gtc_tk _ | exact gtc_au _ | exact gtc_o _ | exact gtc_off _ | rfl) ?_)
                        clear hl a; intro a hl
                        refine wl (wl_val hl rfl trivial (r_neq hl rfl rfl) ?_)
                        clear hl a; intro a hl
                        refine wl (wl_val hl rfl trivial (r_move hl rfl) ?_)
                        clear hl a; intro a hl
                        refine sl_split (t := 141) hl rfl ?_ ?_
                        · intro hg81; clear hl; intro hl
                          try simp only [decide_eq_true_eq, decide_eq_false_iff_not, Bool.not_eq_true', Bool.not_eq_false', Bool.not_eq_true, Bool.not_eq_false, Bool.and_eq_true, Bool.or_eq_true, Bool.and_eq_false_iff, Bool.or_eq_false_iff, Bool.not_not, ne_eq, Int.not_lt, Int.not_le, Decidable.not_not, beq_iff_eq, bne_iff_ne] at hg81
                          refine wl (wl_val hl rfl ⟨_, _, rfl, rfl, rfl⟩ (r_field hl rfl fld38_6) ?_)
                          clear hl a; intro a hl
                          refine wl (w_load hl hh rfl ⟨_, _, rfl, rfl, rfl⟩ one36 rfl (by repeat (first | exact find_head | apply find_tail | apply find_skip)) (by first | exact gtc_led _ | exact gtc_ep _ | exact gtc_vs _ | exact gtc_is _ | exact gtc_fid _ | exact gtc_ph _ | exact gtc_vd _ | exact gtc_q _ | exact gtc_rf _ | exact gtc_ys _ | exact gtc_dn _ | exact gtc_tk _ | exact gtc_au _ | exact gtc_o _ | exact gtc_off _ | rfl) ?_)
                          clear hl a; intro a hl
                          refine wl (wl_val hl rfl ⟨_, _, rfl, rfl, rfl⟩ (r_eql hl rfl rfl) ?_)
                          clear hl a; intro a hl
                          refine wl (wl_val hl rfl trivial (r_pickT hl rfl rfl) ?_)
                          clear hl a; intro a hl
                          refine w_nil ?_
                          have hl2 := hl.add (t := 0) (hl.add (t := 5) (hl.add (t := 145) (hl.nil) rfl) rfl) rfl; clear hl; have hl := hl2; clear hl2
                          refine then_normal ?_
                          refine c_cond hl rfl ?_ ?_
                          · intro hc8
                            try simp only [decide_eq_true_eq, decide_eq_false_iff_not, Bool.not_eq_true', Bool.not_eq_false', Bool.not_eq_true, Bool.not_eq_false, Bool.and_eq_true, Bool.or_eq_true, Bool.and_eq_false_iff, Bool.or_eq_false_iff, Bool.not_not, ne_eq, Int.not_lt, Int.not_le, Decidable.not_not, beq_iff_eq, bne_iff_ne] at hc8
                            have hf := dl_7y (l := l.pl) hhd hk7 ⟨(show ¬ m.r = g.st.fid by omega), by omega⟩
                            refine c_region ?_
                            refine wl (wl_val hl rfl trivial (r_move hl rfl) ?_)
                            clear hl a; intro a hl
                            refine wl (wl_val hl rfl trivial (r_move hl rfl) ?_)
                            clear hl a; intro a hl
                            refine wl (w_call hl hh rfl trivial rfl cal52 rfl (confirm_spec Z gb g l hg hl9 (sh1 m.d) hvl) (by repeat (first | exact keeps_nil | apply keeps_cons (by repeat (first | exact find_head | apply find_tail | apply find_skip)) (by first  | rfl) | exact keeps_self | exact keeps_left | apply keeps_app | apply keeps_mv | apply keeps_skip)) trivial ?_)
                            clear hl hh a w; intro vc Fc a w hR hl hh
                            obtain ⟨rfl, g', l', G9, he9, hg', hl', hp1, hp2, rfl⟩ := hR
                            try simp only [List.cons_append, List.nil_append, List.append_assoc, List.append_nil] at hh
                            refine w_nil ?_
                            have hl2 := hl.nil; clear hl; have hl := hl2; clear hl2
                            refine blk_normal ?_
                            first
                            | (have hqq := hp2; refine f_end0 (F' := GF gb g' l' (Z ++ G9)) hl hh rfl (by first | exact keeps_self | exact keeps_left) ?_; exact ⟨rfl, g', l', G9, he9, hg', hl', hp1.trans (by rw [hf]; try rfl), hp2.trans (by rw [hf]; try rfl), rfl⟩)
                            | (have hqq := hc3; refine f_end0 (F' := (gb, C (GtV.c { g with ys := orB g.ys (sh1 m.d) }) 127) :: (g.st.E ++ (g.qE ++ ((g.rb, MD (kInt .u32) g.rl g.rn) :: (g.oE ++ ((g.led, C (LdV.c l) 91) :: (l.d.E ++ Z))))))) hl hh rfl (by repeat (first | exact keeps_nil | apply keeps_cons (by repeat (first | exact find_head | apply find_tail | apply find_skip)) (by first  | rfl) | exact keeps_self | exact keeps_left | apply keeps_app | apply keeps_mv | apply keeps_skip)) ?_; exact ⟨rfl, GO.same (g' := { g with ys := orB g.ys (sh1 m.d) }) (ys_ok hg (orB_bd _ _)) hl9 (by rw [hf]; rfl) (by rw [hf]) rfl⟩)
                            | (refine f_end0 (F' := (gb, C (GtV.c g) 127) :: (g.st.E ++ (g.qE ++ ((g.rb, MD (kInt .u32) g.rl g.rn) :: (g.oE ++ ((g.led, C (LdV.c l) 91) :: (l.d.E ++ Z))))))) hl hh rfl (by repeat (first | exact keeps_nil | apply keeps_cons (by repeat (first | exact find_head | apply find_tail | apply find_skip)) (by first  | rfl) | exact keeps_self | exact keeps_left | apply keeps_app | apply keeps_mv | apply keeps_skip)) ?_; exact ⟨rfl, GO.same hg hl9 (by rw [hf]) (by rw [hf]) rfl⟩)
                          · intro hc8
                            try simp only [decide_eq_true_eq, decide_eq_false_iff_not, Bool.not_eq_true', Bool.not_eq_false', Bool.not_eq_true, Bool.not_eq_false, Bool.and_eq_true, Bool.or_eq_true, Bool.and_eq_false_iff, Bool.or_eq_false_iff, Bool.not_not, ne_eq, Int.not_lt, Int.not_le, Decidable.not_not, beq_iff_eq, bne_iff_ne] at hc8
                            have hf := dl_7n (l := l.pl) hhd hk7 (fun ⟨q1, q2⟩ => by have q1 : ¬ m.r = g.st.fid := q1; omega)
                            refine wp_skip ?_
                            refine blk_normal ?_
                            first
                            | (have hqq := hp2; refine f_end0 (F' := GF gb g' l' (Z ++ G9)) hl hh rfl (by first | exact keeps_self | exact keeps_left) ?_; exact ⟨rfl, g', l', G9, he9, hg', hl', hp1.trans (by rw [hf]; try rfl), hp2.trans (by rw [hf]; try rfl), rfl⟩)
                            | (have hqq := hc3; refine f_end0 (F' := (gb, C (GtV.c { g with ys := orB g.ys (sh1 m.d) }) 127) :: (g.st.E ++ (g.qE ++ ((g.rb, MD (kInt .u32) g.rl g.rn) :: (g.oE ++ ((g.led, C (LdV.c l) 91) :: (l.d.E ++ Z))))))) hl hh rfl (by repeat (first | exact keeps_nil | apply keeps_cons (by repeat (first | exact find_head | apply find_tail | apply find_skip)) (by first  | rfl) | exact keeps_self | exact keeps_left | apply keeps_app | apply keeps_mv | apply keeps_skip)) ?_; exact ⟨rfl, GO.same (g' := { g with ys := orB g.ys (sh1 m.d) }) (ys_ok hg (orB_bd _ _)) hl9 (by rw [hf]; rfl) (by rw [hf]) rfl⟩)
                            | (refine f_end0 (F' := (gb, C (GtV.c g) 127) :: (g.st.E ++ (g.qE ++ ((g.rb, MD (kInt .u32) g.rl g.rn) :: (g.oE ++ ((g.led, C (LdV.c l) 91) :: (l.d.E ++ Z))))))) hl hh rfl (by repeat (first | exact keeps_nil | apply keeps_cons (by repeat (first | exact find_head | apply find_tail | apply find_skip)) (by first  | rfl) | exact keeps_self | exact keeps_left | apply keeps_app | apply keeps_mv | apply keeps_skip)) ?_; exact ⟨rfl, GO.same hg hl9 (by rw [hf]) (by rw [hf]) rfl⟩)
                        · intro hg81; clear hl; intro hl
                          try simp only [decide_eq_true_eq, decide_eq_false_iff_not, Bool.not_eq_true', Bool.not_eq_false', Bool.not_eq_true, Bool.not_eq_false, Bool.and_eq_true, Bool.or_eq_true, Bool.and_eq_false_iff, Bool.or_eq_false_iff, Bool.not_not, ne_eq, Int.not_lt, Int.not_le, Decidable.not_not, beq_iff_eq, bne_iff_ne] at hg81
                          refine wl (wl_skip hl rfl ⟨_, _, rfl, rfl, rfl⟩ ?_)
                          clear hl a; intro a hl
                          refine wl (wl_skip hl rfl ⟨_, _, rfl, rfl, rfl⟩ ?_)
                          clear hl a; intro a hl
                          refine wl (wl_skip hl rfl ⟨_, _, rfl, rfl, rfl⟩ ?_)
                          clear hl a; intro a hl
                          refine wl (wl_val hl rfl trivial (r_pickF hl rfl rfl) ?_)
                          clear hl a; intro a hl
                          refine w_nil ?_
                          have hl2 := hl.add (t := 0) (hl.add (t := 5) (hl.add (t := 145) (hl.nil) rfl) rfl) rfl; clear hl; have hl := hl2; clear hl2
                          refine then_normal ?_
                          refine c_condF hl rfl ?_
                          have hf := dl_7n (l := l.pl) hhd hk7 (fun ⟨q1, q2⟩ => by have q1 : ¬ m.r = g.st.fid := q1; omega)
                          refine wp_skip ?_
                          refine blk_normal ?_
                          first
                          | (have hqq := hp2; refine f_end0 (F' := GF gb g' l' (Z ++ G9)) hl hh rfl (by first | exact keeps_self | exact keeps_left) ?_; exact ⟨rfl, g', l', G9, he9, hg', hl', hp1.trans (by rw [hf]; try rfl), hp2.trans (by rw [hf]; try rfl), rfl⟩)
                          | (have hqq := hc3; refine f_end0 (F' := (gb, C (GtV.c { g with ys := orB g.ys (sh1 m.d) }) 127) :: (g.st.E ++ (g.qE ++ ((g.rb, MD (kInt .u32) g.rl g.rn) :: (g.oE ++ ((g.led, C (LdV.c l) 91) :: (l.d.E ++ Z))))))) hl hh rfl (by repeat (first | exact keeps_nil | apply keeps_cons (by repeat (first | exact find_head | apply find_tail | apply find_skip)) (by first  | rfl) | exact keeps_self | exact keeps_left | apply keeps_app | apply keeps_mv | apply keeps_skip)) ?_; exact ⟨rfl, GO.same (g' := { g with ys := orB g.ys (sh1 m.d) }) (ys_ok hg (orB_bd _ _)) hl9 (by rw [hf]; rfl) (by rw [hf]) rfl⟩)
                          | (refine f_end0 (F' := (gb, C (GtV.c g) 127) :: (g.st.E ++ (g.qE ++ ((g.rb, MD (kInt .u32) g.rl g.rn) :: (g.oE ++ ((g.led, C (LdV.c l) 91) :: (l.d.E ++ Z))))))) hl hh rfl (by repeat (first | exact keeps_nil | apply keeps_cons (by repeat (first | exact find_head | apply find_tail | apply find_skip)) (by first  | rfl) | exact keeps_self | exact keeps_left | apply keeps_app | apply keeps_mv | apply keeps_skip)) ?_; exact ⟨rfl, GO.same hg hl9 (by rw [hf]) (by rw [hf]) rfl⟩)
                      · intro hc7
                        try simp only [decide_eq_true_eq, decide_eq_false_iff_not, Bool.not_eq_true', Bool.not_eq_false', Bool.not_eq_true, Bool.not_eq_false, Bool.and_eq_true, Bool.or_eq_true, Bool.and_eq_false_iff, Bool.or_eq_false_iff, Bool.not_not, ne_eq, Int.not_lt, Int.not_le, Decidable.not_not, beq_iff_eq, bne_iff_ne] at hc7
                        have hn4 : ¬ (m.k = 6 ∧ g.pl.st.ph = 3 ∧ g.pl.au = true) := fun ⟨q1, q2, q3⟩ => by have q2 : g.st.ph = 3 := q2; have q3 : g.au = true := q3; first | omega | (simp_all; done)
                        have hf := dl_x (l := l.pl) hhd hn1 hn2 hn3 hn4
                        refine wp_skip ?_
                        refine blk_normal ?_
                        first
                        | (have hqq := hp2; refine f_end0 (F' := GF gb g' l' (Z ++ G9)) hl hh rfl (by first | exact keeps_self | exact keeps_left) ?_; exact ⟨rfl, g', l', G9, he9, hg', hl', hp1.trans (by rw [hf]; try rfl), hp2.trans (by rw [hf]; try rfl), rfl⟩)
                        | (have hqq := hc3; refine f_end0 (F' := (gb, C (GtV.c { g with ys := orB g.ys (sh1 m.d) }) 127) :: (g.st.E ++ (g.qE ++ ((g.rb, MD (kInt .u32) g.rl g.rn) :: (g.oE ++ ((g.led, C (LdV.c l) 91) :: (l.d.E ++ Z))))))) hl hh rfl (by repeat (first | exact keeps_nil | apply keeps_cons (by repeat (first | exact find_head | apply find_tail | apply find_skip)) (by first  | rfl) | exact keeps_self | exact keeps_left | apply keeps_app | apply keeps_mv | apply keeps_skip)) ?_; exact ⟨rfl, GO.same (g' := { g with ys := orB g.ys (sh1 m.d) }) (ys_ok hg (orB_bd _ _)) hl9 (by rw [hf]; rfl) (by rw [hf]) rfl⟩)
                        | (refine f_end0 (F' := (gb, C (GtV.c g) 127) :: (g.st.E ++ (g.qE ++ ((g.rb, MD (kInt .u32) g.rl g.rn) :: (g.oE ++ ((g.led, C (LdV.c l) 91) :: (l.d.E ++ Z))))))) hl hh rfl (by repeat (first | exact keeps_nil | apply keeps_cons (by repeat (first | exact find_head | apply find_tail | apply find_skip)) (by first  | rfl) | exact keeps_self | exact keeps_left | apply keeps_app | apply keeps_mv | apply keeps_skip)) ?_; exact ⟨rfl, GO.same hg hl9 (by rw [hf]) (by rw [hf]) rfl⟩)
                    · intro hg80; clear hl; intro hl
                      try simp only [decide_eq_true_eq, decide_eq_false_iff_not, Bool.not_eq_true', Bool.not_eq_false', Bool.not_eq_true, Bool.not_eq_false, Bool.and_eq_true, Bool.or_eq_true, Bool.and_eq_false_iff, Bool.or_eq_false_iff, Bool.not_not, ne_eq, Int.not_lt, Int.not_le, Decidable.not_not, beq_iff_eq, bne_iff_ne] at hg80
                      refine wl (wl_skip hl rfl ⟨_, _, rfl, rfl, rfl⟩ ?_)
                      clear hl a; intro a hl
                      refine wl (wl_skip hl rfl ⟨_, _, rfl, rfl, rfl⟩ ?_)
                      clear hl a; intro a hl
                      refine wl (wl_skip hl rfl ⟨_, _, rfl, rfl, rfl⟩ ?_)
                      clear hl a; intro a hl
                      refine wl (wl_skip hl rfl ⟨_, _, rfl, rfl, rfl⟩ ?_)
                      clear hl a; intro a hl
                      refine wl (wl_val hl rfl trivial (r_pickF hl rfl rfl) ?_)
                      clear hl a; intro a hl
                      refine wl (wl_val hl rfl trivial (r_assign hl rfl) ?_)
                      clear hl a; intro a hl
                      refine w_nil ?_
                      have hl2 := hl.add (t := 0) (hl.add (t := 3) (hl.add (t := 4) (hl.add (t := 5) (hl.add (t := 121) (hl.nil) rfl) rfl) rfl) rfl) rfl; clear hl; have hl := hl2; clear hl2
                      refine then_normal ?_
                      refine c_condF hl rfl ?_
                      have hn4 : ¬ (m.k = 6 ∧ g.pl.st.ph = 3 ∧ g.pl.au = true) := fun ⟨q1, q2, q3⟩ => by have q2 : g.st.ph = 3 := q2; have q3 : g.au = true := q3; first | omega | (simp_all; done)
                      have hf := dl_x (l := l.pl) hhd hn1 hn2 hn3 hn4
                      refine wp_skip ?_
                      refine blk_normal ?_
                      first
                      | (have hqq := hp2; refine f_end0 (F' := GF gb g' l' (Z ++ G9)) hl hh rfl (by first | exact keeps_self | exact keeps_left) ?_; exact ⟨rfl, g', l', G9, he9, hg', hl', hp1.trans (by rw [hf]; try rfl), hp2.trans (by rw [hf]; try rfl), rfl⟩)
                      | (have hqq := hc3; refine f_end0 (F' := (gb, C (GtV.c { g with ys := orB g.ys (sh1 m.d) }) 127) :: (g.st.E ++ (g.qE ++ ((g.rb, MD (kInt .u32) g.rl g.rn) :: (g.oE ++ ((g.led, C (LdV.c l) 91) :: (l.d.E ++ Z))))))) hl hh rfl (by repeat (first | exact keeps_nil | apply keeps_cons (by repeat (first | exact find_head | apply find_tail | apply find_skip)) (by first  | rfl) | exact keeps_self | exact keeps_left | apply keeps_app | apply keeps_mv | apply keeps_skip)) ?_; exact ⟨rfl, GO.same (g' := { g with ys := orB g.ys (sh1 m.d) }) (ys_ok hg (orB_bd _ _)) hl9 (by rw [hf]; rfl) (by rw [hf]) rfl⟩)
                      | (refine f_end0 (F' := (gb, C (GtV.c g) 127) :: (g.st.E ++ (g.qE ++ ((g.rb, MD (kInt .u32) g.rl g.rn) :: (g.oE ++ ((g.led, C (LdV.c l) 91) :: (l.d.E ++ Z))))))) hl hh rfl (by repeat (first | exact keeps_nil | apply keeps_cons (by repeat (first | exact find_head | apply find_tail | apply find_skip)) (by first  | rfl) | exact keeps_self | exact keeps_left | apply keeps_app | apply keeps_mv | apply keeps_skip)) ?_; exact ⟨rfl, GO.same hg hl9 (by rw [hf]) (by rw [hf]) rfl⟩)
                  · intro hg79; clear hl; intro hl
                    try simp only [decide_eq_true_eq, decide_eq_false_iff_not, Bool.not_eq_true', Bool.not_eq_false', Bool.not_eq_true, Bool.not_eq_false, Bool.and_eq_true, Bool.or_eq_true, Bool.and_eq_false_iff, Bool.or_eq_false_iff, Bool.not_not, ne_eq, Int.not_lt, Int.not_le, Decidable.not_not, beq_iff_eq, bne_iff_ne] at hg79
                    refine wl (wl_skip hl rfl ⟨_, _, rfl, rfl, rfl⟩ ?_)
                    clear hl a; intro a hl
                    refine wl (wl_skip hl rfl ⟨_, _, rfl, rfl, rfl⟩ ?_)
                    clear hl a; intro a hl
                    refine wl (wl_skip hl rfl ⟨_, _, rfl, rfl, rfl⟩ ?_)
                    clear hl a; intro a hl
                    refine wl (wl_val hl rfl trivial (r_pickF hl rfl rfl) ?_)
                    clear hl a; intro a hl
                    refine wl (wl_val hl rfl trivial (r_move hl rfl) ?_)
                    clear hl a; intro a hl
                    refine wl (wl_skip hl rfl ⟨_, _, rfl, rfl, rfl⟩ ?_)
                    clear hl a; intro a hl
                    refine wl (wl_skip hl rfl ⟨_, _, rfl, rfl, rfl⟩ ?_)
                    clear hl a; intro a hl
                    refine wl (wl_skip hl rfl ⟨_, _, rfl, rfl, rfl⟩ ?_)
                    clear hl a; intro a hl
                    refine wl (wl_skip hl rfl ⟨_, _, rfl, rfl, rfl⟩ ?_)
                    clear hl a; intro a hl
                    refine wl (wl_val hl rfl trivial (r_pickF hl rfl rfl) ?_)
                    clear hl a; intro a hl
                    refine wl (wl_val hl rfl trivial (r_assign hl rfl) ?_)
                    clear hl a; intro a hl
                    refine w_nil ?_
                    have hl2 := hl.add (t := 0) (hl.add (t := 3) (hl.add (t := 4) (hl.add (t := 5) (hl.add (t := 121) (hl.nil) rfl) rfl) rfl) rfl) rfl; clear hl; have hl := hl2; clear hl2
                    refine then_normal ?_
                    refine c_condF hl rfl ?_
                    have hn4 : ¬ (m.k = 6 ∧ g.pl.st.ph = 3 ∧ g.pl.au = true) := fun ⟨q1, q2, q3⟩ => by have q2 : g.st.ph = 3 := q2; have q3 : g.au = true := q3; first | omega | (simp_all; done)
                    have hf := dl_x (l := l.pl) hhd hn1 hn2 hn3 hn4
                    refine wp_skip ?_
                    refine blk_normal ?_
                    first
                    | (have hqq := hp2; refine f_end0 (F' := GF gb g' l' (Z ++ G9)) hl hh rfl (by first | exact keeps_self | exact keeps_left) ?_; exact ⟨rfl, g', l', G9, he9, hg', hl', hp1.trans (by rw [hf]; try rfl), hp2.trans (by rw [hf]; try rfl), rfl⟩)
                    | (have hqq := hc3; refine f_end0 (F' := (gb, C (GtV.c { g with ys := orB g.ys (sh1 m.d) }) 127) :: (g.st.E ++ (g.qE ++ ((g.rb, MD (kInt .u32) g.rl g.rn) :: (g.oE ++ ((g.led, C (LdV.c l) 91) :: (l.d.E ++ Z))))))) hl hh rfl (by repeat (first | exact keeps_nil | apply keeps_cons (by repeat (first | exact find_head | apply find_tail | apply find_skip)) (by first  | rfl) | exact keeps_self | exact keeps_left | apply keeps_app | apply keeps_mv | apply keeps_skip)) ?_; exact ⟨rfl, GO.same (g' := { g with ys := orB g.ys (sh1 m.d) }) (ys_ok hg (orB_bd _ _)) hl9 (by rw [hf]; rfl) (by rw [hf]) rfl⟩)
                    | (refine f_end0 (F' := (gb, C (GtV.c g) 127) :: (g.st.E ++ (g.qE ++ ((g.rb, MD (kInt .u32) g.rl g.rn) :: (g.oE ++ ((g.led, C (LdV.c l) 91) :: (l.d.E ++ Z))))))) hl hh rfl (by repeat (first | exact keeps_nil | apply keeps_cons (by repeat (first | exact find_head | apply find_tail | apply find_skip)) (by first  | rfl) | exact keeps_self | exact keeps_left | apply keeps_app | apply keeps_mv | apply keeps_skip)) ?_; exact ⟨rfl, GO.same hg hl9 (by rw [hf]) (by rw [hf]) rfl⟩)
end Go.Proofs.Qxb6500908aGreat

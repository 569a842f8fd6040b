import Derived.Test.Qxb6500908aX17
namespace Go.Proofs.Qxb6500908a
open Go.Eng
set_option linter.unusedVariables false
set_option linter.unusedSimpArgs false
theorem fldT48_2 : fieldTOk Try.prog 48 2 2 33 = true := by kernel_rfl
theorem fld62_1 : fieldOk Try.prog 62 1 1 = true := by kernel_rfl
theorem fld62_0 : fieldOk Try.prog 62 0 0 = true := by kernel_rfl
theorem fld62_2 : fieldOk Try.prog 62 2 2 = true := by kernel_rfl
theorem cal115 : callable Try.prog 115 = true := by kernel_rfl
attribute [local irreducible] NtV.k StV.c LdV.c StV.E GtV.c GtV.t orB sh1 WoV.c wst postP

set_option maxHeartbeats 16000000 in
theorem tsaw_b (lb wb : Nat) (W : WoV) (Z : List (Nat × Obj)) (hW : W.ok Z) (gb : Nat) (g : GtV) (hg : W.g = some (gb, g)) (i : InP) (p : Option Addr) (cap : Nat) (hi : InOk Z i p cap) (id9 c9 : Int) (sent : List Ms) (q : Option Addr) (cq : Nat) (Es : List (Nat × Obj)) (hR : ROWB q sent cq Es) (hsl : sent.length ≤ 100) (hso : ∀ m, m ∈ sent → m.ok) (hk : i.k = 0) (V : ToV) (hV : V.ok) (hil : V.iv.length ≤ 16) (hid : 0 ≤ id9 ∧ id9 ≤ 4294967295) (hcb : 0 ≤ c9 ∧ c9 ≤ 255) (hS : ToS W.l.pl.d V.pl i id9 c9) : Sp Try.prog 114 #[.pointer (some ⟨lb, 0, none⟩), .agg ⟨inC i p cap⟩, .int .u32 id9, .int .u8 c9, .slice q sent.length cq] (V.F lb wb ++ (WoV.F wb W Z ++ Es)) (fun v F' => v = .bool true ∧ ∃ V' : ToV, V'.ok ∧ V'.pl = V.pl.nx i c9 ∧ F' = V'.F lb wb ++ (WoV.F wb W Z ++ Es)) := by
  refine f_enter (args := [.pointer (some ⟨lb, 0, none⟩), .agg ⟨[.int .u8 i.k, .int .u32 i.id, .int .u32 i.i2, .slice p i.tx.length cap, .int .u8 i.v.k, .int .u8 i.v.a, .int .u8 i.v.b, .int .u8 i.v.w, .int .u8 i.v.da, .int .u8 i.v.dl, .int .u8 i.m.k, .int .u8 i.m.d, .int .u32 i.m.e, .int .u32 i.m.b, .bool i.m.y, .int .u32 i.m.r, .int .u32 i.m.s, .string i.m.t]⟩, .int .u32 id9, .int .u8 c9, .slice q sent.length cq]) Try.func114 rfl Try.ntmps114 rfl ?_
  intro w0 w a hpre hl hh
  generalize hDD : List.map Prod.fst (V.F lb wb ++ (WoV.F wb W Z ++ Es)) = D at hh ⊢
  simp only [WoV.F, ToV.F, toC, List.append_assoc, List.cons_append] at hh
  have hcl := wc_led W
  have hik := hi.k
  have hi9 := hi.id
  obtain ⟨Ei, hiR, hiZ⟩ := hV.i
  simp only [slotsFrom, Nat.reduceAdd] at hl
  refine c_seq ?_
  refine c_region ?_
  refine wl (w_box hl hh rfl trivial rfl rfl ?_)
  clear hl hh a w; intro k6 a w hl hh
  refine wl (wl_val hl rfl trivial (r_assign hl rfl) ?_)
  clear hl a; intro a hl
  refine w_nil ?_
  have hl2 := hl.add (t := 0) (hl.add (t := 2) (hl.add (t := 3) (hl.add (t := 6) (hl.nil) rfl) rfl) rfl) rfl; clear hl; have hl := hl2; clear hl2
  refine then_normal ?_
  refine c_seq ?_
  refine c_seq ?_
  refine c_region ?_
  refine wl (wl_val hl rfl trivial (r_field hl rfl fld116_0) ?_)
  clear hl a; intro a hl
  refine wl (w_load hl hh rfl trivial one63 rfl (by repeat (first | exact find_head | apply find_tail | apply find_skip)) (by first | exact hcl | rfl) ?_)
  clear hl a; intro a hl
  refine w_nil ?_
  have hl2 := hl.add (t := 0) (hl.add (t := 2) (hl.add (t := 3) (hl.add (t := 6) (hl.add (t := 16) (hl.nil) rfl) rfl) rfl) rfl) rfl; clear hl; have hl := hl2; clear hl2
  refine then_normal ?_
  refine wp_block ?_
  refine c_seq ?_
  refine c_seq ?_
  refine c_region ?_
  refine wl (wl_val hl rfl trivial (r_eql hl rfl rfl) ?_)
  clear hl a; intro a hl
  refine wl (wl_val hl rfl trivial (r_assign hl rfl) ?_)
  clear hl a; intro a hl
  refine w_nil ?_
  have hl2 := hl.add (t := 0) (hl.add (t := 2) (hl.add (t := 3) (hl.add (t := 6) (hl.add (t := 16) (hl.add (t := 17) (hl.nil) rfl) rfl) rfl) rfl) rfl) rfl; clear hl; have hl := hl2; clear hl2
  refine then_normal ?_
  refine c_cond hl rfl ?_ ?_
  · intro hc0
    try simp only [decide_eq_true_eq, decide_eq_false_iff_not, Bool.not_eq_true', Bool.not_eq_false', Bool.not_eq_true, Bool.not_eq_false, Bool.and_eq_true, Bool.or_eq_true, Bool.and_eq_false_iff, Bool.or_eq_false_iff, Bool.not_not, ne_eq, Int.not_lt, Int.not_le, Decidable.not_not, beq_iff_eq, bne_iff_ne] at hc0
    exfalso; first | contradiction | omega
  · intro hc0
    try simp only [decide_eq_true_eq, decide_eq_false_iff_not, Bool.not_eq_true', Bool.not_eq_false', Bool.not_eq_true, Bool.not_eq_false, Bool.and_eq_true, Bool.or_eq_true, Bool.and_eq_false_iff, Bool.or_eq_false_iff, Bool.not_not, ne_eq, Int.not_lt, Int.not_le, Decidable.not_not, beq_iff_eq, bne_iff_ne] at hc0
    refine c_region ?_
    refine wl (wl_val hl rfl trivial (r_eql hl rfl rfl) ?_)
    clear hl a; intro a hl
    refine wl (wl_val hl rfl trivial (r_assign hl rfl) ?_)
    clear hl a; intro a hl
    refine w_nil ?_
    have hl2 := hl.add (t := 0) (hl.add (t := 2) (hl.add (t := 3) (hl.add (t := 6) (hl.add (t := 16) (hl.add (t := 17) (hl.nil) rfl) rfl) rfl) rfl) rfl) rfl; clear hl; have hl := hl2; clear hl2
    refine then_normal ?_
    refine c_cond hl rfl ?_ ?_
    · intro hc1
      try simp only [decide_eq_true_eq, decide_eq_false_iff_not, Bool.not_eq_true', Bool.not_eq_false', Bool.not_eq_true, Bool.not_eq_false, Bool.and_eq_true, Bool.or_eq_true, Bool.and_eq_false_iff, Bool.or_eq_false_iff, Bool.not_not, ne_eq, Int.not_lt, Int.not_le, Decidable.not_not, beq_iff_eq, bne_iff_ne] at hc1
      exfalso; first | contradiction | omega
    · intro hc1
      try simp only [decide_eq_true_eq, decide_eq_false_iff_not, Bool.not_eq_true', Bool.not_eq_false', Bool.not_eq_true, Bool.not_eq_false, Bool.and_eq_true, Bool.or_eq_true, Bool.and_eq_false_iff, Bool.or_eq_false_iff, Bool.not_not, ne_eq, Int.not_lt, Int.not_le, Decidable.not_not, beq_iff_eq, bne_iff_ne] at hc1
      have hk12 : ¬ (i.k = 1 ∨ i.k = 2) := by omega
      have hcd := cd_k (c := c9) hk12
      refine c_seq ?_
      refine c_region ?_
      refine wl (wl_val hl rfl trivial (r_eql hl rfl rfl) ?_)
      clear hl a; intro a hl
      refine wl (wl_val hl rfl trivial (r_assign hl rfl) ?_)
      clear hl a; intro a hl
      refine w_nil ?_
      have hl2 := hl.add (t := 0) (hl.add (t := 2) (hl.add (t := 3) (hl.add (t := 6) (hl.add (t := 16) (hl.add (t := 55) (hl.nil) rfl) rfl) rfl) rfl) rfl) rfl; clear hl; have hl := hl2; clear hl2
      refine then_normal ?_
      refine c_cond hl rfl ?_ ?_
      · intro hc5
        try simp only [decide_eq_true_eq, decide_eq_false_iff_not, Bool.not_eq_true', Bool.not_eq_false', Bool.not_eq_true, Bool.not_eq_false, Bool.and_eq_true, Bool.or_eq_true, Bool.and_eq_false_iff, Bool.or_eq_false_iff, Bool.not_not, ne_eq, Int.not_lt, Int.not_le, Decidable.not_not, beq_iff_eq, bne_iff_ne] at hc5
        refine c_seq ?_
        rcases tlx hV id9 with ⟨z9, hm9, hz1, hz2, hz3⟩ | ⟨hm9, hz3⟩
        ·
          have hSs := hS.s (by omega) (by rw [hz3]; rfl)
          refine c_region ?_
          refine wl (wl_val hl rfl trivial (r_move hl rfl) ?_)
          clear hl a; intro a hl
          refine wl (wl_val hl rfl trivial (r_nilCheck hl rfl) ?_)
          clear hl a; intro a hl
          refine wl (wl_val hl rfl trivial (r_field hl rfl fld62_1) ?_)
          clear hl a; intro a hl
          refine wl (w_load hl hh rfl trivial one46 rfl (by repeat (first | exact find_head | apply find_tail | apply find_skip)) (by first | exact hcl | rfl) ?_)
          clear hl a; intro a hl
          refine wl (wl_val hl rfl trivial (r_move hl rfl) ?_)
          clear hl a; intro a hl
          refine wl (w_lookup2 (keyInt Try.underlying31) Try.underlying46 zero132 hl hh rfl trivial rfl rfl (by repeat (first | exact find_head | apply find_tail | apply find_skip)) ?_)
          clear hl a; intro a hl
          rw [hm9] at hl
          try simp only [Option.getD_some, Option.isSome_some] at hl
          refine wl (wl_val hl rfl trivial (r_move hl rfl) ?_)
          clear hl a; intro a hl
          refine wl (wl_val hl rfl trivial (r_extract hl rfl (by simp only [List.getElem?_toArray, List.getElem?_cons_zero, List.getElem?_cons_succ]; rfl)) ?_)
          clear hl a; intro a hl
          refine wl (wl_val hl rfl trivial (r_extract hl rfl (by simp only [List.getElem?_toArray, List.getElem?_cons_zero, List.getElem?_cons_succ]; rfl)) ?_)
          clear hl a; intro a hl
          refine wl (wl_val hl rfl trivial (r_assign hl rfl) ?_)
          clear hl a; intro a hl
          refine wl (wl_val hl rfl trivial (r_assign hl rfl) ?_)
          clear hl a; intro a hl
          refine w_nil ?_
          have hl2 := hl.add (t := 0) (hl.add (t := 3) (hl.add (t := 14) (hl.nil) rfl) rfl) rfl; clear hl; have hl := hl2; clear hl2
          refine then_normal ?_
          refine c_seq ?_
          refine c_region ?_
          refine wl (wl_val hl rfl trivial (r_move hl rfl) ?_)
          clear hl a; intro a hl
          refine wl (wl_val hl rfl trivial (r_move hl rfl) ?_)
          clear hl a; intro a hl
          refine wl (wl_val hl rfl ⟨_, _, rfl, rfl, rfl⟩ (r_move hl rfl) ?_)
          clear hl a; intro a hl
          refine wl (wl_val hl rfl ⟨_, _, rfl, rfl, rfl⟩ (r_neq hl rfl rfl) ?_)
          clear hl a; intro a hl
          refine wl (wl_val hl rfl trivial (r_pickT hl rfl rfl) ?_)
          clear hl a; intro a hl
          refine w_nil ?_
          have hl2 := hl.add (t := 0) (hl.add (t := 3) (hl.add (t := 70) (hl.nil) rfl) rfl) rfl; clear hl; have hl := hl2; clear hl2
          refine then_normal ?_
          refine c_cond hl rfl ?_ ?_
          · intro hc6
            try simp only [decide_eq_true_eq, decide_eq_false_iff_not, Bool.not_eq_true', Bool.not_eq_false', Bool.not_eq_true, Bool.not_eq_false, Bool.and_eq_true, Bool.or_eq_true, Bool.and_eq_false_iff, Bool.or_eq_false_iff, Bool.not_not, ne_eq, Int.not_lt, Int.not_le, Decidable.not_not, beq_iff_eq, bne_iff_ne] at hc6
            refine c_seq ?_
            refine c_region ?_
            refine wl (wl_val hl rfl trivial (r_assign hl rfl) ?_)
            clear hl a; intro a hl
            refine w_nil ?_
            have hl2 := hl.add (t := 10) (hl.nil) rfl; clear hl; have hl := hl2; clear hl2
            refine then_normal ?_
            refine wp_ret ?_
            refine blk_ret ?_
            refine then_ret ?_
            exfalso; omega
          · intro hc6
            try simp only [decide_eq_true_eq, decide_eq_false_iff_not, Bool.not_eq_true', Bool.not_eq_false', Bool.not_eq_true, Bool.not_eq_false, Bool.and_eq_true, Bool.or_eq_true, Bool.and_eq_false_iff, Bool.or_eq_false_iff, Bool.not_not, ne_eq, Int.not_lt, Int.not_le, Decidable.not_not, beq_iff_eq, bne_iff_ne] at hc6
            obtain ⟨V9, hV9⟩ : ∃ V9 : ToV, V9 = V := ⟨_, rfl⟩
            have hVo : V9.ok := by rw [hV9]; exact hV
            have hVp : V9.pl = V.pl.nx i c9 := by rw [hV9]; exact (tn_a hk12 (by omega)).symm
            replace hh := hh.keep (F' := (k6, C [.int .u8 i.k, .int .u32 i.id, .int .u32 i.i2, .slice p i.tx.length cap, .int .u8 i.v.k, .int .u8 i.v.a, .int .u8 i.v.b, .int .u8 i.v.w, .int .u8 i.v.da, .int .u8 i.v.dl, .int .u8 i.m.k, .int .u8 i.m.d, .int .u32 i.m.e, .int .u32 i.m.b, .bool i.m.y, .int .u32 i.m.r, .int .u32 i.m.s, .string i.m.t] 116) :: ((lb, C [.pointer (some ⟨wb, 0, none⟩), .map (some V.tb), .slice V.ip V.iv.length V.ic, .slice V.mp V.mb.length V.mc, .bool V.op] 62) :: ((V.tb, MO (kInt .u32) V.tm) :: (V.B ++ (((wb, C W.c 84) :: (W.tE ++ (W.gE ++ (DsF W.ds ++ W.GF Z)))) ++ Es))))) (by repeat (first | exact keeps_nil | apply keeps_cons (by repeat (first | exact find_head | apply find_tail | apply find_skip)) (by first  | (rw [hcd]; done) | rfl) | exact keeps_self | exact keeps_left | apply keeps_app | apply keeps_mv | apply keeps_skip))
            have h9l : V9.iv.length ≤ 1000 := by rw [hV9]; exact (show V.iv.length ≤ 1000 by omega)
            obtain ⟨E9, h9R, h9Z⟩ := hVo.i
            rw [show [.pointer (some ⟨wb, 0, none⟩), .map (some V.tb), .slice V.ip V.iv.length V.ic, .slice V.mp V.mb.length V.mc, .bool V.op] = toC wb V9 by rw [hV9]; rfl, show V.tb = V9.tb by rw [hV9], show V.tm = V9.tm by rw [hV9], show V.B = V9.B by rw [hV9]] at hh
            simp only [toC, List.cons_append, List.append_assoc] at hh
            refine wp_skip ?_
            refine blk_normal ?_
            refine then_normal ?_
            refine c_seq ?_
            refine c_draw [(k6, C [.int .u8 i.k, .int .u32 i.id, .int .u32 i.i2, .slice p i.tx.length cap, .int .u8 i.v.k, .int .u8 i.v.a, .int .u8 i.v.b, .int .u8 i.v.w, .int .u8 i.v.da, .int .u8 i.v.dl, .int .u8 i.m.k, .int .u8 i.m.d, .int .u32 i.m.e, .int .u32 i.m.b, .bool i.m.y, .int .u32 i.m.r, .int .u32 i.m.s, .string i.m.t] 116)] [17, 18, 19] mixed hh ?_
            clear hh w; intro w hh
            have hM : Mem [(k6, C [.int .u8 i.k, .int .u32 i.id, .int .u32 i.i2, .slice p i.tx.length cap, .int .u8 i.v.k, .int .u8 i.v.a, .int .u8 i.v.b, .int .u8 i.v.w, .int .u8 i.v.da, .int .u8 i.v.dl, .int .u8 i.m.k, .int .u8 i.m.d, .int .u32 i.m.e, .int .u32 i.m.b, .bool i.m.y, .int .u32 i.m.r, .int .u32 i.m.s, .string i.m.t] 116)] w := (memK hh (by repeat (first | exact keeps_nil | apply keeps_cons (by repeat (first | exact find_head | apply find_tail | apply find_skip)) (by first  | rfl) | exact keeps_self | exact keeps_left | apply keeps_app | apply keeps_mv | apply keeps_skip)))
            refine d_take (i := 0) hl rfl (by kernel_rfl) (by kernel_rfl) (by kernel_rfl) (by kernel_rfl) (by kernel_rfl) rfl trivial (fun _ _ _ h => h) hM (fun w hC => r_move hl rfl) rfl ?_
            clear hl a; intro a hl
            refine d_take (i := 1) hl rfl (by kernel_rfl) (by kernel_rfl) (by kernel_rfl) (by kernel_rfl) (by kernel_rfl) rfl trivial (fun _ _ _ h => h) hM (fun w hC => r_eql hl rfl rfl) rfl ?_
            clear hl a; intro a hl
            try rw [decide_eq_false (show ¬ (3 : Int) = 14 by omega)] at hl
            refine d_take (i := 2) hl rfl (by kernel_rfl) (by kernel_rfl) (by kernel_rfl) (by kernel_rfl) (by kernel_rfl) rfl trivial (fun _ _ _ h => h) hM (fun w hC => r_move hl rfl) rfl ?_
            clear hl a; intro a hl
            refine sl_split (t := 109) hl rfl ?_ ?_
            · intro hg1; clear hl; intro hl
              try simp only [decide_eq_true_eq, decide_eq_false_iff_not, Bool.not_eq_true', Bool.not_eq_false', Bool.not_eq_true, Bool.not_eq_false, Bool.and_eq_true, Bool.or_eq_true, Bool.and_eq_false_iff, Bool.or_eq_false_iff, Bool.not_not, ne_eq, Int.not_lt, Int.not_le, Decidable.not_not, beq_iff_eq, bne_iff_ne] at hg1
              refine d_skip (i := 3) hl rfl (by kernel_rfl) (by kernel_rfl) (by kernel_rfl) (by kernel_rfl) (by kernel_rfl) rfl ⟨_, _, rfl, rfl, rfl⟩ (fun _ _ _ h => h) hM ?_
              clear hl a; intro a hl
              refine d_skip (i := 4) hl rfl (by kernel_rfl) (by kernel_rfl) (by kernel_rfl) (by kernel_rfl) (by kernel_rfl) rfl ⟨_, _, rfl, rfl, rfl⟩ (fun _ _ _ h => h) hM ?_
              clear hl a; intro a hl
              refine d_skip (i := 5) hl rfl (by kernel_rfl) (by kernel_rfl) (by kernel_rfl) (by kernel_rfl) (by kernel_rfl) rfl ⟨_, _, rfl, rfl, rfl⟩ (fun _ _ _ h => h) hM ?_
              clear hl a; intro a hl
              refine d_skip (i := 6) hl rfl (by kernel_rfl) (by kernel_rfl) (by kernel_rfl) (by kernel_rfl) (by kernel_rfl) rfl ⟨_, _, rfl, rfl, rfl⟩ (fun _ _ _ h => h) hM ?_
              clear hl a; intro a hl
              refine d_skip (i := 7) hl rfl (by kernel_rfl) (by kernel_rfl) (by kernel_rfl) (by kernel_rfl) (by kernel_rfl) rfl ⟨_, _, rfl, rfl, rfl⟩ (fun _ _ _ h => h) hM ?_
              clear hl a; intro a hl
              refine d_skip (i := 8) hl rfl (by kernel_rfl) (by kernel_rfl) (by kernel_rfl) (by kernel_rfl) (by kernel_rfl) rfl ⟨_, _, rfl, rfl, rfl⟩ (fun _ _ _ h => h) hM ?_
              clear hl a; intro a hl
              refine d_skip (i := 9) hl rfl (by kernel_rfl) (by kernel_rfl) (by kernel_rfl) (by kernel_rfl) (by kernel_rfl) rfl ⟨_, _, rfl, rfl, rfl⟩ (fun _ _ _ h => h) hM ?_
              clear hl a; intro a hl
              refine d_skip (i := 10) hl rfl (by kernel_rfl) (by kernel_rfl) (by kernel_rfl) (by kernel_rfl) (by kernel_rfl) rfl ⟨_, _, rfl, rfl, rfl⟩ (fun _ _ _ h => h) hM ?_
              clear hl a; intro a hl
              refine d_skip (i := 11) hl rfl (by kernel_rfl) (by kernel_rfl) (by kernel_rfl) (by kernel_rfl) (by kernel_rfl) rfl ⟨_, _, rfl, rfl, rfl⟩ (fun _ _ _ h => h) hM ?_
              clear hl a; intro a hl
              refine d_skip (i := 12) hl rfl (by kernel_rfl) (by kernel_rfl) (by kernel_rfl) (by kernel_rfl) (by kernel_rfl) rfl ⟨_, _, rfl, rfl, rfl⟩ (fun _ _ _ h => h) hM ?_
              clear hl a; intro a hl
              refine d_skip (i := 13) hl rfl (by kernel_rfl) (by kernel_rfl) (by kernel_rfl) (by kernel_rfl) (by kernel_rfl) rfl ⟨_, _, rfl, rfl, rfl⟩ (fun _ _ _ h => h) hM ?_
              clear hl a; intro a hl
              refine d_skip (i := 14) hl rfl (by kernel_rfl) (by kernel_rfl) (by kernel_rfl) (by kernel_rfl) (by kernel_rfl) rfl ⟨_, _, rfl, rfl, rfl⟩ (fun _ _ _ h => h) hM ?_
              clear hl a; intro a hl
              refine d_skip (i := 15) hl rfl (by kernel_rfl) (by kernel_rfl) (by kernel_rfl) (by kernel_rfl) (by kernel_rfl) rfl ⟨_, _, rfl, rfl, rfl⟩ (fun _ _ _ h => h) hM ?_
              clear hl a; intro a hl
              refine d_skip (i := 16) hl rfl (by kernel_rfl) (by kernel_rfl) (by kernel_rfl) (by kernel_rfl) (by kernel_rfl) rfl ⟨_, _, rfl, rfl, rfl⟩ (fun _ _ _ h => h) hM ?_
              clear hl a; intro a hl
              refine d_skip (i := 17) hl rfl (by kernel_rfl) (by kernel_rfl) (by kernel_rfl) (by kernel_rfl) (by kernel_rfl) rfl ⟨_, _, rfl, rfl, rfl⟩ (fun _ _ _ h => h) hM ?_
              clear hl a; intro a hl
              refine d_takeL (i := 18) hl rfl (by kernel_rfl) (by kernel_rfl) (by kernel_rfl) (by kernel_rfl) (by kernel_rfl) rfl trivial (fun _ _ _ h => h) (fun w => r_pickT hl rfl rfl) rfl ?_
              clear hl a; intro a hl
              refine d_takeL (i := 19) hl rfl (by kernel_rfl) (by kernel_rfl) (by kernel_rfl) (by kernel_rfl) (by kernel_rfl) rfl trivial (fun _ _ _ h => h) (fun w => r_assign hl rfl) rfl ?_
              clear hl a; intro a hl
              refine d_done (by kernel_rfl) ?_
              try clear hM
              have hl2 := hl.add (t := 10) (hl.nil) rfl; clear hl; have hl := hl2; clear hl2
              refine then_normal ?_
              refine wp_ret ?_
              first
              | (have hsm : ¬ ToX.cd i c9 = 14 → sameP s1.is V9.iv = true := fun h => by
                   rcases hS.e with h9 | h9
                   · exact absurd h9 h
                   · rw [show s1.is = W.l.pl.d.is from congrArg StP.is hps1, show V9.iv = (V.pl.nx i c9).iv from congrArg ToX.iv hVp]; exact h9
                 refine f_ret1 (F' := (lb, C (toC wb V9) 62) :: ((V9.tb, MO (kInt .u32) V9.tm) :: (V9.B ++ (((wb, C W.c 84) :: (W.tE ++ (W.gE ++ (DsF W.ds ++ W.GF Z)))) ++ Es)))) hl hh rfl rfl (by repeat (first | exact keeps_nil | apply keeps_cons (by repeat (first | exact find_head | apply find_tail | apply find_skip)) (by first  | rfl) | exact keeps_self | exact keeps_left | apply keeps_app | apply keeps_mv | apply keeps_skip)) ?_
                 exact ⟨by rw [hsm (by omega)], V9, hVo, hVp, rfl⟩)
              | (refine f_ret1 (F' := (lb, C (toC wb V9) 62) :: ((V9.tb, MO (kInt .u32) V9.tm) :: (V9.B ++ (((wb, C W.c 84) :: (W.tE ++ (W.gE ++ (DsF W.ds ++ W.GF Z)))) ++ Es)))) hl hh rfl rfl (by repeat (first | exact keeps_nil | apply keeps_cons (by repeat (first | exact find_head | apply find_tail | apply find_skip)) (by first  | rfl) | exact keeps_self | exact keeps_left | apply keeps_app | apply keeps_mv | apply keeps_skip)) ?_
                 exact ⟨rfl, V9, hVo, hVp, rfl⟩)
            · intro hg1; clear hl; intro hl
              try simp only [decide_eq_true_eq, decide_eq_false_iff_not, Bool.not_eq_true', Bool.not_eq_false', Bool.not_eq_true, Bool.not_eq_false, Bool.and_eq_true, Bool.or_eq_true, Bool.and_eq_false_iff, Bool.or_eq_false_iff, Bool.not_not, ne_eq, Int.not_lt, Int.not_le, Decidable.not_not, beq_iff_eq, bne_iff_ne] at hg1
              refine d_take (i := 3) hl rfl (by kernel_rfl) (by kernel_rfl) (by kernel_rfl) (by kernel_rfl) (by kernel_rfl) rfl ⟨_, _, rfl, rfl, rfl⟩ (fun _ _ _ h => h) hM (fun w hC => r_move hl rfl) rfl ?_
              clear hl a; intro a hl
              refine d_take (i := 4) hl rfl (by kernel_rfl) (by kernel_rfl) (by kernel_rfl) (by kernel_rfl) (by kernel_rfl) rfl ⟨_, _, rfl, rfl, rfl⟩ (fun _ _ _ h => h) hM (fun w hC => r_nilCheck hl rfl) rfl ?_
              clear hl a; intro a hl
              refine d_take (i := 5) hl rfl (by kernel_rfl) (by kernel_rfl) (by kernel_rfl) (by kernel_rfl) (by kernel_rfl) rfl ⟨_, _, rfl, rfl, rfl⟩ (fun _ _ _ h => h) hM (fun w hC => r_field hl rfl fld62_0) rfl ?_
              clear hl a; intro a hl
              refine d_take (i := 6) hl rfl (by kernel_rfl) (by kernel_rfl) (by kernel_rfl) (by kernel_rfl) (by kernel_rfl) rfl ⟨_, _, rfl, rfl, rfl⟩ (fun _ _ _ h => h) hM (fun w hC => r_field hl rfl fld30_0) rfl ?_
              clear hl a; intro a hl
              refine d_take (i := 13) hl rfl (by kernel_rfl) (by kernel_rfl) (by kernel_rfl) (by kernel_rfl) (by kernel_rfl) rfl ⟨_, _, rfl, rfl, rfl⟩ (fun _ _ _ h => h) hM (fun w hC => r_move hl rfl) rfl ?_
              clear hl a; intro a hl
              refine d_take (i := 14) hl rfl (by kernel_rfl) (by kernel_rfl) (by kernel_rfl) (by kernel_rfl) (by kernel_rfl) rfl ⟨_, _, rfl, rfl, rfl⟩ (fun _ _ _ h => h) hM (fun w hC => r_nilCheck hl rfl) rfl ?_
              clear hl a; intro a hl
              refine d_take (i := 15) hl rfl (by kernel_rfl) (by kernel_rfl) (by kernel_rfl) (by kernel_rfl) (by kernel_rfl) rfl ⟨_, _, rfl, rfl, rfl⟩ (fun _ _ _ h => h) hM (fun w hC => r_field hl rfl fld62_2) rfl ?_
              clear hl a; intro a hl
              refine d_two (i := 7) (j := 16) (by kernel_rfl) rfl rfl ?_ ?_
              ·
                try clear hM
                refine id (w_load hl hh rfl ⟨_, _, rfl, rfl, rfl⟩ one28 rfl (by repeat (first | exact find_head | apply find_tail | apply find_skip)) (by first | exact hcl | rfl) ?_)
                clear hl a; intro a hl
                have hM : Mem [(k6, C [.int .u8 i.k, .int .u32 i.id, .int .u32 i.i2, .slice p i.tx.length cap, .int .u8 i.v.k, .int .u8 i.v.a, .int .u8 i.v.b, .int .u8 i.v.w, .int .u8 i.v.da, .int .u8 i.v.dl, .int .u8 i.m.k, .int .u8 i.m.d, .int .u32 i.m.e, .int .u32 i.m.b, .bool i.m.y, .int .u32 i.m.r, .int .u32 i.m.s, .string i.m.t] 116)] w := (memK hh (by repeat (first | exact keeps_nil | apply keeps_cons (by repeat (first | exact find_head | apply find_tail | apply find_skip)) (by first  | rfl) | exact keeps_self | exact keeps_left | apply keeps_app | apply keeps_mv | apply keeps_skip)))
                refine d_step (fun _ => hM) ?_
                refine d_take (i := 8) hl rfl (by kernel_rfl) (by kernel_rfl) (by kernel_rfl) (by kernel_rfl) (by kernel_rfl) rfl ⟨_, _, rfl, rfl, rfl⟩ (fun _ _ _ h => h) hM (fun w hC => r_nilCheck hl rfl) rfl ?_
                clear hl a; intro a hl
                refine d_take (i := 9) hl rfl (by kernel_rfl) (by kernel_rfl) (by kernel_rfl) (by kernel_rfl) (by kernel_rfl) rfl ⟨_, _, rfl, rfl, rfl⟩ (fun _ _ _ h => h) hM (fun w hC => r_field hl rfl fld84_0) rfl ?_
                clear hl a; intro a hl
                refine d_two (i := 10) (j := 16) (by kernel_rfl) rfl rfl ?_ ?_
                ·
                  try clear hM
                  refine id (w_load hl hh rfl ⟨_, _, rfl, rfl, rfl⟩ one77 rfl (by repeat (first | exact find_head | apply find_tail | apply find_skip)) (by first | exact hcl | rfl) ?_)
                  clear hl a; intro a hl
                  have hM : Mem [(k6, C [.int .u8 i.k, .int .u32 i.id, .int .u32 i.i2, .slice p i.tx.length cap, .int .u8 i.v.k, .int .u8 i.v.a, .int .u8 i.v.b, .int .u8 i.v.w, .int .u8 i.v.da, .int .u8 i.v.dl, .int .u8 i.m.k, .int .u8 i.m.d, .int .u32 i.m.e, .int .u32 i.m.b, .bool i.m.y, .int .u32 i.m.r, .int .u32 i.m.s, .string i.m.t] 116)] w := (memK hh (by repeat (first | exact keeps_nil | apply keeps_cons (by repeat (first | exact find_head | apply find_tail | apply find_skip)) (by first  | rfl) | exact keeps_self | exact keeps_left | apply keeps_app | apply keeps_mv | apply keeps_skip)))
                  refine d_step (fun _ => hM) ?_
                  refine d_two (i := 11) (j := 16) (by kernel_rfl) rfl rfl ?_ ?_
                  ·
                    try clear hM
                    refine id (w_call hl hh rfl ⟨_, _, rfl, rfl, rfl⟩ rfl cal16 rfl (durW W Z hW) (by repeat (first | exact keeps_nil | apply keeps_cons (by repeat (first | exact find_head | apply find_tail | apply find_skip)) (by first  | rfl) | exact keeps_self | exact keeps_left | apply keeps_app | apply keeps_mv | apply keeps_skip)) trivial ?_)
                    clear hl hh a w; intro vc Fc a w hR hl hh
                    obtain ⟨s1, hs1, hps1, rfl, rfl⟩ := hR
                    try simp only [List.cons_append, List.nil_append, List.append_assoc, List.append_nil] at hh
                    try simp only [List.append_assoc] at hh
                    have hphs1 : s1.ph = W.l.pl.d.ph := congrArg StP.ph hps1
                    have hM : Mem [(k6, C [.int .u8 i.k, .int .u32 i.id, .int .u32 i.i2, .slice p i.tx.length cap, .int .u8 i.v.k, .int .u8 i.v.a, .int .u8 i.v.b, .int .u8 i.v.w, .int .u8 i.v.da, .int .u8 i.v.dl, .int .u8 i.m.k, .int .u8 i.m.d, .int .u32 i.m.e, .int .u32 i.m.b, .bool i.m.y, .int .u32 i.m.r, .int .u32 i.m.s, .string i.m.t] 116)] w := (memK hh (by repeat (first | exact keeps_nil | apply keeps_cons (by repeat (first | exact find_head | apply find_tail | apply find_skip)) (by first  | rfl) | exact keeps_self | exact keeps_left | apply keeps_app | apply keeps_mv | apply keeps_skip)))
                    refine d_step (fun _ => hM) ?_
                    refine d_take (i := 12) hl rfl (by kernel_rfl) (by kernel_rfl) (by kernel_rfl) (by kernel_rfl) (by kernel_rfl) rfl ⟨_, _, rfl, rfl, rfl⟩ (fun _ _ _ h => h) hM (fun w hC => r_fieldV hl rfl fldT48_2 one33 (stc_2 s1)) rfl ?_
                    clear hl a; intro a hl
                    refine d_one (i := 16) (by kernel_rfl) rfl ?_
                    try clear hM
                    refine id (w_load hl hh rfl ⟨_, _, rfl, rfl, rfl⟩ one33 rfl (by repeat (first | exact find_head | apply find_tail | apply find_skip)) (by first | exact hcl | rfl) ?_)
                    clear hl a; intro a hl
                    have hM : Mem [(k6, C [.int .u8 i.k, .int .u32 i.id, .int .u32 i.i2, .slice p i.tx.length cap, .int .u8 i.v.k, .int .u8 i.v.a, .int .u8 i.v.b, .int .u8 i.v.w, .int .u8 i.v.da, .int .u8 i.v.dl, .int .u8 i.m.k, .int .u8 i.m.d, .int .u32 i.m.e, .int .u32 i.m.b, .bool i.m.y, .int .u32 i.m.r, .int .u32 i.m.s, .string i.m.t] 116)] w := (memK hh (by repeat (first | exact keeps_nil | apply keeps_cons (by repeat (first | exact find_head | apply find_tail | apply find_skip)) (by first  | rfl) | exact keeps_self | exact keeps_left | apply keeps_app | apply keeps_mv | apply keeps_skip)))
                    refine d_step (fun _ => hM) ?_
                    refine d_one (i := 17) (by kernel_rfl) rfl ?_
                    try clear hM
                    refine id (w_call hl hh rfl ⟨_, _, rfl, rfl, rfl⟩ rfl cal115 rfl (same_spec s1.is V9.iv s1.ip V9.ip s1.ic V9.ic s1.iE E9 hs1.i h9R hs1.io hVo.io (by have := hs1.il; omega) (by omega)) (by repeat (first | exact keeps_nil | apply keeps_cons (by repeat (first | exact find_head | apply find_tail | apply find_skip)) (by first  | rfl) | exact keeps_self | exact keeps_left | apply keeps_app | apply keeps_mv | apply keeps_skip)) ⟨fun b o m => memK (E := s1.E) hh (by repeat (first | exact keeps_nil | apply keeps_cons (by repeat (first | exact find_head | apply find_tail | apply find_skip)) (by first  | rfl) | exact keeps_self | exact keeps_left | apply keeps_app | apply keeps_mv | apply keeps_skip)) b o (inE_i m), fun b o m => memK (E := V9.B) hh (by repeat (first | exact keeps_nil | apply keeps_cons (by repeat (first | exact find_head | apply find_tail | apply find_skip)) (by first  | rfl) | exact keeps_self | exact keeps_left | apply keeps_app | apply keeps_mv | apply keeps_skip)) b o (h9Z _ m)⟩ ?_)
                    clear hl hh a w; intro vc Fc a w hR hl hh
                    obtain ⟨rfl, rfl⟩ := hR
                    try simp only [List.cons_append, List.nil_append, List.append_assoc, List.append_nil] at hh
                    refine d_step (fun h => absurd h (by decide)) ?_
                    refine d_takeL (i := 18) hl rfl (by kernel_rfl) (by kernel_rfl) (by kernel_rfl) (by kernel_rfl) (by kernel_rfl) rfl trivial (fun _ _ _ h => h) (fun w => r_pickF hl rfl rfl) rfl ?_
                    clear hl a; intro a hl
                    refine d_takeL (i := 19) hl rfl (by kernel_rfl) (by kernel_rfl) (by kernel_rfl) (by kernel_rfl) (by kernel_rfl) rfl trivial (fun _ _ _ h => h) (fun w => r_assign hl rfl) rfl ?_
                    clear hl a; intro a hl
                    refine d_done (by kernel_rfl) ?_
                    try clear hM
                    have hl2 := hl.add (t := 10) (hl.nil) rfl; clear hl; have hl := hl2; clear hl2
                    refine then_normal ?_
                    refine wp_ret ?_
                    first
                    | (have hsm : ¬ ToX.cd i c9 = 14 → sameP s1.is V9.iv = true := fun h => by
                         rcases hS.e with h9 | h9
                         · exact absurd h9 h
                         · rw [show s1.is = W.l.pl.d.is from congrArg StP.is hps1, show V9.iv = (V.pl.nx i c9).iv from congrArg ToX.iv hVp]; exact h9
                       refine f_ret1 (F' := (lb, C (toC wb V9) 62) :: ((V9.tb, MO (kInt .u32) V9.tm) :: (V9.B ++ (((wb, C W.c 84) :: (W.tE ++ (W.gE ++ (DsF W.ds ++ W.GF Z)))) ++ Es)))) hl hh rfl rfl (by repeat (first | exact keeps_nil | apply keeps_cons (by repeat (first | exact find_head | apply find_tail | apply find_skip)) (by first  | rfl) | exact keeps_self | exact keeps_left | apply keeps_app | apply keeps_mv | apply keeps_skip)) ?_
                       exact ⟨by rw [hsm (by omega)], V9, hVo, hVp, rfl⟩)
                    | (refine f_ret1 (F' := (lb, C (toC wb V9) 62) :: ((V9.tb, MO (kInt .u32) V9.tm) :: (V9.B ++ (((wb, C W.c 84) :: (W.tE ++ (W.gE ++ (DsF W.ds ++ W.GF Z)))) ++ Es)))) hl hh rfl rfl (by repeat (first | exact keeps_nil | apply keeps_cons (by repeat (first | exact find_head | apply find_tail | apply find_skip)) (by first  | rfl) | exact keeps_self | exact keeps_left | apply keeps_app | apply keeps_mv | apply keeps_skip)) ?_
                       exact ⟨rfl, V9, hVo, hVp, rfl⟩)
                  ·
                    try clear hM
                    refine id (w_load hl hh rfl ⟨_, _, rfl, rfl, rfl⟩ one33 rfl (by repeat (first | exact find_head | apply find_tail | apply find_skip)) (by first | exact hcl | rfl) ?_)
                    clear hl a; intro a hl
                    have hM : Mem [(k6, C [.int .u8 i.k, .int .u32 i.id, .int .u32 i.i2, .slice p i.tx.length cap, .int .u8 i.v.k, .int .u8 i.v.a, .int .u8 i.v.b, .int .u8 i.v.w, .int .u8 i.v.da, .int .u8 i.v.dl, .int .u8 i.m.k, .int .u8 i.m.d, .int .u32 i.m.e, .int .u32 i.m.b, .bool i.m.y, .int .u32 i.m.r, .int .u32 i.m.s, .string i.m.t] 116)] w := (memK hh (by repeat (first | exact keeps_nil | apply keeps_cons (by repeat (first | exact find_head | apply find_tail | apply find_skip)) (by first  | rfl) | exact keeps_self | exact keeps_left | apply keeps_app | apply keeps_mv | apply keeps_skip)))
                    refine d_step (fun _ => hM) ?_
                    refine d_one (i := 11) (by kernel_rfl) rfl ?_
                    try clear hM
                    refine id (w_call hl hh rfl ⟨_, _, rfl, rfl, rfl⟩ rfl cal16 rfl (durW W Z hW) (by repeat (first | exact keeps_nil | apply keeps_cons (by repeat (first | exact find_head | apply find_tail | apply find_skip)) (by first  | rfl) | exact keeps_self | exact keeps_left | apply keeps_app | apply keeps_mv | apply keeps_skip)) trivial ?_)
                    clear hl hh a w; intro vc Fc a w hR hl hh
                    obtain ⟨s1, hs1, hps1, rfl, rfl⟩ := hR
                    try simp only [List.cons_append, List.nil_append, List.append_assoc, List.append_nil] at hh
                    try simp only [List.append_assoc] at hh
                    have hphs1 : s1.ph = W.l.pl.d.ph := congrArg StP.ph hps1
                    have hM : Mem [(k6, C [.int .u8 i.k, .int .u32 i.id, .int .u32 i.i2, .slice p i.tx.length cap, .int .u8 i.v.k, .int .u8 i.v.a, .int .u8 i.v.b, .int .u8 i.v.w, .int .u8 i.v.da, .int .u8 i.v.dl, .int .u8 i.m.k, .int .u8 i.m.d, .int .u32 i.m.e, .int .u32 i.m.b, .bool i.m.y, .int .u32 i.m.r, .int .u32 i.m.s, .string i.m.t] 116)] w := (memK hh (by repeat (first | exact keeps_nil | apply keeps_cons (by repeat (first | exact find_head | apply find_tail | apply find_skip)) (by first  | rfl) | exact keeps_self | exact keeps_left | apply keeps_app | apply keeps_mv | apply keeps_skip)))
                    refine d_step (fun _ => hM) ?_
                    refine d_take (i := 12) hl rfl (by kernel_rfl) (by kernel_rfl) (by kernel_rfl) (by kernel_rfl) (by kernel_rfl) rfl ⟨_, _, rfl, rfl, rfl⟩ (fun _ _ _ h => h) hM (fun w hC => r_fieldV hl rfl fldT48_2 one33 (stc_2 s1)) rfl ?_
                    clear hl a; intro a hl
                    refine d_one (i := 17) (by kernel_rfl) rfl ?_
                    try clear hM
                    refine id (w_call hl hh rfl ⟨_, _, rfl, rfl, rfl⟩ rfl cal115 rfl (same_spec s1.is V9.iv s1.ip V9.ip s1.ic V9.ic s1.iE E9 hs1.i h9R hs1.io hVo.io (by have := hs1.il; omega) (by omega)) (by repeat (first | exact keeps_nil | apply keeps_cons (by repeat (first | exact find_head | apply find_tail | apply find_skip)) (by first  | rfl) | exact keeps_self | exact keeps_left | apply keeps_app | apply keeps_mv | apply keeps_skip)) ⟨fun b o m => memK (E := s1.E) hh (by repeat (first | exact keeps_nil | apply keeps_cons (by repeat (first | exact find_head | apply find_tail | apply find_skip)) (by first  | rfl) | exact keeps_self | exact keeps_left | apply keeps_app | apply keeps_mv | apply keeps_skip)) b o (inE_i m), fun b o m => memK (E := V9.B) hh (by repeat (first | exact keeps_nil | apply keeps_cons (by repeat (first | exact find_head | apply find_tail | apply find_skip)) (by first  | rfl) | exact keeps_self | exact keeps_left | apply keeps_app | apply keeps_mv | apply keeps_skip)) b o (h9Z _ m)⟩ ?_)
                    clear hl hh a w; intro vc Fc a w hR hl hh
                    obtain ⟨rfl, rfl⟩ := hR
                    try simp only [List.cons_append, List.nil_append, List.append_assoc, List.append_nil] at hh
                    refine d_step (fun h => absurd h (by decide)) ?_
                    refine d_takeL (i := 18) hl rfl (by kernel_rfl) (by kernel_rfl) (by kernel_rfl) (by kernel_rfl) (by kernel_rfl) rfl trivial (fun _ _ _ h => h) (fun w => r_pickF hl rfl rfl) rfl ?_
                    clear hl a; intro a hl
                    refine d_takeL (i := 19) hl rfl (by kernel_rfl) (by kernel_rfl) (by kernel_rfl) (by kernel_rfl) (by kernel_rfl) rfl trivial (fun _ _ _ h => h) (fun w => r_assign hl rfl) rfl ?_
                    clear hl a; intro a hl
                    refine d_done (by kernel_rfl) ?_
                    try clear hM
                    have hl2 := hl.add (t := 10) (hl.nil) rfl; clear hl; have hl := hl2; clear hl2
                    refine then_normal ?_
                    refine wp_ret ?_
                    first
                    | (have hsm : ¬ ToX.cd i c9 = 14 → sameP s1.is V9.iv = true := fun h => by
                         rcases hS.e with h9 | h9
                         · exact absurd h9 h
                         · rw [show s1.is = W.l.pl.d.is from congrArg StP.is hps1, show V9.iv = (V.pl.nx i c9).iv from congrArg ToX.iv hVp]; exact h9
                       refine f_ret1 (F' := (lb, C (toC wb V9) 62) :: ((V9.tb, MO (kInt .u32) V9.tm) :: (V9.B ++ (((wb, C W.c 84) :: (W.tE ++ (W.gE ++ (DsF W.ds ++ W.GF Z)))) ++ Es)))) hl hh rfl rfl (by repeat (first | exact keeps_nil | apply keeps_cons (by repeat (first | exact find_head | apply find_tail | apply find_skip)) (by first  | rfl) | exact keeps_self | exact keeps_left | apply keeps_app | apply keeps_mv | apply keeps_skip)) ?_
                       exact ⟨by rw [hsm (by omega)], V9, hVo, hVp, rfl⟩)
                    | (refine f_ret1 (F' := (lb, C (toC wb V9) 62) :: ((V9.tb, MO (kInt .u32) V9.tm) :: (V9.B ++ (((wb, C W.c 84) :: (W.tE ++ (W.gE ++ (DsF W.ds ++ W.GF Z)))) ++ Es)))) hl hh rfl rfl (by repeat (first | exact keeps_nil | apply keeps_cons (by repeat (first | exact find_head | apply find_tail | apply find_skip)) (by first  | rfl) | exact keeps_self | exact keeps_left | apply keeps_app | apply keeps_mv | apply keeps_skip)) ?_
                       exact ⟨rfl, V9, hVo, hVp, rfl⟩)
                ·
                  try clear hM
                  refine id (w_load hl hh rfl ⟨_, _, rfl, rfl, rfl⟩ one33 rfl (by repeat (first | exact find_head | apply find_tail | apply find_skip)) (by first | exact hcl | rfl) ?_)
                  clear hl a; intro a hl
                  have hM : Mem [(k6, C [.int .u8 i.k, .int .u32 i.id, .int .u32 i.i2, .slice p i.tx.length cap, .int .u8 i.v.k, .int .u8 i.v.a, .int .u8 i.v.b, .int .u8 i.v.w, .int .u8 i.v.da, .int .u8 i.v.dl, .int .u8 i.m.k, .int .u8 i.m.d, .int .u32 i.m.e, .int .u32 i.m.b, .bool i.m.y, .int .u32 i.m.r, .int .u32 i.m.s, .string i.m.t] 116)] w := (memK hh (by repeat (first | exact keeps_nil | apply keeps_cons (by repeat (first | exact find_head | apply find_tail | apply find_skip)) (by first  | rfl) | exact keeps_self | exact keeps_left | apply keeps_app | apply keeps_mv | apply keeps_skip)))
                  refine d_step (fun _ => hM) ?_
                  refine d_one (i := 10) (by kernel_rfl) rfl ?_
                  try clear hM
                  refine id (w_load hl hh rfl ⟨_, _, rfl, rfl, rfl⟩ one77 rfl (by repeat (first | exact find_head | apply find_tail | apply find_skip)) (by first | exact hcl | rfl) ?_)
                  clear hl a; intro a hl
                  have hM : Mem [(k6, C [.int .u8 i.k, .int .u32 i.id, .int .u32 i.i2, .slice p i.tx.length cap, .int .u8 i.v.k, .int .u8 i.v.a, .int .u8 i.v.b, .int .u8 i.v.w, .int .u8 i.v.da, .int .u8 i.v.dl, .int .u8 i.m.k, .int .u8 i.m.d, .int .u32 i.m.e, .int .u32 i.m.b, .bool i.m.y, .int .u32 i.m.r, .int .u32 i.m.s, .string i.m.t] 116)] w := (memK hh (by repeat (first | exact keeps_nil | apply keeps_cons (by repeat (first | exact find_head | apply find_tail | apply find_skip)) (by first  | rfl) | exact keeps_self | exact keeps_left | apply keeps_app | apply keeps_mv | apply keeps_skip)))
                  refine d_step (fun _ => hM) ?_
                  refine d_one (i := 11) (by kernel_rfl) rfl ?_
                  try clear hM
                  refine id (w_call hl hh rfl ⟨_, _, rfl, rfl, rfl⟩ rfl cal16 rfl (durW W Z hW) (by repeat (first | exact keeps_nil | apply keeps_cons (by repeat (first | exact find_head | apply find_tail | apply find_skip)) (by first  | rfl) | exact keeps_self | exact keeps_left | apply keeps_app | apply keeps_mv | apply keeps_skip)) trivial ?_)
                  clear hl hh a w; intro vc Fc a w hR hl hh
                  obtain ⟨s1, hs1, hps1, rfl, rfl⟩ := hR
                  try simp only [List.cons_append, List.nil_append, List.append_assoc, List.append_nil] at hh
                  try simp only [List.append_assoc] at hh
                  have hphs1 : s1.ph = W.l.pl.d.ph := congrArg StP.ph hps1
                  have hM : Mem [(k6, C [.int .u8 i.k, .int .u32 i.id, .int .u32 i.i2, .slice p i.tx.length cap, .int .u8 i.v.k, .int .u8 i.v.a, .int .u8 i.v.b, .int .u8 i.v.w, .int .u8 i.v.da, .int .u8 i.v.dl, .int .u8 i.m.k, .int .u8 i.m.d, .int .u32 i.m.e, .int .u32 i.m.b, .bool i.m.y, .int .u32 i.m.r, .int .u32 i.m.s, .string i.m.t] 116)] w := (memK hh (by repeat (first | exact keeps_nil | apply keeps_cons (by repeat (first | exact find_head | apply find_tail | apply find_skip)) (by first  | rfl) | exact keeps_self | exact keeps_left | apply keeps_app | apply keeps_mv | apply keeps_skip)))
                  refine d_step (fun _ => hM) ?_
                  refine d_take (i := 12) hl rfl (by kernel_rfl) (by kernel_rfl) (by kernel_rfl) (by kernel_rfl) (by kernel_rfl) rfl ⟨_, _, rfl, rfl, rfl⟩ (fun _ _ _ h => h) hM (fun w hC => r_fieldV hl rfl fldT48_2 one33 (stc_2 s1)) rfl ?_
                  clear hl a; intro a hl
                  refine d_one (i := 17) (by kernel_rfl) rfl ?_
                  try clear hM
                  refine id (w_call hl hh rfl ⟨_, _, rfl, rfl, rfl⟩ rfl cal115 rfl (same_spec s1.is V9.iv s1.ip V9.ip s1.ic V9.ic s1.iE E9 hs1.i h9R hs1.io hVo.io (by have := hs1.il; omega) (by omega)) (by repeat (first | exact keeps_nil | apply keeps_cons (by repeat (first | exact find_head | apply find_tail | apply find_skip)) (by first  | rfl) | exact keeps_self | exact keeps_left | apply keeps_app | apply keeps_mv | apply keeps_skip)) ⟨fun b o m => memK (E := s1.E) hh (by repeat (first | exact keeps_nil | apply keeps_cons (by repeat (first | exact find_head | apply find_tail | apply find_skip)) (by first  | rfl) | exact keeps_self | exact keeps_left | apply keeps_app | apply keeps_mv | apply keeps_skip)) b o (inE_i m), fun b o m => memK (E := V9.B) hh (by repeat (first | exact keeps_nil | apply keeps_cons (by repeat (first | exact find_head | apply find_tail | apply find_skip)) (by first  | rfl) | exact keeps_self | exact keeps_left | apply keeps_app | apply keeps_mv | apply keeps_skip)) b o (h9Z _ m)⟩ ?_)
                  clear hl hh a w; intro vc Fc a w hR hl hh
                  obtain ⟨rfl, rfl⟩ := hR
                  try simp only [List.cons_append, List.nil_append, List.append_assoc, List.append_nil] at hh
                  refine d_step (fun h => absurd h (by decide)) ?_
                  refine d_takeL (i := 18) hl rfl (by kernel_rfl) (by kernel_rfl) (by kernel_rfl) (by kernel_rfl) (by kernel_rfl) rfl trivial (fun _ _ _ h => h) (fun w => r_pickF hl rfl rfl) rfl ?_
                  clear hl a; intro a hl
                  refine d_takeL (i := 19) hl rfl (by kernel_rfl) (by kernel_rfl) (by kernel_rfl) (by kernel_rfl) (by kernel_rfl) rfl trivial (fun _ _ _ h => h) (fun w => r_assign hl rfl) rfl ?_
                  clear hl a; intro a hl
                  refine d_done (by kernel_rfl) ?_
                  try clear hM
                  have hl2 := hl.add (t := 10) (hl.nil) rfl; clear hl; have hl := hl2; clear hl2
                  refine then_normal ?_
                  refine wp_ret ?_
                  first
                  | (have hsm : ¬ ToX.cd i c9 = 14 → sameP s1.is V9.iv = true := fun h => by
                       rcases hS.e with h9 | h9
                       · exact absurd h9 h
                       · rw [show s1.is = W.l.pl.d.is from congrArg StP.is hps1, show V9.iv = (V.pl.nx i c9).iv from congrArg ToX.iv hVp]; exact h9
                     refine f_ret1 (F' := (lb, C (toC wb V9) 62) :: ((V9.tb, MO (kInt .u32) V9.tm) :: (V9.B ++ (((wb, C W.c 84) :: (W.tE ++ (W.gE ++ (DsF W.ds ++ W.GF Z)))) ++ Es)))) hl hh rfl rfl (by repeat (first | exact keeps_nil | apply keeps_cons (by repeat (first | exact find_head | apply find_tail | apply find_skip)) (by first  | rfl) | exact keeps_self | exact keeps_left | apply keeps_app | apply keeps_mv | apply keeps_skip)) ?_
                     exact ⟨by rw [hsm (by omega)], V9, hVo, hVp, rfl⟩)
                  | (refine f_ret1 (F' := (lb, C (toC wb V9) 62) :: ((V9.tb, MO (kInt .u32) V9.tm) :: (V9.B ++ (((wb, C W.c 84) :: (W.tE ++ (W.gE ++ (DsF W.ds ++ W.GF Z)))) ++ Es)))) hl hh rfl rfl (by repeat (first | exact keeps_nil | apply keeps_cons (by repeat (first | exact find_head | apply find_tail | apply find_skip)) (by first  | rfl) | exact keeps_self | exact keeps_left | apply keeps_app | apply keeps_mv | apply keeps_skip)) ?_
                     exact ⟨rfl, V9, hVo, hVp, rfl⟩)
              ·
                try clear hM
                refine id (w_load hl hh rfl ⟨_, _, rfl, rfl, rfl⟩ one33 rfl (by repeat (first | exact find_head | apply find_tail | apply find_skip)) (by first | exact hcl | rfl) ?_)
                clear hl a; intro a hl
                have hM : Mem [(k6, C [.int .u8 i.k, .int .u32 i.id, .int .u32 i.i2, .slice p i.tx.length cap, .int .u8 i.v.k, .int .u8 i.v.a, .int .u8 i.v.b, .int .u8 i.v.w, .int .u8 i.v.da, .int .u8 i.v.dl, .int .u8 i.m.k, .int .u8 i.m.d, .int .u32 i.m.e, .int .u32 i.m.b, .bool i.m.y, .int .u32 i.m.r, .int .u32 i.m.s, .string i.m.t] 116)] w := (memK hh (by repeat (first | exact keeps_nil | apply keeps_cons (by repeat (first | exact find_head | apply find_tail | apply find_skip)) (by first  | rfl) | exact keeps_self | exact keeps_left | apply keeps_app | apply keeps_mv | apply keeps_skip)))
                refine d_step (fun _ => hM) ?_
                refine d_one (i := 7) (by kernel_rfl) rfl ?_
                try clear hM
                refine id (w_load hl hh rfl ⟨_, _, rfl, rfl, rfl⟩ one28 rfl (by repeat (first | exact find_head | apply find_tail | apply find_skip)) (by first | exact hcl | rfl) ?_)
                clear hl a; intro a hl
                have hM : Mem [(k6, C [.int .u8 i.k, .int .u32 i.id, .int .u32 i.i2, .slice p i.tx.length cap, .int .u8 i.v.k, .int .u8 i.v.a, .int .u8 i.v.b, .int .u8 i.v.w, .int .u8 i.v.da, .int .u8 i.v.dl, .int .u8 i.m.k, .int .u8 i.m.d, .int .u32 i.m.e, .int .u32 i.m.b, .bool i.m.y, .int .u32 i.m.r, .int .u32 i.m.s, .string i.m.t] 116)] w := (memK hh (by repeat (first | exact keeps_nil | apply keeps_cons (by repeat (first | exact find_head | apply find_tail | apply find_skip)) (by first  | rfl) | exact keeps_self | exact keeps_left | apply keeps_app | apply keeps_mv | apply keeps_skip)))
                refine d_step (fun _ => hM) ?_
                refine d_take (i := 8) hl rfl (by kernel_rfl) (by kernel_rfl) (by kernel_rfl) (by kernel_rfl) (by kernel_rfl) rfl ⟨_, _, rfl, rfl, rfl⟩ (fun _ _ _ h => h) hM (fun w hC => r_nilCheck hl rfl) rfl ?_
                clear hl a; intro a hl
                refine d_take (i := 9) hl rfl (by kernel_rfl) (by kernel_rfl) (by kernel_rfl) (by kernel_rfl) (by kernel_rfl) rfl ⟨_, _, rfl, rfl, rfl⟩ (fun _ _ _ h => h) hM (fun w hC => r_field hl rfl fld84_0) rfl ?_
                clear hl a; intro a hl
                refine d_one (i := 10) (by kernel_rfl) rfl ?_
                try clear hM
                refine id (w_load hl hh rfl ⟨_, _, rfl, rfl, rfl⟩ one77 rfl (by repeat (first | exact find_head | apply find_tail | apply find_skip)) (by first | exact hcl | rfl) ?_)
                clear hl a; intro a hl
                have hM : Mem [(k6, C [.int .u8 i.k, .int .u32 i.id, .int .u32 i.i2, .slice p i.tx.length cap, .int .u8 i.v.k, .int .u8 i.v.a, .int .u8 i.v.b, .int .u8 i.v.w, .int .u8 i.v.da, .int .u8 i.v.dl, .int .u8 i.m.k, .int .u8 i.m.d, .int .u32 i.m.e, .int .u32 i.m.b, .bool i.m.y, .int .u32 i.m.r, .int .u32 i.m.s, .string i.m.t] 116)] w := (memK hh (by repeat (first | exact keeps_nil | apply keeps_cons (by repeat (first | exact find_head | apply find_tail | apply find_skip)) (by first  | rfl) | exact keeps_self | exact keeps_left | apply keeps_app | apply keeps_mv | apply keeps_skip)))
                refine d_step (fun _ => hM) ?_
                refine d_one (i := 11) (by kernel_rfl) rfl ?_
                try clear hM
                refine id (w_call hl hh rfl ⟨_, _, rfl, rfl, rfl⟩ rfl cal16 rfl (durW W Z hW) (by repeat (first | exact keeps_nil | apply keeps_cons (by repeat (first | exact find_head | apply find_tail | apply find_skip)) (by first  | rfl) | exact keeps_self | exact keeps_left | apply keeps_app | apply keeps_mv | apply keeps_skip)) trivial ?_)
                clear hl hh a w; intro vc Fc a w hR hl hh
                obtain ⟨s1, hs1, hps1, rfl, rfl⟩ := hR
                try simp only [List.cons_append, List.nil_append, List.append_assoc, List.append_nil] at hh
                try simp only [List.append_assoc] at hh
                have hphs1 : s1.ph = W.l.pl.d.ph := congrArg StP.ph hps1
                have hM : Mem [(k6, C [.int .u8 i.k, .int .u32 i.id, .int .u32 i.i2, .slice p i.tx.length cap, .int .u8 i.v.k, .int .u8 i.v.a, .int .u8 i.v.b, .int .u8 i.v.w, .int .u8 i.v.da, .int .u8 i.v.dl, .int .u8 i.m.k, .int .u8 i.m.d, .int .u32 i.m.e, .int .u32 i.m.b, .bool i.m.y, .int .u32 i.m.r, .int .u32 i.m.s, .string i.m.t] 116)] w := (memK hh (by repeat (first | exact keeps_nil | apply keeps_cons (by repeat (first | exact find_head | apply find_tail | apply find_skip)) (by first  | rfl) | exact keeps_self | exact keeps_left | apply keeps_app | apply keeps_mv | apply keeps_skip)))
                refine d_step (fun _ => hM) ?_
                refine d_take (i := 12) hl rfl (by kernel_rfl) (by kernel_rfl) (by kernel_rfl) (by kernel_rfl) (by kernel_rfl) rfl ⟨_, _, rfl, rfl, rfl⟩ (fun _ _ _ h => h) hM (fun w hC => r_fieldV hl rfl fldT48_2 one33 (stc_2 s1)) rfl ?_
                clear hl a; intro a hl
                refine d_one (i := 17) (by kernel_rfl) rfl ?_
                try clear hM
                refine id (w_call hl hh rfl ⟨_, _, rfl, rfl, rfl⟩ rfl cal115 rfl (same_spec s1.is V9.iv s1.ip V9.ip s1.ic V9.ic s1.iE E9 hs1.i h9R hs1.io hVo.io (by have := hs1.il; omega) (by omega)) (by repeat (first | exact keeps_nil | apply keeps_cons (by repeat (first | exact find_head | apply find_tail | apply find_skip)) (by first  | rfl) | exact keeps_self | exact keeps_left | apply keeps_app | apply keeps_mv | apply keeps_skip)) ⟨fun b o m => memK (E := s1.E) hh (by repeat (first | exact keeps_nil | apply keeps_cons (by repeat (first | exact find_head | apply find_tail | apply find_skip)) (by first  | rfl) | exact keeps_self | exact keeps_left | apply keeps_app | apply keeps_mv | apply keeps_skip)) b o (inE_i m), fun b o m => memK (E := V9.B) hh (by repeat (first | exact keeps_nil | apply keeps_cons (by repeat (first | exact find_head | apply find_tail | apply find_skip)) (by first  | rfl) | exact keeps_self | exact keeps_left | apply keeps_app | apply keeps_mv | apply keeps_skip)) b o (h9Z _ m)⟩ ?_)
                clear hl hh a w; intro vc Fc a w hR hl hh
                obtain ⟨rfl, rfl⟩ := hR
                try simp only [List.cons_append, List.nil_append, List.append_assoc, List.append_nil] at hh
                refine d_step (fun h => absurd h (by decide)) ?_
                refine d_takeL (i := 18) hl rfl (by kernel_rfl) (by kernel_rfl) (by kernel_rfl) (by kernel_rfl) (by kernel_rfl) rfl trivial (fun _ _ _ h => h) (fun w => r_pickF hl rfl rfl) rfl ?_
                clear hl a; intro a hl
                refine d_takeL (i := 19) hl rfl (by kernel_rfl) (by kernel_rfl) (by kernel_rfl) (by kernel_rfl) (by kernel_rfl) rfl trivial (fun _ _ _ h => h) (fun w => r_assign hl rfl) rfl ?_
                clear hl a; intro a hl
                refine d_done (by kernel_rfl) ?_
                try clear hM
                have hl2 := hl.add (t := 10) (hl.nil) rfl; clear hl; have hl := hl2; clear hl2
                refine then_normal ?_
                refine wp_ret ?_
                first
                | (have hsm : ¬ ToX.cd i c9 = 14 → sameP s1.is V9.iv = true := fun h => by
                     rcases hS.e with h9 | h9
                     · exact absurd h9 h
                     · rw [show s1.is = W.l.pl.d.is from congrArg StP.is hps1, show V9.iv = (V.pl.nx i c9).iv from congrArg ToX.iv hVp]; exact h9
                   refine f_ret1 (F' := (lb, C (toC wb V9) 62) :: ((V9.tb, MO (kInt .u32) V9.tm) :: (V9.B ++ (((wb, C W.c 84) :: (W.tE ++ (W.gE ++ (DsF W.ds ++ W.GF Z)))) ++ Es)))) hl hh rfl rfl (by repeat (first | exact keeps_nil | apply keeps_cons (by repeat (first | exact find_head | apply find_tail | apply find_skip)) (by first  | rfl) | exact keeps_self | exact keeps_left | apply keeps_app | apply keeps_mv | apply keeps_skip)) ?_
                   exact ⟨by rw [hsm (by omega)], V9, hVo, hVp, rfl⟩)
                | (refine f_ret1 (F' := (lb, C (toC wb V9) 62) :: ((V9.tb, MO (kInt .u32) V9.tm) :: (V9.B ++ (((wb, C W.c 84) :: (W.tE ++ (W.gE ++ (DsF W.ds ++ W.GF Z)))) ++ Es)))) hl hh rfl rfl (by repeat (first | exact keeps_nil | apply keeps_cons (by repeat (first | exact find_head | apply find_tail | apply find_skip)) (by first  | rfl) | exact keeps_self | exact keeps_left | apply keeps_app | apply keeps_mv | apply keeps_skip)) ?_
                   exact ⟨rfl, V9, hVo, hVp, rfl⟩)
        ·
          refine c_region ?_
          refine wl (wl_val hl rfl trivial (r_move hl rfl) ?_)
          clear hl a; intro a hl
          refine wl (wl_val hl rfl trivial (r_nilCheck hl rfl) ?_)
          clear hl a; intro a hl
          refine wl (wl_val hl rfl trivial (r_field hl rfl fld62_1) ?_)
          clear hl a; intro a hl
          refine wl (w_load hl hh rfl trivial one46 rfl (by repeat (first | exact find_head | apply find_tail | apply find_skip)) (by first | exact hcl | rfl) ?_)
          clear hl a; intro a hl
          refine wl (wl_val hl rfl trivial (r_move hl rfl) ?_)
          clear hl a; intro a hl
          refine wl (w_lookup2 (keyInt Try.underlying31) Try.underlying46 zero132 hl hh rfl trivial rfl rfl (by repeat (first | exact find_head | apply find_tail | apply find_skip)) ?_)
          clear hl a; intro a hl
          rw [hm9] at hl
          try simp only [Option.getD_none, Option.isSome_none] at hl
          refine wl (wl_val hl rfl trivial (r_move hl rfl) ?_)
          clear hl a; intro a hl
          refine wl (wl_val hl rfl trivial (r_extract hl rfl (by simp only [List.getElem?_toArray, List.getElem?_cons_zero, List.getElem?_cons_succ]; rfl)) ?_)
          clear hl a; intro a hl
          refine wl (wl_val hl rfl trivial (r_extract hl rfl (by simp only [List.getElem?_toArray, List.getElem?_cons_zero, List.getElem?_cons_succ]; rfl)) ?_)
          clear hl a; intro a hl
          refine wl (wl_val hl rfl trivial (r_assign hl rfl) ?_)
          clear hl a; intro a hl
          refine wl (wl_val hl rfl trivial (r_assign hl rfl) ?_)
          clear hl a; intro a hl
          refine w_nil ?_
          have hl2 := hl.add (t := 0) (hl.add (t := 3) (hl.add (t := 14) (hl.nil) rfl) rfl) rfl; clear hl; have hl := hl2; clear hl2
          refine then_normal ?_
          refine c_seq ?_
          refine c_region ?_
          refine wl (wl_val hl rfl trivial (r_move hl rfl) ?_)
          clear hl a; intro a hl
          refine wl (wl_val hl rfl trivial (r_move hl rfl) ?_)
          clear hl a; intro a hl
          refine wl (wl_skip hl rfl ⟨_, _, rfl, rfl, rfl⟩ ?_)
          clear hl a; intro a hl
          refine wl (wl_skip hl rfl ⟨_, _, rfl, rfl, rfl⟩ ?_)
          clear hl a; intro a hl
          refine wl (wl_val hl rfl trivial (r_pickF hl rfl rfl) ?_)
          clear hl a; intro a hl
          refine w_nil ?_
          have hl2 := hl.add (t := 0) (hl.add (t := 3) (hl.add (t := 70) (hl.nil) rfl) rfl) rfl; clear hl; have hl := hl2; clear hl2
          refine then_normal ?_
          refine c_condF hl rfl ?_
          obtain ⟨V9, hV9⟩ : ∃ V9 : ToV, V9 = V := ⟨_, rfl⟩
          have hVo : V9.ok := by rw [hV9]; exact hV
          have hVp : V9.pl = V.pl.nx i c9 := by rw [hV9]; exact (tn_a hk12 (by omega)).symm
          replace hh := hh.keep (F' := (k6, C [.int .u8 i.k, .int .u32 i.id, .int .u32 i.i2, .slice p i.tx.length cap, .int .u8 i.v.k, .int .u8 i.v.a, .int .u8 i.v.b, .int .u8 i.v.w, .int .u8 i.v.da, .int .u8 i.v.dl, .int .u8 i.m.k, .int .u8 i.m.d, .int .u32 i.m.e, .int .u32 i.m.b, .bool i.m.y, .int .u32 i.m.r, .int .u32 i.m.s, .string i.m.t] 116) :: ((lb, C [.pointer (some ⟨wb, 0, none⟩), .map (some V.tb), .slice V.ip V.iv.length V.ic, .slice V.mp V.mb.length V.mc, .bool V.op] 62) :: ((V.tb, MO (kInt .u32) V.tm) :: (V.B ++ (((wb, C W.c 84) :: (W.tE ++ (W.gE ++ (DsF W.ds ++ W.GF Z)))) ++ Es))))) (by repeat (first | exact keeps_nil | apply keeps_cons (by repeat (first | exact find_head | apply find_tail | apply find_skip)) (by first  | (rw [hcd]; done) | rfl) | exact keeps_self | exact keeps_left | apply keeps_app | apply keeps_mv | apply keeps_skip))
          have h9l : V9.iv.length ≤ 1000 := by rw [hV9]; exact (show V.iv.length ≤ 1000 by omega)
          obtain ⟨E9, h9R, h9Z⟩ := hVo.i
          rw [show [.pointer (some ⟨wb, 0, none⟩), .map (some V.tb), .slice V.ip V.iv.length V.ic, .slice V.mp V.mb.length V.mc, .bool V.op] = toC wb V9 by rw [hV9]; rfl, show V.tb = V9.tb by rw [hV9], show V.tm = V9.tm by rw [hV9], show V.B = V9.B by rw [hV9]] at hh
          simp only [toC, List.cons_append, List.append_assoc] at hh
          refine wp_skip ?_
          refine blk_normal ?_
          refine then_normal ?_
          refine c_seq ?_
          refine c_draw [(k6, C [.int .u8 i.k, .int .u32 i.id, .int .u32 i.i2, .slice p i.tx.length cap, .int .u8 i.v.k, .int .u8 i.v.a, .int .u8 i.v.b, .int .u8 i.v.w, .int .u8 i.v.da, .int .u8 i.v.dl, .int .u8 i.m.k, .int .u8 i.m.d, .int .u32 i.m.e, .int .u32 i.m.b, .bool i.m.y, .int .u32 i.m.r, .int .u32 i.m.s, .string i.m.t] 116)] [17, 18, 19] mixed hh ?_
          clear hh w; intro w hh
          have hM : Mem [(k6, C [.int .u8 i.k, .int .u32 i.id, .int .u32 i.i2, .slice p i.tx.length cap, .int .u8 i.v.k, .int .u8 i.v.a, .int .u8 i.v.b, .int .u8 i.v.w, .int .u8 i.v.da, .int .u8 i.v.dl, .int .u8 i.m.k, .int .u8 i.m.d, .int .u32 i.m.e, .int .u32 i.m.b, .bool i.m.y, .int .u32 i.m.r, .int .u32 i.m.s, .string i.m.t] 116)] w := (memK hh (by repeat (first | exact keeps_nil | apply keeps_cons (by repeat (first | exact find_head | apply find_tail | apply find_skip)) (by first  | rfl) | exact keeps_self | exact keeps_left | apply keeps_app | apply keeps_mv | apply keeps_skip)))
          refine d_take (i := 0) hl rfl (by kernel_rfl) (by kernel_rfl) (by kernel_rfl) (by kernel_rfl) (by kernel_rfl) rfl trivial (fun _ _ _ h => h) hM (fun w hC => r_move hl rfl) rfl ?_
          clear hl a; intro a hl
          refine d_take (i := 1) hl rfl (by kernel_rfl) (by kernel_rfl) (by kernel_rfl) (by kernel_rfl) (by kernel_rfl) rfl trivial (fun _ _ _ h => h) hM (fun w hC => r_eql hl rfl rfl) rfl ?_
          clear hl a; intro a hl
          try rw [decide_eq_false (show ¬ (3 : Int) = 14 by omega)] at hl
          refine d_take (i := 2) hl rfl (by kernel_rfl) (by kernel_rfl) (by kernel_rfl) (by kernel_rfl) (by kernel_rfl) rfl trivial (fun _ _ _ h => h) hM (fun w hC => r_move hl rfl) rfl ?_
          clear hl a; intro a hl
          refine sl_split (t := 109) hl rfl ?_ ?_
          · intro hg2; clear hl; intro hl
            try simp only [decide_eq_true_eq, decide_eq_false_iff_not, Bool.not_eq_true', Bool.not_eq_false', Bool.not_eq_true, Bool.not_eq_false, Bool.and_eq_true, Bool.or_eq_true, Bool.and_eq_false_iff, Bool.or_eq_false_iff, Bool.not_not, ne_eq, Int.not_lt, Int.not_le, Decidable.not_not, beq_iff_eq, bne_iff_ne] at hg2
            refine d_skip (i := 3) hl rfl (by kernel_rfl) (by kernel_rfl) (by kernel_rfl) (by kernel_rfl) (by kernel_rfl) rfl ⟨_, _, rfl, rfl, rfl⟩ (fun _ _ _ h => h) hM ?_
            clear hl a; intro a hl
            refine d_skip (i := 4) hl rfl (by kernel_rfl) (by kernel_rfl) (by kernel_rfl) (by kernel_rfl) (by kernel_rfl) rfl ⟨_, _, rfl, rfl, rfl⟩ (fun _ _ _ h => h) hM ?_
            clear hl a; intro a hl
            refine d_skip (i := 5) hl rfl (by kernel_rfl) (by kernel_rfl) (by kernel_rfl) (by kernel_rfl) (by kernel_rfl) rfl ⟨_, _, rfl, rfl, rfl⟩ (fun _ _ _ h => h) hM ?_
            clear hl a; intro a hl
            refine d_skip (i := 6) hl rfl (by kernel_rfl) (by kernel_rfl) (by kernel_rfl) (by kernel_rfl) (by kernel_rfl) rfl ⟨_, _, rfl, rfl, rfl⟩ (fun _ _ _ h => h) hM ?_
            clear hl a; intro a hl
            refine d_skip (i := 7) hl rfl (by kernel_rfl) (by kernel_rfl) (by kernel_rfl) (by kernel_rfl) (by kernel_rfl) rfl ⟨_, _, rfl, rfl, rfl⟩ (fun _ _ _ h => h) hM ?_
            clear hl a; intro a hl
            refine d_skip (i := 8) hl rfl (by kernel_rfl) (by kernel_rfl) (by kernel_rfl) (by kernel_rfl) (by kernel_rfl) rfl ⟨_, _, rfl, rfl, rfl⟩ (fun _ _ _ h => h) hM ?_
            clear hl a; intro a hl
            refine d_skip (i := 9) hl rfl (by kernel_rfl) (by kernel_rfl) (by kernel_rfl) (by kernel_rfl) (by kernel_rfl) rfl ⟨_, _, rfl, rfl, rfl⟩ (fun _ _ _ h => h) hM ?_
            clear hl a; intro a hl
            refine d_skip (i := 10) hl rfl (by kernel_rfl) (by kernel_rfl) (by kernel_rfl) (by kernel_rfl) (by kernel_rfl) rfl ⟨_, _, rfl, rfl, rfl⟩ (fun _ _ _ h => h) hM ?_
            clear hl a; intro a hl
            refine d_skip (i := 11) hl rfl (by kernel_rfl) (by kernel_rfl) (by kernel_rfl) (by kernel_rfl) (by kernel_rfl) rfl ⟨_, _, rfl, rfl, rfl⟩ (fun _ _ _ h => h) hM ?_
            clear hl a; intro a hl
            refine d_skip (i := 12) hl rfl (by kernel_rfl) (by kernel_rfl) (by kernel_rfl) (by kernel_rfl) (by kernel_rfl) rfl ⟨_, _, rfl, rfl, rfl⟩ (fun _ _ _ h => h) hM ?_
            clear hl a; intro a hl
            refine d_skip (i := 13) hl rfl (by kernel_rfl) (by kernel_rfl) (by kernel_rfl) (by kernel_rfl) (by kernel_rfl) rfl ⟨_, _, rfl, rfl, rfl⟩ (fun _ _ _ h => h) hM ?_
            clear hl a; intro a hl
            refine d_skip (i := 14) hl rfl (by kernel_rfl) (by kernel_rfl) (by kernel_rfl) (by kernel_rfl) (by kernel_rfl) rfl ⟨_, _, rfl, rfl, rfl⟩ (fun _ _ _ h => h) hM ?_
            clear hl a; intro a hl
            refine d_skip (i := 15) hl rfl (by kernel_rfl) (by kernel_rfl) (by kernel_rfl) (by kernel_rfl) (by kernel_rfl) rfl ⟨_, _, rfl, rfl, rfl⟩ (fun _ _ _ h => h) hM ?_
            clear hl a; intro a hl
            refine d_skip (i := 16) hl rfl (by kernel_rfl) (by kernel_rfl) (by kernel_rfl) (by kernel_rfl) (by kernel_rfl) rfl ⟨_, _, rfl, rfl, rfl⟩ (fun _ _ _ h => h) hM ?_
            clear hl a; intro a hl
            refine d_skip (i := 17) hl rfl (by kernel_rfl) (by kernel_rfl) (by kernel_rfl) (by kernel_rfl) (by kernel_rfl) rfl ⟨_, _, rfl, rfl, rfl⟩ (fun _ _ _ h => h) hM ?_
            clear hl a; intro a hl
            refine d_takeL (i := 18) hl rfl (by kernel_rfl) (by kernel_rfl) (by kernel_rfl) (by kernel_rfl) (by kernel_rfl) rfl trivial (fun _ _ _ h => h) (fun w => r_pickT hl rfl rfl) rfl ?_
            clear hl a; intro a hl
            refine d_takeL (i := 19) hl rfl (by kernel_rfl) (by kernel_rfl) (by kernel_rfl) (by kernel_rfl) (by kernel_rfl) rfl trivial (fun _ _ _ h => h) (fun w => r_assign hl rfl) rfl ?_
            clear hl a; intro a hl
            refine d_done (by kernel_rfl) ?_
            try clear hM
            have hl2 := hl.add (t := 10) (hl.nil) rfl; clear hl; have hl := hl2; clear hl2
            refine then_normal ?_
            refine wp_ret ?_
            first
            | (have hsm : ¬ ToX.cd i c9 = 14 → sameP s1.is V9.iv = true := fun h => by
                 rcases hS.e with h9 | h9
                 · exact absurd h9 h
                 · rw [show s1.is = W.l.pl.d.is from congrArg StP.is hps1, show V9.iv = (V.pl.nx i c9).iv from congrArg ToX.iv hVp]; exact h9
               refine f_ret1 (F' := (lb, C (toC wb V9) 62) :: ((V9.tb, MO (kInt .u32) V9.tm) :: (V9.B ++ (((wb, C W.c 84) :: (W.tE ++ (W.gE ++ (DsF W.ds ++ W.GF Z)))) ++ Es)))) hl hh rfl rfl (by repeat (first | exact keeps_nil | apply keeps_cons (by repeat (first | exact find_head | apply find_tail | apply find_skip)) (by first  | rfl) | exact keeps_self | exact keeps_left | apply keeps_app | apply keeps_mv | apply keeps_skip)) ?_
               exact ⟨by rw [hsm (by omega)], V9, hVo, hVp, rfl⟩)
            | (refine f_ret1 (F' := (lb, C (toC wb V9) 62) :: ((V9.tb, MO (kInt .u32) V9.tm) :: (V9.B ++ (((wb, C W.c 84) :: (W.tE ++ (W.gE ++ (DsF W.ds ++ W.GF Z)))) ++ Es)))) hl hh rfl rfl (by repeat (first | exact keeps_nil | apply keeps_cons (by repeat (first | exact find_head | apply find_tail | apply find_skip)) (by first  | rfl) | exact keeps_self | exact keeps_left | apply keeps_app | apply keeps_mv | apply keeps_skip)) ?_
               exact ⟨rfl, V9, hVo, hVp, rfl⟩)
          · intro hg2; clear hl; intro hl
            try simp only [decide_eq_true_eq, decide_eq_false_iff_not, Bool.not_eq_true', Bool.not_eq_false', Bool.not_eq_true, Bool.not_eq_false, Bool.and_eq_true, Bool.or_eq_true, Bool.and_eq_false_iff, Bool.or_eq_false_iff, Bool.not_not, ne_eq, Int.not_lt, Int.not_le, Decidable.not_not, beq_iff_eq, bne_iff_ne] at hg2
            refine d_take (i := 3) hl rfl (by kernel_rfl) (by kernel_rfl) (by kernel_rfl) (by kernel_rfl) (by kernel_rfl) rfl ⟨_, _, rfl, rfl, rfl⟩ (fun _ _ _ h => h) hM (fun w hC => r_move hl rfl) rfl ?_
            clear hl a; intro a hl
            refine d_take (i := 4) hl rfl (by kernel_rfl) (by kernel_rfl) (by kernel_rfl) (by kernel_rfl) (by kernel_rfl) rfl ⟨_, _, rfl, rfl, rfl⟩ (fun _ _ _ h => h) hM (fun w hC => r_nilCheck hl rfl) rfl ?_
            clear hl a; intro a hl
            refine d_take (i := 5) hl rfl (by kernel_rfl) (by kernel_rfl) (by kernel_rfl) (by kernel_rfl) (by kernel_rfl) rfl ⟨_, _, rfl, rfl, rfl⟩ (fun _ _ _ h => h) hM (fun w hC => r_field hl rfl fld62_0) rfl ?_
            clear hl a; intro a hl
            refine d_take (i := 6) hl rfl (by kernel_rfl) (by kernel_rfl) (by kernel_rfl) (by kernel_rfl) (by kernel_rfl) rfl ⟨_, _, rfl, rfl, rfl⟩ (fun _ _ _ h => h) hM (fun w hC => r_field hl rfl fld30_0) rfl ?_
            clear hl a; intro a hl
            refine d_take (i := 13) hl rfl (by kernel_rfl) (by kernel_rfl) (by kernel_rfl) (by kernel_rfl) (by kernel_rfl) rfl ⟨_, _, rfl, rfl, rfl⟩ (fun _ _ _ h => h) hM (fun w hC => r_move hl rfl) rfl ?_
            clear hl a; intro a hl
            refine d_take (i := 14) hl rfl (by kernel_rfl) (by kernel_rfl) (by kernel_rfl) (by kernel_rfl) (by kernel_rfl) rfl ⟨_, _, rfl, rfl, rfl⟩ (fun _ _ _ h => h) hM (fun w hC => r_nilCheck hl rfl) rfl ?_
            clear hl a; intro a hl
            refine d_take (i := 15) hl rfl (by kernel_rfl) (by kernel_rfl) (by kernel_rfl) (by kernel_rfl) (by kernel_rfl) rfl ⟨_, _, rfl, rfl, rfl⟩ (fun _ _ _ h => h) hM (fun w hC => r_field hl rfl fld62_2) rfl ?_
            clear hl a; intro a hl
            refine d_two (i := 7) (j := 16) (by kernel_rfl) rfl rfl ?_ ?_
            ·
              try clear hM
              refine id (w_load hl hh rfl ⟨_, _, rfl, rfl, rfl⟩ one28 rfl (by repeat (first | exact find_head | apply find_tail | apply find_skip)) (by first | exact hcl | rfl) ?_)
              clear hl a; intro a hl
              have hM : Mem [(k6, C [.int .u8 i.k, .int .u32 i.id, .int .u32 i.i2, .slice p i.tx.length cap, .int .u8 i.v.k, .int .u8 i.v.a, .int .u8 i.v.b, .int .u8 i.v.w, .int .u8 i.v.da, .int .u8 i.v.dl, .int .u8 i.m.k, .int .u8 i.m.d, .int .u32 i.m.e, .int .u32 i.m.b, .bool i.m.y, .int .u32 i.m.r, .int .u32 i.m.s, .string i.m.t] 116)] w := (memK hh (by repeat (first | exact keeps_nil | apply keeps_cons (by repeat (first | exact find_head | apply find_tail | apply find_skip)) (by first  | rfl) | exact keeps_self | exact keeps_left | apply keeps_app | apply keeps_mv | apply keeps_skip)))
              refine d_step (fun _ => hM) ?_
              refine d_take (i := 8) hl rfl (by kernel_rfl) (by kernel_rfl) (by kernel_rfl) (by kernel_rfl) (by kernel_rfl) rfl ⟨_, _, rfl, rfl, rfl⟩ (fun _ _ _ h => h) hM (fun w hC => r_nilCheck hl rfl) rfl ?_
              clear hl a; intro a hl
              refine d_take (i := 9) hl rfl (by kernel_rfl) (by kernel_rfl) (by kernel_rfl) (by kernel_rfl) (by kernel_rfl) rfl ⟨_, _, rfl, rfl, rfl⟩ (fun _ _ _ h => h) hM (fun w hC => r_field hl rfl fld84_0) rfl ?_
              clear hl a; intro a hl
              refine d_two (i := 10) (j := 16) (by kernel_rfl) rfl rfl ?_ ?_
              ·
                try clear hM
                refine id (w_load hl hh rfl ⟨_, _, rfl, rfl, rfl⟩ one77 rfl (by repeat (first | exact find_head | apply find_tail | apply find_skip)) (by first | exact hcl | rfl) ?_)
                clear hl a; intro a hl
                have hM : Mem [(k6, C [.int .u8 i.k, .int .u32 i.id, .int .u32 i.i2, .slice p i.tx.length cap, .int .u8 i.v.k, .int .u8 i.v.a, .int .u8 i.v.b, .int .u8 i.v.w, .int .u8 i.v.da, .int .u8 i.v.dl, .int .u8 i.m.k, .int .u8 i.m.d, .int .u32 i.m.e, .int .u32 i.m.b, .bool i.m.y, .int .u32 i.m.r, .int .u32 i.m.s, .string i.m.t] 116)] w := (memK hh (by repeat (first | exact keeps_nil | apply keeps_cons (by repeat (first | exact find_head | apply find_tail | apply find_skip)) (by first  | rfl) | exact keeps_self | exact keeps_left | apply keeps_app | apply keeps_mv | apply keeps_skip)))
                refine d_step (fun _ => hM) ?_
                refine d_two (i := 11) (j := 16) (by kernel_rfl) rfl rfl ?_ ?_
                ·
                  try clear hM
                  refine id (w_call hl hh rfl ⟨_, _, rfl, rfl, rfl⟩ rfl cal16 rfl (durW W Z hW) (by repeat (first | exact keeps_nil | apply keeps_cons (by repeat (first | exact find_head | apply find_tail | apply find_skip)) (by first  | rfl) | exact keeps_self | exact keeps_left | apply keeps_app | apply keeps_mv | apply keeps_skip)) trivial ?_)
                  clear hl hh a w; intro vc Fc a w hR hl hh
                  obtain ⟨s1, hs1, hps1, rfl, rfl⟩ := hR
                  try simp only [List.cons_append, List.nil_append, List.append_assoc, List.append_nil] at hh
                  try simp only [List.append_assoc] at hh
                  have hphs1 : s1.ph = W.l.pl.d.ph := congrArg StP.ph hps1
                  have hM : Mem [(k6, C [.int .u8 i.k, .int .u32 i.id, .int .u32 i.i2, .slice p i.tx.length cap, .int .u8 i.v.k, .int .u8 i.v.a, .int .u8 i.v.b, .int .u8 i.v.w, .int .u8 i.v.da, .int .u8 i.v.dl, .int .u8 i.m.k, .int .u8 i.m.d, .int .u32 i.m.e, .int .u32 i.m.b, .bool i.m.y, .int .u32 i.m.r, .int .u32 i.m.s, .string i.m.t] 116)] w := (memK hh (by repeat (first | exact keeps_nil | apply keeps_cons (by repeat (first | exact find_head | apply find_tail | apply find_skip)) (by first  | rfl) | exact keeps_self | exact keeps_left | apply keeps_app | apply keeps_mv | apply keeps_skip)))
                  refine d_step (fun _ => hM) ?_
                  refine d_take (i := 12) hl rfl (by kernel_rfl) (by kernel_rfl) (by kernel_rfl) (by kernel_rfl) (by kernel_rfl) rfl ⟨_, _, rfl, rfl, rfl⟩ (fun _ _ _ h => h) hM (fun w hC => r_fieldV hl rfl fldT48_2 one33 (stc_2 s1)) rfl ?_
                  clear hl a; intro a hl
                  refine d_one (i := 16) (by kernel_rfl) rfl ?_
                  try clear hM
                  refine id (w_load hl hh rfl ⟨_, _, rfl, rfl, rfl⟩ one33 rfl (by repeat (first | exact find_head | apply find_tail | apply find_skip)) (by first | exact hcl | rfl) ?_)
                  clear hl a; intro a hl
                  have hM : Mem [(k6, C [.int .u8 i.k, .int .u32 i.id, .int .u32 i.i2, .slice p i.tx.length cap, .int .u8 i.v.k, .int .u8 i.v.a, .int .u8 i.v.b, .int .u8 i.v.w, .int .u8 i.v.da, .int .u8 i.v.dl, .int .u8 i.m.k, .int .u8 i.m.d, .int .u32 i.m.e, .int .u32 i.m.b, .bool i.m.y, .int .u32 i.m.r, .int .u32 i.m.s, .string i.m.t] 116)] w := (memK hh (by repeat (first | exact keeps_nil | apply keeps_cons (by repeat (first | exact find_head | apply find_tail | apply find_skip)) (by first  | rfl) | exact keeps_self | exact keeps_left | apply keeps_app | apply keeps_mv | apply keeps_skip)))
                  refine d_step (fun _ => hM) ?_
                  refine d_one (i := 17) (by kernel_rfl) rfl ?_
                  try clear hM
                  refine id (w_call hl hh rfl ⟨_, _, rfl, rfl, rfl⟩ rfl cal115 rfl (same_spec s1.is V9.iv s1.ip V9.ip s1.ic V9.ic s1.iE E9 hs1.i h9R hs1.io hVo.io (by have := hs1.il; omega) (by omega)) (by repeat (first | exact keeps_nil | apply keeps_cons (by repeat (first | exact find_head | apply find_tail | apply find_skip)) (by first  | rfl) | exact keeps_self | exact keeps_left | apply keeps_app | apply keeps_mv | apply keeps_skip)) ⟨fun b o m => memK (E := s1.E) hh (by repeat (first | exact keeps_nil | apply keeps_cons (by repeat (first | exact find_head | apply find_tail | apply find_skip)) (by first  | rfl) | exact keeps_self | exact keeps_left | apply keeps_app | apply keeps_mv | apply keeps_skip)) b o (inE_i m), fun b o m => memK (E := V9.B) hh (by repeat (first | exact keeps_nil | apply keeps_cons (by repeat (first | exact find_head | apply find_tail | apply find_skip)) (by first  | rfl) | exact keeps_self | exact keeps_left | apply keeps_app | apply keeps_mv | apply keeps_skip)) b o (h9Z _ m)⟩ ?_)
                  clear hl hh a w; intro vc Fc a w hR hl hh
                  obtain ⟨rfl, rfl⟩ := hR
                  try simp only [List.cons_append, List.nil_append, List.append_assoc, List.append_nil] at hh
                  refine d_step (fun h => absurd h (by decide)) ?_
                  refine d_takeL (i := 18) hl rfl (by kernel_rfl) (by kernel_rfl) (by kernel_rfl) (by kernel_rfl) (by kernel_rfl) rfl trivial (fun _ _ _ h => h) (fun w => r_pickF hl rfl rfl) rfl ?_
                  clear hl a; intro a hl
                  refine d_takeL (i := 19) hl rfl (by kernel_rfl) (by kernel_rfl) (by kernel_rfl) (by kernel_rfl) (by kernel_rfl) rfl trivial (fun _ _ _ h => h) (fun w => r_assign hl rfl) rfl ?_
                  clear hl a; intro a hl
                  refine d_done (by kernel_rfl) ?_
                  try clear hM
                  have hl2 := hl.add (t := 10) (hl.nil) rfl; clear hl; have hl := hl2; clear hl2
                  refine then_normal ?_
                  refine wp_ret ?_
                  first
                  | (have hsm : ¬ ToX.cd i c9 = 14 → sameP s1.is V9.iv = true := fun h => by
                       rcases hS.e with h9 | h9
                       · exact absurd h9 h
                       · rw [show s1.is = W.l.pl.d.is from congrArg StP.is hps1, show V9.iv = (V.pl.nx i c9).iv from congrArg ToX.iv hVp]; exact h9
                     refine f_ret1 (F' := (lb, C (toC wb V9) 62) :: ((V9.tb, MO (kInt .u32) V9.tm) :: (V9.B ++ (((wb, C W.c 84) :: (W.tE ++ (W.gE ++ (DsF W.ds ++ W.GF Z)))) ++ Es)))) hl hh rfl rfl (by repeat (first | exact keeps_nil | apply keeps_cons (by repeat (first | exact find_head | apply find_tail | apply find_skip)) (by first  | rfl) | exact keeps_self | exact keeps_left | apply keeps_app | apply keeps_mv | apply keeps_skip)) ?_
                     exact ⟨by rw [hsm (by omega)], V9, hVo, hVp, rfl⟩)
                  | (refine f_ret1 (F' := (lb, C (toC wb V9) 62) :: ((V9.tb, MO (kInt .u32) V9.tm) :: (V9.B ++ (((wb, C W.c 84) :: (W.tE ++ (W.gE ++ (DsF W.ds ++ W.GF Z)))) ++ Es)))) hl hh rfl rfl (by repeat (first | exact keeps_nil | apply keeps_cons (by repeat (first | exact find_head | apply find_tail | apply find_skip)) (by first  | rfl) | exact keeps_self | exact keeps_left | apply keeps_app | apply keeps_mv | apply keeps_skip)) ?_
                     exact ⟨rfl, V9, hVo, hVp, rfl⟩)
                ·
                  try clear hM
                  refine id (w_load hl hh rfl ⟨_, _, rfl, rfl, rfl⟩ one33 rfl (by repeat (first | exact find_head | apply find_tail | apply find_skip)) (by first | exact hcl | rfl) ?_)
                  clear hl a; intro a hl
                  have hM : Mem [(k6, C [.int .u8 i.k, .int .u32 i.id, .int .u32 i.i2, .slice p i.tx.length cap, .int .u8 i.v.k, .int .u8 i.v.a, .int .u8 i.v.b, .int .u8 i.v.w, .int .u8 i.v.da, .int .u8 i.v.dl, .int .u8 i.m.k, .int .u8 i.m.d, .int .u32 i.m.e, .int .u32 i.m.b, .bool i.m.y, .int .u32 i.m.r, .int .u32 i.m.s, .string i.m.t] 116)] w := (memK hh (by repeat (first | exact keeps_nil | apply keeps_cons (by repeat (first | exact find_head | apply find_tail | apply find_skip)) (by first  | rfl) | exact keeps_self | exact keeps_left | apply keeps_app | apply keeps_mv | apply keeps_skip)))
                  refine d_step (fun _ => hM) ?_
                  refine d_one (i := 11) (by kernel_rfl) rfl ?_
                  try clear hM
                  refine id (w_call hl hh rfl ⟨_, _, rfl, rfl, rfl⟩ rfl cal16 rfl (durW W Z hW) (by repeat (first | exact keeps_nil | apply keeps_cons (by repeat (first | exact find_head | apply find_tail | apply find_skip)) (by first  | rfl) | exact keeps_self | exact keeps_left | apply keeps_app | apply keeps_mv | apply keeps_skip)) trivial ?_)
                  clear hl hh a w; intro vc Fc a w hR hl hh
                  obtain ⟨s1, hs1, hps1, rfl, rfl⟩ := hR
                  try simp only [List.cons_append, List.nil_append, List.append_assoc, List.append_nil] at hh
                  try simp only [List.append_assoc] at hh
                  have hphs1 : s1.ph = W.l.pl.d.ph := congrArg StP.ph hps1
                  have hM : Mem [(k6, C [.int .u8 i.k, .int .u32 i.id, .int .u32 i.i2, .slice p i.tx.length cap, .int .u8 i.v.k, .int .u8 i.v.a, .int .u8 i.v.b, .int .u8 i.v.w, .int .u8 i.v.da, .int .u8 i.v.dl, .int .u8 i.m.k, .int .u8 i.m.d, .int .u32 i.m.e, .int .u32 i.m.b, .bool i.m.y, .int .u32 i.m.r, .int .u32 i.m.s, .string i.m.t] 116)] w := (memK hh (by repeat (first | exact keeps_nil | apply keeps_cons (by repeat (first | exact find_head | apply find_tail | apply find_skip)) (by first  | rfl) | exact keeps_self | exact keeps_left | apply keeps_app | apply keeps_mv | apply keeps_skip)))
                  refine d_step (fun _ => hM) ?_
                  refine d_take (i := 12) hl rfl (by kernel_rfl) (by kernel_rfl) (by kernel_rfl) (by kernel_rfl) (by kernel_rfl) rfl ⟨_, _, rfl, rfl, rfl⟩ (fun _ _ _ h => h) hM (fun w hC => r_fieldV hl rfl fldT48_2 one33 (stc_2 s1)) rfl ?_
                  clear hl a; intro a hl
                  refine d_one (i := 17) (by kernel_rfl) rfl ?_
                  try clear hM
                  refine id (w_call hl hh rfl ⟨_, _, rfl, rfl, rfl⟩ rfl cal115 rfl (same_spec s1.is V9.iv s1.ip V9.ip s1.ic V9.ic s1.iE E9 hs1.i h9R hs1.io hVo.io (by have := hs1.il; omega) (by omega)) (by repeat (first | exact keeps_nil | apply keeps_cons (by repeat (first | exact find_head | apply find_tail | apply find_skip)) (by first  | rfl) | exact keeps_self | exact keeps_left | apply keeps_app | apply keeps_mv | apply keeps_skip)) ⟨fun b o m => memK (E := s1.E) hh (by repeat (first | exact keeps_nil | apply keeps_cons (by repeat (first | exact find_head | apply find_tail | apply find_skip)) (by first  | rfl) | exact keeps_self | exact keeps_left | apply keeps_app | apply keeps_mv | apply keeps_skip)) b o (inE_i m), fun b o m => memK (E := V9.B) hh (by repeat (first | exact keeps_nil | apply keeps_cons (by repeat (first | exact find_head | apply find_tail | apply find_skip)) (by first  | rfl) | exact keeps_self | exact keeps_left | apply keeps_app | apply keeps_mv | apply keeps_skip)) b o (h9Z _ m)⟩ ?_)
                  clear hl hh a w; intro vc Fc a w hR hl hh
                  obtain ⟨rfl, rfl⟩ := hR
                  try simp only [List.cons_append, List.nil_append, List.append_assoc, List.append_nil] at hh
                  refine d_step (fun h => absurd h (by decide)) ?_
                  refine d_takeL (i := 18) hl rfl (by kernel_rfl) (by kernel_rfl) (by kernel_rfl) (by kernel_rfl) (by kernel_rfl) rfl trivial (fun _ _ _ h => h) (fun w => r_pickF hl rfl rfl) rfl ?_
                  clear hl a; intro a hl
                  refine d_takeL (i := 19) hl rfl (by kernel_rfl) (by kernel_rfl) (by kernel_rfl) (by kernel_rfl) (by kernel_rfl) rfl trivial (fun _ _ _ h => h) (fun w => r_assign hl rfl) rfl ?_
                  clear hl a; intro a hl
                  refine d_done (by kernel_rfl) ?_
                  try clear hM
                  have hl2 := hl.add (t := 10) (hl.nil) rfl; clear hl; have hl := hl2; clear hl2
                  refine then_normal ?_
                  refine wp_ret ?_
                  first
                  | (have hsm : ¬ ToX.cd i c9 = 14 → sameP s1.is V9.iv = true := fun h => by
                       rcases hS.e with h9 | h9
                       · exact absurd h9 h
                       · rw [show s1.is = W.l.pl.d.is from congrArg StP.is hps1, show V9.iv = (V.pl.nx i c9).iv from congrArg ToX.iv hVp]; exact h9
                     refine f_ret1 (F' := (lb, C (toC wb V9) 62) :: ((V9.tb, MO (kInt .u32) V9.tm) :: (V9.B ++ (((wb, C W.c 84) :: (W.tE ++ (W.gE ++ (DsF W.ds ++ W.GF Z)))) ++ Es)))) hl hh rfl rfl (by repeat (first | exact keeps_nil | apply keeps_cons (by repeat (first | exact find_head | apply find_tail | apply find_skip)) (by first  | rfl) | exact keeps_self | exact keeps_left | apply keeps_app | apply keeps_mv | apply keeps_skip)) ?_
                     exact ⟨by rw [hsm (by omega)], V9, hVo, hVp, rfl⟩)
                  | (refine f_ret1 (F' := (lb, C (toC wb V9) 62) :: ((V9.tb, MO (kInt .u32) V9.tm) :: (V9.B ++ (((wb, C W.c 84) :: (W.tE ++ (W.gE ++ (DsF W.ds ++ W.GF Z)))) ++ Es)))) hl hh rfl rfl (by repeat (first | exact keeps_nil | apply keeps_cons (by repeat (first | exact find_head | apply find_tail | apply find_skip)) (by first  | rfl) | exact keeps_self | exact keeps_left | apply keeps_app | apply keeps_mv | apply keeps_skip)) ?_
                     exact ⟨rfl, V9, hVo, hVp, rfl⟩)
              ·
                try clear hM
                refine id (w_load hl hh rfl ⟨_, _, rfl, rfl, rfl⟩ one33 rfl (by repeat (first | exact find_head | apply find_tail | apply find_skip)) (by first | exact hcl | rfl) ?_)
                clear hl a; intro a hl
                have hM : Mem [(k6, C [.int .u8 i.k, .int .u32 i.id, .int .u32 i.i2, .slice p i.tx.length cap, .int .u8 i.v.k, .int .u8 i.v.a, .int .u8 i.v.b, .int .u8 i.v.w, .int .u8 i.v.da, .int .u8 i.v.dl, .int .u8 i.m.k, .int .u8 i.m.d, .int .u32 i.m.e, .int .u32 i.m.b, .bool i.m.y, .int .u32 i.m.r, .int .u32 i.m.s, .string i.m.t] 116)] w := (memK hh (by repeat (first | exact keeps_nil | apply keeps_cons (by repeat (first | exact find_head | apply find_tail | apply find_skip)) (by first  | rfl) | exact keeps_self | exact keeps_left | apply keeps_app | apply keeps_mv | apply keeps_skip)))
                refine d_step (fun _ => hM) ?_
                refine d_one (i := 10) (by kernel_rfl) rfl ?_
                try clear hM
                refine id (w_load hl hh rfl ⟨_, _, rfl, rfl, rfl⟩ one77 rfl (by repeat (first | exact find_head | apply find_tail | apply find_skip)) (by first | exact hcl | rfl) ?_)
                clear hl a; intro a hl
                have hM : Mem [(k6, C [.int .u8 i.k, .int .u32 i.id, .int .u32 i.i2, .slice p i.tx.length cap, .int .u8 i.v.k, .int .u8 i.v.a, .int .u8 i.v.b, .int .u8 i.v.w, .int .u8 i.v.da, .int .u8 i.v.dl, .int .u8 i.m.k, .int .u8 i.m.d, .int .u32 i.m.e, .int .u32 i.m.b, .bool i.m.y, .int .u32 i.m.r, .int .u32 i.m.s, .string i.m.t] 116)] w := (memK hh (by repeat (first | exact keeps_nil | apply keeps_cons (by repeat (first | exact find_head | apply find_tail | apply find_skip)) (by first  | rfl) | exact keeps_self | exact keeps_left | apply keeps_app | apply keeps_mv | apply keeps_skip)))
                refine d_step (fun _ => hM) ?_
                refine d_one (i := 11) (by kernel_rfl) rfl ?_
                try clear hM
                refine id (w_call hl hh rfl ⟨_, _, rfl, rfl, rfl⟩ rfl cal16 rfl (durW W Z hW) (by repeat (first | exact keeps_nil | apply keeps_cons (by repeat (first | exact find_head | apply find_tail | apply find_skip)) (by first  | rfl) | exact keeps_self | exact keeps_left | apply keeps_app | apply keeps_mv | apply keeps_skip)) trivial ?_)
                clear hl hh a w; intro vc Fc a w hR hl hh
                obtain ⟨s1, hs1, hps1, rfl, rfl⟩ := hR
                try simp only [List.cons_append, List.nil_append, List.append_assoc, List.append_nil] at hh
                try simp only [List.append_assoc] at hh
                have hphs1 : s1.ph = W.l.pl.d.ph := congrArg StP.ph hps1
                have hM : Mem [(k6, C [.int .u8 i.k, .int .u32 i.id, .int .u32 i.i2, .slice p i.tx.length cap, .int .u8 i.v.k, .int .u8 i.v.a, .int .u8 i.v.b, .int .u8 i.v.w, .int .u8 i.v.da, .int .u8 i.v.dl, .int .u8 i.m.k, .int .u8 i.m.d, .int .u32 i.m.e, .int .u32 i.m.b, .bool i.m.y, .int .u32 i.m.r, .int .u32 i.m.s, .string i.m.t] 116)] w := (memK hh (by repeat (first | exact keeps_nil | apply keeps_cons (by repeat (first | exact find_head | apply find_tail | apply find_skip)) (by first  | rfl) | exact keeps_self | exact keeps_left | apply keeps_app | apply keeps_mv | apply keeps_skip)))
                refine d_step (fun _ => hM) ?_
                refine d_take (i := 12) hl rfl (by kernel_rfl) (by kernel_rfl) (by kernel_rfl) (by kernel_rfl) (by kernel_rfl) rfl ⟨_, _, rfl, rfl, rfl⟩ (fun _ _ _ h => h) hM (fun w hC => r_fieldV hl rfl fldT48_2 one33 (stc_2 s1)) rfl ?_
                clear hl a; intro a hl
                refine d_one (i := 17) (by kernel_rfl) rfl ?_
                try clear hM
                refine id (w_call hl hh rfl ⟨_, _, rfl, rfl, rfl⟩ rfl cal115 rfl (same_spec s1.is V9.iv s1.ip V9.ip s1.ic V9.ic s1.iE E9 hs1.i h9R hs1.io hVo.io (by have := hs1.il; omega) (by omega)) (by repeat (first | exact keeps_nil | apply keeps_cons (by repeat (first | exact find_head | apply find_tail | apply find_skip)) (by first  | rfl) | exact keeps_self | exact keeps_left | apply keeps_app | apply keeps_mv | apply keeps_skip)) ⟨fun b o m => memK (E := s1.E) hh (by repeat (first | exact keeps_nil | apply keeps_cons (by repeat (first | exact find_head | apply find_tail | apply find_skip)) (by first  | rfl) | exact keeps_self | exact keeps_left | apply keeps_app | apply keeps_mv | apply keeps_skip)) b o (inE_i m), fun b o m => memK (E := V9.B) hh (by repeat (first | exact keeps_nil | apply keeps_cons (by repeat (first | exact find_head | apply find_tail | apply find_skip)) (by first  | rfl) | exact keeps_self | exact keeps_left | apply keeps_app | apply keeps_mv | apply keeps_skip)) b o (h9Z _ m)⟩ ?_)
                clear hl hh a w; intro vc Fc a w hR hl hh
                obtain ⟨rfl, rfl⟩ := hR
                try simp only [List.cons_append, List.nil_append, List.append_assoc, List.append_nil] at hh
                refine d_step (fun h => absurd h (by decide)) ?_
                refine d_takeL (i := 18) hl rfl (by kernel_rfl) (by kernel_rfl) (by kernel_rfl) (by kernel_rfl) (by kernel_rfl) rfl trivial (fun _ _ _ h => h) (fun w => r_pickF hl rfl rfl) rfl ?_
                clear hl a; intro a hl
                refine d_takeL (i := 19) hl rfl (by kernel_rfl) (by kernel_rfl) (by kernel_rfl) (by kernel_rfl) (by kernel_rfl) rfl trivial (fun _ _ _ h => h) (fun w => r_assign hl rfl) rfl ?_
                clear hl a; intro a hl
                refine d_done (by kernel_rfl) ?_
                try clear hM
                have hl2 := hl.add (t := 10) (hl.nil) rfl; clear hl; have hl := hl2; clear hl2
                refine then_normal ?_
                refine wp_ret ?_
                first
                | (have hsm : ¬ ToX.cd i c9 = 14 → sameP s1.is V9.iv = true := fun h => by
                     rcases hS.e with h9 | h9
                     · exact absurd h9 h
                     · rw [show s1.is = W.l.pl.d.is from congrArg StP.is hps1, show V9.iv = (V.pl.nx i c9).iv from congrArg ToX.iv hVp]; exact h9
                   refine f_ret1 (F' := (lb, C (toC wb V9) 62) :: ((V9.tb, MO (kInt .u32) V9.tm) :: (V9.B ++ (((wb, C W.c 84) :: (W.tE ++ (W.gE ++ (DsF W.ds ++ W.GF Z)))) ++ Es)))) hl hh rfl rfl (by repeat (first | exact keeps_nil | apply keeps_cons (by repeat (first | exact find_head | apply find_tail | apply find_skip)) (by first  | rfl) | exact keeps_self | exact keeps_left | apply keeps_app | apply keeps_mv | apply keeps_skip)) ?_
                   exact ⟨by rw [hsm (by omega)], V9, hVo, hVp, rfl⟩)
                | (refine f_ret1 (F' := (lb, C (toC wb V9) 62) :: ((V9.tb, MO (kInt .u32) V9.tm) :: (V9.B ++ (((wb, C W.c 84) :: (W.tE ++ (W.gE ++ (DsF W.ds ++ W.GF Z)))) ++ Es)))) hl hh rfl rfl (by repeat (first | exact keeps_nil | apply keeps_cons (by repeat (first | exact find_head | apply find_tail | apply find_skip)) (by first  | rfl) | exact keeps_self | exact keeps_left | apply keeps_app | apply keeps_mv | apply keeps_skip)) ?_
                   exact ⟨rfl, V9, hVo, hVp, rfl⟩)
            ·
              try clear hM
              refine id (w_load hl hh rfl ⟨_, _, rfl, rfl, rfl⟩ one33 rfl (by repeat (first | exact find_head | apply find_tail | apply find_skip)) (by first | exact hcl | rfl) ?_)
              clear hl a; intro a hl
              have hM : Mem [(k6, C [.int .u8 i.k, .int .u32 i.id, .int .u32 i.i2, .slice p i.tx.length cap, .int .u8 i.v.k, .int .u8 i.v.a, .int .u8 i.v.b, .int .u8 i.v.w, .int .u8 i.v.da, .int .u8 i.v.dl, .int .u8 i.m.k, .int .u8 i.m.d, .int .u32 i.m.e, .int .u32 i.m.b, .bool i.m.y, .int .u32 i.m.r, .int .u32 i.m.s, .string i.m.t] 116)] w := (memK hh (by repeat (first | exact keeps_nil | apply keeps_cons (by repeat (first | exact find_head | apply find_tail | apply find_skip)) (by first  | rfl) | exact keeps_self | exact keeps_left | apply keeps_app | apply keeps_mv | apply keeps_skip)))
              refine d_step (fun _ => hM) ?_
              refine d_one (i := 7) (by kernel_rfl) rfl ?_
              try clear hM
              refine id (w_load hl hh rfl ⟨_, _, rfl, rfl, rfl⟩ one28 rfl (by repeat (first | exact find_head | apply find_tail | apply find_skip)) (by first | exact hcl | rfl) ?_)
              clear hl a; intro a hl
              have hM : Mem [(k6, C [.int .u8 i.k, .int .u32 i.id, .int .u32 i.i2, .slice p i.tx.length cap, .int .u8 i.v.k, .int .u8 i.v.a, .int .u8 i.v.b, .int .u8 i.v.w, .int .u8 i.v.da, .int .u8 i.v.dl, .int .u8 i.m.k, .int .u8 i.m.d, .int .u32 i.m.e, .int .u32 i.m.b, .bool i.m.y, .int .u32 i.m.r, .int .u32 i.m.s, .string i.m.t] 116)] w := (memK hh (by repeat (first | exact keeps_nil | apply keeps_cons (by repeat (first | exact find_head | apply find_tail | apply find_skip)) (by first  | rfl) | exact keeps_self | exact keeps_left | apply keeps_app | apply keeps_mv | apply keeps_skip)))
              refine d_step (fun _ => hM) ?_
              refine d_take (i := 8) hl rfl (by kernel_rfl) (by kernel_rfl) (by kernel_rfl) (by kernel_rfl) (by kernel_rfl) rfl ⟨_, _, rfl, rfl, rfl⟩ (fun _ _ _ h => h) hM (fun w hC => r_nilCheck hl rfl) rfl ?_
              clear hl a; intro a hl
              refine d_take (i := 9) hl rfl (by kernel_rfl) (by kernel_rfl) (by kernel_rfl) (by kernel_rfl) (by kernel_rfl) rfl ⟨_, _, rfl, rfl, rfl⟩ (fun _ _ _ h => h) hM (fun w hC => r_field hl rfl fld84_0) rfl ?_
              clear hl a; intro a hl
              refine d_one (i := 10) (by kernel_rfl) rfl ?_
              try clear hM
              refine id (w_load hl hh rfl ⟨_, _, rfl, rfl, rfl⟩ one77 rfl (by repeat (first | exact find_head | apply find_tail | apply find_skip)) (by first | exact hcl | rfl) ?_)
              clear hl a; intro a hl
              have hM : Mem [(k6, C [.int .u8 i.k, .int .u32 i.id, .int .u32 i.i2, .slice p i.tx.length cap, .int .u8 i.v.k, .int .u8 i.v.a, .int .u8 i.v.b, .int .u8 i.v.w, .int .u8 i.v.da, .int .u8 i.v.dl, .int .u8 i.m.k, .int .u8 i.m.d, .int .u32 i.m.e, .int .u32 i.m.b, .bool i.m.y, .int .u32 i.m.r, .int .u32 i.m.s, .string i.m.t] 116)] w := (memK hh (by repeat (first | exact keeps_nil | apply keeps_cons (by repeat (first | exact find_head | apply find_tail | apply find_skip)) (by first  | rfl) | exact keeps_self | exact keeps_left | apply keeps_app | apply keeps_mv | apply keeps_skip)))
              refine d_step (fun _ => hM) ?_
              refine d_one (i := 11) (by kernel_rfl) rfl ?_
              try clear hM
              refine id (w_call hl hh rfl ⟨_, _, rfl, rfl, rfl⟩ rfl cal16 rfl (durW W Z hW) (by repeat (first | exact keeps_nil | apply keeps_cons (by repeat (first | exact find_head | apply find_tail | apply find_skip)) (by first  | rfl) | exact keeps_self | exact keeps_left | apply keeps_app | apply keeps_mv | apply keeps_skip)) trivial ?_)
              clear hl hh a w; intro vc Fc a w hR hl hh
              obtain ⟨s1, hs1, hps1, rfl, rfl⟩ := hR
              try simp only [List.cons_append, List.nil_append, List.append_assoc, List.append_nil] at hh
              try simp only [List.append_assoc] at hh
              have hphs1 : s1.ph = W.l.pl.d.ph := congrArg StP.ph hps1
              have hM : Mem [(k6, C [.int .u8 i.k, .int .u32 i.id, .int .u32 i.i2, .slice p i.tx.length cap, .int .u8 i.v.k, .int .u8 i.v.a, .int .u8 i.v.b, .int .u8 i.v.w, .int .u8 i.v.da, .int .u8 i.v.dl, .int .u8 i.m.k, .int .u8 i.m.d, .int .u32 i.m.e, .int .u32 i.m.b, .bool i.m.y, .int .u32 i.m.r, .int .u32 i.m.s, .string i.m.t] 116)] w := (memK hh (by repeat (first | exact keeps_nil | apply keeps_cons (by repeat (first | exact find_head | apply find_tail | apply find_skip)) (by first  | rfl) | exact keeps_self | exact keeps_left | apply keeps_app | apply keeps_mv | apply keeps_skip)))
              refine d_step (fun _ => hM) ?_
              refine d_take (i := 12) hl rfl (by kernel_rfl) (by kernel_rfl) (by kernel_rfl) (by kernel_rfl) (by kernel_rfl) rfl ⟨_, _, rfl, rfl, rfl⟩ (fun _ _ _ h => h) hM (fun w hC => r_fieldV hl rfl fldT48_2 one33 (stc_2 s1)) rfl ?_
              clear hl a; intro a hl
              refine d_one (i := 17) (by kernel_rfl) rfl ?_
              try clear hM
              refine id (w_call hl hh rfl ⟨_, _, rfl, rfl, rfl⟩ rfl cal115 rfl (same_spec s1.is V9.iv s1.ip V9.ip s1.ic V9.ic s1.iE E9 hs1.i h9R hs1.io hVo.io (by have := hs1.il; omega) (by omega)) (by repeat (first | exact keeps_nil | apply keeps_cons (by repeat (first | exact find_head | apply find_tail | apply find_skip)) (by first  | rfl) | exact keeps_self | exact keeps_left | apply keeps_app | apply keeps_mv | apply keeps_skip)) ⟨fun b o m => memK (E := s1.E) hh (by repeat (first | exact keeps_nil | apply keeps_cons (by repeat (first | exact find_head | apply find_tail | apply find_skip)) (by first  | rfl) | exact keeps_self | exact keeps_left | apply keeps_app | apply keeps_mv | apply keeps_skip)) b o (inE_i m), fun b o m => memK (E := V9.B) hh (by repeat (first | exact keeps_nil | apply keeps_cons (by repeat (first | exact find_head | apply find_tail | apply find_skip)) (by first  | rfl) | exact keeps_self | exact keeps_left | apply keeps_app | apply keeps_mv | apply keeps_skip)) b o (h9Z _ m)⟩ ?_)
              clear hl hh a w; intro vc Fc a w hR hl hh
              obtain ⟨rfl, rfl⟩ := hR
              try simp only [List.cons_append, List.nil_append, List.append_assoc, List.append_nil] at hh
              refine d_step (fun h => absurd h (by decide)) ?_
              refine d_takeL (i := 18) hl rfl (by kernel_rfl) (by kernel_rfl) (by kernel_rfl) (by kernel_rfl) (by kernel_rfl) rfl trivial (fun _ _ _ h => h) (fun w => r_pickF hl rfl rfl) rfl ?_
              clear hl a; intro a hl
              refine d_takeL (i := 19) hl rfl (by kernel_rfl) (by kernel_rfl) (by kernel_rfl) (by kernel_rfl) (by kernel_rfl) rfl trivial (fun _ _ _ h => h) (fun w => r_assign hl rfl) rfl ?_
              clear hl a; intro a hl
              refine d_done (by kernel_rfl) ?_
              try clear hM
              have hl2 := hl.add (t := 10) (hl.nil) rfl; clear hl; have hl := hl2; clear hl2
              refine then_normal ?_
              refine wp_ret ?_
              first
              | (have hsm : ¬ ToX.cd i c9 = 14 → sameP s1.is V9.iv = true := fun h => by
                   rcases hS.e with h9 | h9
                   · exact absurd h9 h
                   · rw [show s1.is = W.l.pl.d.is from congrArg StP.is hps1, show V9.iv = (V.pl.nx i c9).iv from congrArg ToX.iv hVp]; exact h9
                 refine f_ret1 (F' := (lb, C (toC wb V9) 62) :: ((V9.tb, MO (kInt .u32) V9.tm) :: (V9.B ++ (((wb, C W.c 84) :: (W.tE ++ (W.gE ++ (DsF W.ds ++ W.GF Z)))) ++ Es)))) hl hh rfl rfl (by repeat (first | exact keeps_nil | apply keeps_cons (by repeat (first | exact find_head | apply find_tail | apply find_skip)) (by first  | rfl) | exact keeps_self | exact keeps_left | apply keeps_app | apply keeps_mv | apply keeps_skip)) ?_
                 exact ⟨by rw [hsm (by omega)], V9, hVo, hVp, rfl⟩)
              | (refine f_ret1 (F' := (lb, C (toC wb V9) 62) :: ((V9.tb, MO (kInt .u32) V9.tm) :: (V9.B ++ (((wb, C W.c 84) :: (W.tE ++ (W.gE ++ (DsF W.ds ++ W.GF Z)))) ++ Es)))) hl hh rfl rfl (by repeat (first | exact keeps_nil | apply keeps_cons (by repeat (first | exact find_head | apply find_tail | apply find_skip)) (by first  | rfl) | exact keeps_self | exact keeps_left | apply keeps_app | apply keeps_mv | apply keeps_skip)) ?_
                 exact ⟨rfl, V9, hVo, hVp, rfl⟩)
      · intro hc5
        try simp only [decide_eq_true_eq, decide_eq_false_iff_not, Bool.not_eq_true', Bool.not_eq_false', Bool.not_eq_true, Bool.not_eq_false, Bool.and_eq_true, Bool.or_eq_true, Bool.and_eq_false_iff, Bool.or_eq_false_iff, Bool.not_not, ne_eq, Int.not_lt, Int.not_le, Decidable.not_not, beq_iff_eq, bne_iff_ne] at hc5
        exfalso; first | contradiction | omega
end Go.Proofs.Qxb6500908a

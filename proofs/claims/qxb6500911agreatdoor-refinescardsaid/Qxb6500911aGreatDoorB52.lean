import Derived.Test.Qxb6500911aGreatDoorB4
namespace Go.Proofs.Qxb6500911aGreatDoor
open Go.Eng
set_option linter.unusedVariables false
set_option linter.unusedSimpArgs false
theorem cal28 : callable Tryz.prog 28 = true := by kernel_rfl
theorem agg34 : aggOk Tryz.prog 34 4 = true := by kernel_rfl
theorem cal29 : callable Tryz.prog 29 = true := by kernel_rfl
theorem cal31 : callable Tryz.prog 31 = true := by kernel_rfl
theorem bld39 : buildOk Tryz.prog 39 [(0, 1), (1, 1)] = true := by kernel_rfl
theorem cal26 : callable Tryz.prog 26 = true := by kernel_rfl
set_option maxHeartbeats 16000000 in
theorem stepD_2 {g : Gs} {got : Nat → List Ms} {M : Dm} {B Q : Int} {L : Nat} (hR0 : MR Q L g got M) (bd : Nat) (hL : L + 40 ≤ 100000000) (hq : BQ (B + 40) (Q + 400)) (hB0 : 0 ≤ B) (hQ0 : 0 ≤ Q) (hG : GI B Q g) (t at_ : Nat) (y c : Int) (ht : t < 16) (ha0 : at_ < 4) (hrm : roomP g.bx at_ 4 = true) : Sp Tryz.prog 8 #[.pointer (some ⟨bd, 0, none⟩), .agg ⟨opc ⟨2, (t : Int), (at_ : Int), c⟩⟩] (mdL bd M) (fun v F' => v = .agg ⟨[.int .i64 (stepG g ⟨2, (t : Int), (at_ : Int), c⟩).2.1, .int .u16 (mi (stepG g ⟨2, (t : Int), (at_ : Int), c⟩).2.2)]⟩ ∧ ∃ got' M', F' = mdL bd M' ∧ MR (Q + 400) (L + 40) (stepG g ⟨2, (t : Int), (at_ : Int), c⟩).1 got' M') := by
  refine f_enter (args := [.pointer (some ⟨bd, 0, none⟩), .agg ⟨opc ⟨2, (t : Int), (at_ : Int), c⟩⟩]) Tryz.func8 rfl Tryz.ntmps8 rfl ?_
  intro w0 w a hpre hl hh
  have hb1 := hq.b; have hq1 := hq.q
  have ha : at_ < 4 := by omega
  have hD := hR0.md
  have hi9 := hG.ti
  obtain ⟨hti, ep, b, hSt⟩ := stepM (k := 2) (a := at_) (b := (at_ : Int)) (c := c) hG hQ0 ht (by omega) ha (by omega) (fun _ => hrm)
  have hbo := hSt.bo
  have hmb := hSt.mb
  have he0 : EpI (Q + 400) g.ep := hG.ep.mono (by omega)
  unfold mdL at hh
  simp only [slotsFrom, Nat.reduceAdd] at hl
  refine c_seq ?_
  refine c_region ?_
  refine wl (w_box hl hh rfl trivial rfl rfl ?_)
  clear hl hh a w; intro k3 a w hl hh
  refine wl (w_alloc hl hh rfl trivial zero39 rfl ?_)
  clear hl hh a w; intro k4 a w hl hh
  refine w_nil ?_
  have hl2 := hl.add (t := 0) (hl.add (t := 3) (hl.add (t := 4) (hl.nil) rfl) rfl) rfl; clear hl; have hl := hl2; clear hl2
  refine then_normal ?_
  refine c_seq ?_
  refine c_seq ?_
  refine c_region ?_
  refine wl (wl_val hl rfl trivial (r_field hl rfl fld34_0) ?_)
  clear hl a; intro a hl
  refine wl (w_load hl hh rfl trivial one32 rfl (by repeat (first | exact find_head | apply find_tail | apply find_skip)) (by first | exact md_p0 hD.p0 | exact md_p0 hD1.p0 | exact msk_get hi16 | exact md_ep hS3.md.ep hi16 | rfl) ?_)
  clear hl a; intro a hl
  refine wl (wl_val hl rfl trivial (r_eql hl rfl rfl) ?_)
  clear hl a; intro a hl
  refine w_nil ?_
  have hl2 := hl.add (t := 0) (hl.add (t := 3) (hl.add (t := 4) (hl.add (t := 20) (hl.nil) rfl) rfl) rfl) rfl; clear hl; have hl := hl2; clear hl2
  refine then_normal ?_
  refine c_cond hl rfl ?_ ?_
  · intro hc0
    try simp only [decide_eq_true_eq, decide_eq_false_iff_not, Bool.not_eq_true', Bool.not_eq_false', Bool.not_eq_true, Bool.not_eq_false, Bool.and_eq_true, Bool.or_eq_true, Bool.and_eq_false_iff, Bool.or_eq_false_iff, Bool.not_not, ne_eq, Int.not_lt, Int.not_le, Decidable.not_not, beq_iff_eq, bne_iff_ne] at hc0
    exfalso; first | contradiction | omega
  · intro hc0
    try simp only [decide_eq_true_eq, decide_eq_false_iff_not, Bool.not_eq_true', Bool.not_eq_false', Bool.not_eq_true, Bool.not_eq_false, Bool.and_eq_true, Bool.or_eq_true, Bool.and_eq_false_iff, Bool.or_eq_false_iff, Bool.not_not, ne_eq, Int.not_lt, Int.not_le, Decidable.not_not, beq_iff_eq, bne_iff_ne] at hc0
    refine wp_skip ?_
    refine then_normal ?_
    refine c_seq ?_
    refine c_seq ?_
    refine c_region ?_
    refine wl (wl_val hl rfl trivial (r_field hl rfl fld34_0) ?_)
    clear hl a; intro a hl
    refine wl (w_load hl hh rfl trivial one32 rfl (by repeat (first | exact find_head | apply find_tail | apply find_skip)) (by first | exact md_p0 hD.p0 | exact md_p0 hD1.p0 | exact msk_get hi16 | exact md_ep hS3.md.ep hi16 | rfl) ?_)
    clear hl a; intro a hl
    refine wl (wl_val hl rfl trivial (r_geq hl rfl rfl) ?_)
    clear hl a; intro a hl
    refine w_nil ?_
    have hl2 := hl.add (t := 0) (hl.add (t := 3) (hl.add (t := 4) (hl.add (t := 53) (hl.nil) rfl) rfl) rfl) rfl; clear hl; have hl := hl2; clear hl2
    refine then_normal ?_
    refine c_cond hl rfl ?_ ?_
    · intro hc2
      try simp only [decide_eq_true_eq, decide_eq_false_iff_not, Bool.not_eq_true', Bool.not_eq_false', Bool.not_eq_true, Bool.not_eq_false, Bool.and_eq_true, Bool.or_eq_true, Bool.and_eq_false_iff, Bool.or_eq_false_iff, Bool.not_not, ne_eq, Int.not_lt, Int.not_le, Decidable.not_not, beq_iff_eq, bne_iff_ne] at hc2
      exfalso; first | contradiction | omega
    · intro hc2
      try simp only [decide_eq_true_eq, decide_eq_false_iff_not, Bool.not_eq_true', Bool.not_eq_false', Bool.not_eq_true, Bool.not_eq_false, Bool.and_eq_true, Bool.or_eq_true, Bool.and_eq_false_iff, Bool.or_eq_false_iff, Bool.not_not, ne_eq, Int.not_lt, Int.not_le, Decidable.not_not, beq_iff_eq, bne_iff_ne] at hc2
      refine wp_skip ?_
      refine then_normal ?_
      refine c_seq ?_
      refine c_seq ?_
      refine c_region ?_
      refine wl (wl_val hl rfl trivial (r_field hl rfl fld34_1) ?_)
      clear hl a; intro a hl
      refine wl (w_load hl hh rfl trivial one2 rfl (by repeat (first | exact find_head | apply find_tail | apply find_skip)) (by first | exact md_p0 hD.p0 | exact md_p0 hD1.p0 | exact msk_get hi16 | exact md_ep hS3.md.ep hi16 | rfl) ?_)
      clear hl a; intro a hl
      refine wl (w_call hl hh rfl trivial rfl cal24 rfl (within_spec _ _) (by repeat (first | exact keeps_nil | apply keeps_cons (by repeat (first | exact find_head | apply find_tail | apply find_skip)) (by first  | rfl) | exact keeps_self | exact keeps_left | apply keeps_app | apply keeps_mv | apply keeps_skip)) trivial ?_)
      clear hl hh a w; intro vc Fc a w hR hl hh
      obtain ⟨rfl, rfl⟩ := hR
      try simp only [List.cons_append, List.nil_append, List.append_assoc, List.append_nil] at hh
      refine wl (wl_val hl rfl trivial (r_not hl rfl) ?_)
      clear hl a; intro a hl
      refine w_nil ?_
      have hl2 := hl.add (t := 0) (hl.add (t := 3) (hl.add (t := 4) (hl.add (t := 58) (hl.nil) rfl) rfl) rfl) rfl; clear hl; have hl := hl2; clear hl2
      refine then_normal ?_
      refine c_cond hl rfl ?_ ?_
      · intro hc3
        try simp only [decide_eq_true_eq, decide_eq_false_iff_not, Bool.not_eq_true', Bool.not_eq_false', Bool.not_eq_true, Bool.not_eq_false, Bool.and_eq_true, Bool.or_eq_true, Bool.and_eq_false_iff, Bool.or_eq_false_iff, Bool.not_not, ne_eq, Int.not_lt, Int.not_le, Decidable.not_not, beq_iff_eq, bne_iff_ne] at hc3
        exfalso; first | contradiction | omega
      · intro hc3
        try simp only [decide_eq_true_eq, decide_eq_false_iff_not, Bool.not_eq_true', Bool.not_eq_false', Bool.not_eq_true, Bool.not_eq_false, Bool.and_eq_true, Bool.or_eq_true, Bool.and_eq_false_iff, Bool.or_eq_false_iff, Bool.not_not, ne_eq, Int.not_lt, Int.not_le, Decidable.not_not, beq_iff_eq, bne_iff_ne] at hc3
        refine wp_skip ?_
        refine then_normal ?_
        refine c_seq ?_
        refine c_region ?_
        refine wl (wl_val hl rfl trivial (r_field hl rfl fld34_1) ?_)
        clear hl a; intro a hl
        refine wl (w_load hl hh rfl trivial one2 rfl (by repeat (first | exact find_head | apply find_tail | apply find_skip)) (by first | exact md_p0 hD.p0 | exact md_p0 hD1.p0 | exact msk_get hi16 | exact md_ep hS3.md.ep hi16 | rfl) ?_)
        clear hl a; intro a hl
        refine wl (wl_val hl rfl trivial (r_assign hl rfl) ?_)
        clear hl a; intro a hl
        refine w_nil ?_
        have hl2 := hl.add (t := 0) (hl.add (t := 3) (hl.add (t := 4) (hl.add (t := 7) (hl.nil) rfl) rfl) rfl) rfl; clear hl; have hl := hl2; clear hl2
        refine then_normal ?_
        refine c_seq ?_
        refine c_region ?_
        refine wl (wl_val hl rfl trivial (r_move hl rfl) ?_)
        clear hl a; intro a hl
        refine wl (w_call hl hh rfl trivial rfl cal25 rfl (home_spec t ht) (by repeat (first | exact keeps_nil | apply keeps_cons (by repeat (first | exact find_head | apply find_tail | apply find_skip)) (by first  | rfl) | exact keeps_self | exact keeps_left | apply keeps_app | apply keeps_mv | apply keeps_skip)) trivial ?_)
        clear hl hh a w; intro vc Fc a w hR hl hh
        obtain ⟨rfl, rfl⟩ := hR
        try simp only [List.cons_append, List.nil_append, List.append_assoc, List.append_nil] at hh
        refine wl (wl_val hl rfl trivial (r_assign hl rfl) ?_)
        clear hl a; intro a hl
        refine w_nil ?_
        have hl2 := hl.add (t := 0) (hl.add (t := 3) (hl.add (t := 4) (hl.add (t := 7) (hl.add (t := 8) (hl.nil) rfl) rfl) rfl) rfl) rfl; clear hl; have hl := hl2; clear hl2
        refine then_normal ?_
        refine c_seq ?_
        refine c_seq ?_
        refine c_region ?_
        refine wl (wl_val hl rfl trivial (r_field hl rfl fld34_0) ?_)
        clear hl a; intro a hl
        refine wl (w_load hl hh rfl trivial one32 rfl (by repeat (first | exact find_head | apply find_tail | apply find_skip)) (by first | exact md_p0 hD.p0 | exact md_p0 hD1.p0 | exact msk_get hi16 | exact md_ep hS3.md.ep hi16 | rfl) ?_)
        clear hl a; intro a hl
        refine wl (wl_val hl rfl trivial (r_eql hl rfl rfl) ?_)
        clear hl a; intro a hl
        refine wl (wl_val hl rfl trivial (r_move hl rfl) ?_)
        clear hl a; intro a hl
        refine sl_split (t := 67) hl rfl ?_ ?_
        · intro hg1; clear hl; intro hl
          try simp only [decide_eq_true_eq, decide_eq_false_iff_not, Bool.not_eq_true', Bool.not_eq_false', Bool.not_eq_true, Bool.not_eq_false, Bool.and_eq_true, Bool.or_eq_true, Bool.and_eq_false_iff, Bool.or_eq_false_iff, Bool.not_not, ne_eq, Int.not_lt, Int.not_le, Decidable.not_not, beq_iff_eq, bne_iff_ne] at hg1
          refine wl (wl_skip hl rfl ⟨_, _, rfl, rfl, rfl⟩ ?_)
          clear hl a; intro a hl
          refine wl (wl_skip hl rfl ⟨_, _, rfl, rfl, rfl⟩ ?_)
          clear hl a; intro a hl
          refine wl (wl_skip hl rfl ⟨_, _, rfl, rfl, rfl⟩ ?_)
          clear hl a; intro a hl
          refine wl (wl_val hl rfl trivial (r_pickT hl rfl rfl) ?_)
          clear hl a; intro a hl
          refine w_nil ?_
          have hl2 := hl.add (t := 0) (hl.add (t := 3) (hl.add (t := 4) (hl.add (t := 7) (hl.add (t := 8) (hl.add (t := 71) (hl.nil) rfl) rfl) rfl) rfl) rfl) rfl; clear hl; have hl := hl2; clear hl2
          refine then_normal ?_
          refine c_condT hl rfl ?_
          refine c_seq ?_
          refine c_seq ?_
          refine c_region ?_
          refine wl (wl_val hl rfl trivial (r_field hl rfl fld34_2) ?_)
          clear hl a; intro a hl
          refine wl (w_load hl hh rfl trivial one2 rfl (by repeat (first | exact find_head | apply find_tail | apply find_skip)) (by first | exact md_p0 hD.p0 | exact md_p0 hD1.p0 | exact msk_get hi16 | exact md_ep hS3.md.ep hi16 | rfl) ?_)
          clear hl a; intro a hl
          refine wl (w_call hl hh rfl trivial rfl cal24 rfl (within_spec _ _) (by repeat (first | exact keeps_nil | apply keeps_cons (by repeat (first | exact find_head | apply find_tail | apply find_skip)) (by first  | rfl) | exact keeps_self | exact keeps_left | apply keeps_app | apply keeps_mv | apply keeps_skip)) trivial ?_)
          clear hl hh a w; intro vc Fc a w hR hl hh
          obtain ⟨rfl, rfl⟩ := hR
          try simp only [List.cons_append, List.nil_append, List.append_assoc, List.append_nil] at hh
          refine wl (wl_val hl rfl trivial (r_not hl rfl) ?_)
          clear hl a; intro a hl
          refine w_nil ?_
          have hl2 := hl.add (t := 0) (hl.add (t := 3) (hl.add (t := 4) (hl.add (t := 7) (hl.add (t := 75) (hl.nil) rfl) rfl) rfl) rfl) rfl; clear hl; have hl := hl2; clear hl2
          refine then_normal ?_
          refine c_cond hl rfl ?_ ?_
          · intro hc5
            try simp only [decide_eq_true_eq, decide_eq_false_iff_not, Bool.not_eq_true', Bool.not_eq_false', Bool.not_eq_true, Bool.not_eq_false, Bool.and_eq_true, Bool.or_eq_true, Bool.and_eq_false_iff, Bool.or_eq_false_iff, Bool.not_not, ne_eq, Int.not_lt, Int.not_le, Decidable.not_not, beq_iff_eq, bne_iff_ne] at hc5
            exfalso; first | contradiction | omega
          · intro hc5
            try simp only [decide_eq_true_eq, decide_eq_false_iff_not, Bool.not_eq_true', Bool.not_eq_false', Bool.not_eq_true, Bool.not_eq_false, Bool.and_eq_true, Bool.or_eq_true, Bool.and_eq_false_iff, Bool.or_eq_false_iff, Bool.not_not, ne_eq, Int.not_lt, Int.not_le, Decidable.not_not, beq_iff_eq, bne_iff_ne] at hc5
            refine wp_skip ?_
            refine then_normal ?_
            refine c_region ?_
            refine wl (wl_val hl rfl trivial (r_field hl rfl fld34_2) ?_)
            clear hl a; intro a hl
            refine wl (w_load hl hh rfl trivial one2 rfl (by repeat (first | exact find_head | apply find_tail | apply find_skip)) (by first | exact md_p0 hD.p0 | exact md_p0 hD1.p0 | exact msk_get hi16 | exact md_ep hS3.md.ep hi16 | rfl) ?_)
            clear hl a; intro a hl
            refine wl (wl_val hl rfl trivial (r_assign hl rfl) ?_)
            clear hl a; intro a hl
            refine w_nil ?_
            have hl2 := hl.add (t := 0) (hl.add (t := 3) (hl.add (t := 4) (hl.add (t := 7) (hl.add (t := 8) (hl.nil) rfl) rfl) rfl) rfl) rfl; clear hl; have hl := hl2; clear hl2
            refine then_normal ?_
            refine c_seq ?_
            refine c_seq ?_
            refine c_region ?_
            refine wl (wl_val hl rfl trivial (r_field hl rfl fld34_0) ?_)
            clear hl a; intro a hl
            refine wl (w_load hl hh rfl trivial one32 rfl (by repeat (first | exact find_head | apply find_tail | apply find_skip)) (by first | exact md_p0 hD.p0 | exact md_p0 hD1.p0 | exact msk_get hi16 | exact md_ep hS3.md.ep hi16 | rfl) ?_)
            clear hl a; intro a hl
            refine wl (wl_val hl rfl trivial (r_neq hl rfl rfl) ?_)
            clear hl a; intro a hl
            refine wl (wl_val hl rfl trivial (r_move hl rfl) ?_)
            clear hl a; intro a hl
            refine sl_split (t := 82) hl rfl ?_ ?_
            · intro hg2; clear hl; intro hl
              try simp only [decide_eq_true_eq, decide_eq_false_iff_not, Bool.not_eq_true', Bool.not_eq_false', Bool.not_eq_true, Bool.not_eq_false, Bool.and_eq_true, Bool.or_eq_true, Bool.and_eq_false_iff, Bool.or_eq_false_iff, Bool.not_not, ne_eq, Int.not_lt, Int.not_le, Decidable.not_not, beq_iff_eq, bne_iff_ne] at hg2
              refine wl (wl_val hl rfl ⟨_, _, rfl, rfl, rfl⟩ (r_move hl rfl) ?_)
              clear hl a; intro a hl
              refine wl (wl_val hl rfl ⟨_, _, rfl, rfl, rfl⟩ (r_move hl rfl) ?_)
              clear hl a; intro a hl
              refine wl (w_call hl hh rfl ⟨_, _, rfl, rfl, rfl⟩ rfl cal26 rfl (roomy_spec hD bd hG.b32 at_ ha) (by repeat (first | exact keeps_nil | apply keeps_cons (by repeat (first | exact find_head | apply find_tail | apply find_skip)) (by first  | rfl) | exact keeps_self | exact keeps_left | apply keeps_app | apply keeps_mv | apply keeps_skip)) (memK (E := mdL bd M) hh (by repeat (first | exact keeps_nil | apply keeps_cons (by repeat (first | exact find_head | apply find_tail | apply find_skip)) (by first  | rfl) | exact keeps_self | exact keeps_left | apply keeps_app | apply keeps_mv | apply keeps_skip))) ?_)
              clear hl hh a w; intro vc Fc a w hR hl hh
              obtain ⟨rfl, rfl⟩ := hR
              try simp only [List.cons_append, List.nil_append, List.append_assoc, List.append_nil] at hh
              rw [hrm] at hl
              refine wl (wl_val hl rfl ⟨_, _, rfl, rfl, rfl⟩ (r_not hl rfl) ?_)
              clear hl a; intro a hl
              refine wl (wl_val hl rfl trivial (r_pickT hl rfl rfl) ?_)
              clear hl a; intro a hl
              refine w_nil ?_
              have hl2 := hl.add (t := 0) (hl.add (t := 3) (hl.add (t := 4) (hl.add (t := 7) (hl.add (t := 8) (hl.add (t := 87) (hl.nil) rfl) rfl) rfl) rfl) rfl) rfl; clear hl; have hl := hl2; clear hl2
              refine then_normal ?_
              refine c_cond hl rfl ?_ ?_
              · intro hc6
                try simp only [decide_eq_true_eq, decide_eq_false_iff_not, Bool.not_eq_true', Bool.not_eq_false', Bool.not_eq_true, Bool.not_eq_false, Bool.and_eq_true, Bool.or_eq_true, Bool.and_eq_false_iff, Bool.or_eq_false_iff, Bool.not_not, ne_eq, Int.not_lt, Int.not_le, Decidable.not_not, beq_iff_eq, bne_iff_ne] at hc6
                exfalso; first | contradiction | omega
              · intro hc6
                try simp only [decide_eq_true_eq, decide_eq_false_iff_not, Bool.not_eq_true', Bool.not_eq_false', Bool.not_eq_true, Bool.not_eq_false, Bool.and_eq_true, Bool.or_eq_true, Bool.and_eq_false_iff, Bool.or_eq_false_iff, Bool.not_not, ne_eq, Int.not_lt, Int.not_le, Decidable.not_not, beq_iff_eq, bne_iff_ne] at hc6
                refine wp_skip ?_
                refine then_normal ?_
                refine c_seq ?_
                refine c_region ?_
                refine wl (wl_val hl rfl trivial (r_move hl rfl) ?_)
                clear hl a; intro a hl
                refine wl (wl_val hl rfl trivial (r_nilCheck hl rfl) ?_)
                clear hl a; intro a hl
                refine wl (wl_val hl rfl trivial (r_field hl rfl fld65_0) ?_)
                clear hl a; intro a hl
                refine wl (w_load hl hh rfl trivial one26 rfl (by repeat (first | exact find_head | apply find_tail | apply find_skip)) (by first | exact md_p0 hD.p0 | exact md_p0 hD1.p0 | exact msk_get hi16 | exact md_ep hS3.md.ep hi16 | rfl) ?_)
                clear hl a; intro a hl
                refine wl (w_call hl hh rfl trivial rfl cal27 rfl (waitsFor_spec hD.tb M.bt hi9) (by repeat (first | exact keeps_nil | apply keeps_cons (by repeat (first | exact find_head | apply find_tail | apply find_skip)) (by first  | rfl) | exact keeps_self | exact keeps_left | apply keeps_app | apply keeps_mv | apply keeps_skip)) (memK (E := tbL M.bt M.ft M.Et) hh (by repeat (first | exact keeps_nil | apply keeps_cons (by repeat (first | exact find_head | apply find_tail | apply find_skip)) (by first  | rfl) | exact keeps_self | exact keeps_left | apply keeps_app | apply keeps_mv | apply keeps_skip))) ?_)
                clear hl hh a w; intro vc Fc a w hR hl hh
                obtain ⟨rfl, rfl⟩ := hR
                try simp only [List.cons_append, List.nil_append, List.append_assoc, List.append_nil] at hh
                refine wl (wl_val hl rfl trivial (r_move hl rfl) ?_)
                clear hl a; intro a hl
                refine wl (w_call hl hh rfl trivial rfl cal28 rfl (waiting_spec hD bd hi9) (by repeat (first | exact keeps_nil | apply keeps_cons (by repeat (first | exact find_head | apply find_tail | apply find_skip)) (by first  | rfl) | exact keeps_self | exact keeps_left | apply keeps_app | apply keeps_mv | apply keeps_skip)) (memK (E := mdL bd M) hh (by repeat (first | exact keeps_nil | apply keeps_cons (by repeat (first | exact find_head | apply find_tail | apply find_skip)) (by first  | rfl) | exact keeps_self | exact keeps_left | apply keeps_app | apply keeps_mv | apply keeps_skip))) ?_)
                clear hl hh a w; intro vc Fc a w hR hl hh
                obtain ⟨rfl, rfl⟩ := hR
                try simp only [List.cons_append, List.nil_append, List.append_assoc, List.append_nil] at hh
                refine wl (w_alloc hl hh rfl trivial zero50 rfl ?_)
                clear hl hh a w; intro k9 a w hl hh
                refine wl (w_storeA hl hh trivial agg50 rfl rfl (by repeat (first | exact find_head | apply find_tail | apply find_skip)) (by first | rfl | exact mskA_len _) (by first | exact Nat.le_refl _ | (rw [mskA_len]; exact Nat.le_refl _)) (by exact mskA_one _) (by exact setL_whole (mskA_len _)) ?_)
                clear hh w; intro w hh
                refine wl (wl_val hl rfl trivial (r_assign hl rfl) ?_)
                clear hl a; intro a hl
                refine w_nil ?_
                have hl2 := hl.add (t := 0) (hl.add (t := 3) (hl.add (t := 4) (hl.add (t := 7) (hl.add (t := 8) (hl.add (t := 9) (hl.add (t := 10) (hl.nil) rfl) rfl) rfl) rfl) rfl) rfl) rfl; clear hl; have hl := hl2; clear hl2
                refine then_normal ?_
                refine c_seq ?_
                refine c_region ?_
                refine wl (wl_val hl rfl trivial (r_move hl rfl) ?_)
                clear hl a; intro a hl
                refine wl (w_loadA hl hh rfl trivial agg34 rfl (by repeat (first | exact find_head | apply find_tail | apply find_skip)) (by first | (simp only [List.getElem?_cons_zero, List.getElem?_cons_succ, Value.cells, List.take_zero, List.take_succ_cons, List.take_nil, List.drop_zero, List.drop_succ_cons, List.drop_nil, List.length_cons, List.length_nil, List.cons_append, List.nil_append, List.append_nil, Nat.zero_add, Nat.add_zero, Nat.reduceAdd, Nat.reduceBEq, Nat.reduceEqDiff, Nat.ble, BEq.rfl, Bool.and_true, Bool.and_self, cond_true, beq_self_eq_true]; rfl)) (by first | rfl | (simp; done)) ?_)
                clear hl a; intro a hl
                refine wl (wl_val hl rfl trivial (r_move hl rfl) ?_)
                clear hl a; intro a hl
                refine wl (w_call hl hh rfl trivial rfl cal29 rfl (change_spec hD bd hi9 2 (t : Int) (at_ : Int) c t ht) (by repeat (first | exact keeps_nil | apply keeps_cons (by repeat (first | exact find_head | apply find_tail | apply find_skip)) (by first  | rfl) | exact keeps_self | exact keeps_left | apply keeps_app | apply keeps_mv | apply keeps_skip)) trivial ?_)
                clear hl hh a w; intro vc Fc a w hR hl hh
                obtain ⟨rfl, M1, hF1, hD1, hbm1, hbt1⟩ := hR
                try simp only [List.cons_append, List.nil_append, List.append_assoc, List.append_nil] at hh
                subst hF1
                unfold mdL at hh
                try simp only [List.cons_append, List.append_assoc] at hh
                refine wl (wl_val hl rfl trivial (r_assign hl rfl) ?_)
                clear hl a; intro a hl
                refine w_nil ?_
                have hl2 := hl.add (t := 0) (hl.add (t := 4) (hl.add (t := 7) (hl.add (t := 8) (hl.add (t := 9) (hl.add (t := 10) (hl.add (t := 11) (hl.nil) rfl) rfl) rfl) rfl) rfl) rfl) rfl; clear hl; have hl := hl2; clear hl2
                refine then_normal ?_
                refine c_seq ?_
                refine c_region ?_
                refine wl (wl_val hl rfl trivial (r_move hl rfl) ?_)
                clear hl a; intro a hl
                refine wl (wl_val hl rfl trivial (r_nilCheck hl rfl) ?_)
                clear hl a; intro a hl
                refine wl (wl_val hl rfl trivial (r_field hl rfl fld65_0) ?_)
                clear hl a; intro a hl
                refine wl (w_load hl hh rfl trivial one26 rfl (by repeat (first | exact find_head | apply find_tail | apply find_skip)) (by first | exact md_p0 hD.p0 | exact md_p0 hD1.p0 | exact msk_get hi16 | exact md_ep hS3.md.ep hi16 | rfl) ?_)
                clear hl a; intro a hl
                refine wl (w_call hl hh rfl trivial rfl cal27 rfl (waitsFor_spec hD1.tb M1.bt hti) (by repeat (first | exact keeps_nil | apply keeps_cons (by repeat (first | exact find_head | apply find_tail | apply find_skip)) (by first  | rfl) | exact keeps_self | exact keeps_left | apply keeps_app | apply keeps_mv | apply keeps_skip)) (memK (E := tbL M1.bt M1.ft M1.Et) hh (by repeat (first | exact keeps_nil | apply keeps_cons (by repeat (first | exact find_head | apply find_tail | apply find_skip)) (by first  | rfl) | exact keeps_self | exact keeps_left | apply keeps_app | apply keeps_mv | apply keeps_skip))) ?_)
                clear hl hh a w; intro vc Fc a w hR hl hh
                obtain ⟨rfl, rfl⟩ := hR
                try simp only [List.cons_append, List.nil_append, List.append_assoc, List.append_nil] at hh
                try dsimp only [setC] at hl
                refine wl (wl_val hl rfl trivial (r_move hl rfl) ?_)
                clear hl a; intro a hl
                refine wl (w_call hl hh rfl trivial rfl cal28 rfl (waiting_spec hD1 bd hti) (by repeat (first | exact keeps_nil | apply keeps_cons (by repeat (first | exact find_head | apply find_tail | apply find_skip)) (by first  | rfl) | exact keeps_self | exact keeps_left | apply keeps_app | apply keeps_mv | apply keeps_skip)) (memK (E := mdL bd M1) hh (by repeat (first | exact keeps_nil | apply keeps_cons (by repeat (first | exact find_head | apply find_tail | apply find_skip)) (by first  | rfl) | exact keeps_self | exact keeps_left | apply keeps_app | apply keeps_mv | apply keeps_skip))) ?_)
                clear hl hh a w; intro vc Fc a w hR hl hh
                obtain ⟨rfl, rfl⟩ := hR
                try simp only [List.cons_append, List.nil_append, List.append_assoc, List.append_nil] at hh
                try dsimp only [setC] at hl
                refine wl (w_alloc hl hh rfl trivial zero50 rfl ?_)
                clear hl hh a w; intro k12 a w hl hh
                refine wl (w_storeA hl hh trivial agg50 rfl rfl (by repeat (first | exact find_head | apply find_tail | apply find_skip)) (by first | rfl | exact mskA_len _) (by first | exact Nat.le_refl _ | (rw [mskA_len]; exact Nat.le_refl _)) (by exact mskA_one _) (by exact setL_whole (mskA_len _)) ?_)
                clear hh w; intro w hh
                refine wl (wl_val hl rfl trivial (r_assign hl rfl) ?_)
                clear hl a; intro a hl
                refine w_nil ?_
                have hl2 := hl.add (t := 0) (hl.add (t := 4) (hl.add (t := 7) (hl.add (t := 8) (hl.add (t := 9) (hl.add (t := 10) (hl.add (t := 11) (hl.add (t := 12) (hl.add (t := 13) (hl.nil) rfl) rfl) rfl) rfl) rfl) rfl) rfl) rfl) rfl; clear hl; have hl := hl2; clear hl2
                have hI0 : QM B (Q + 400) L at_ b g (setC g (chM g.tb 2 t (at_ : Int) c).1 ep) M1 (setC g (chM g.tb 2 t (at_ : Int) c).1 g.ep) got M1 0 0#16 := QM.start ⟨hD1, hR0.go.mono (by omega), hR0.ln⟩ (hG.core (by omega) hti he0) (.inr hrm)
                have hh2 := hh.keep (F' := ((k12, C (mskA (wfN (chM g.tb 2 t (at_ : Int) c).1 20)) 50) :: (k9, C (mskA (wfN g.tb 20)) 50) :: (k4, C [.int .i64 0, .int .u16 0] 39) :: (k3, C (opc ⟨2, (t : Int), (at_ : Int), c⟩) 34) :: mdL bd M1)) (by repeat (first | exact keeps_nil | apply keeps_cons (by repeat (first | exact find_head | apply find_tail | apply find_skip)) (by first  | rfl) | exact keeps_self | exact keeps_left | apply keeps_app | apply keeps_mv | apply keeps_skip))
                clear hh
                have hh := hh2
                clear hh2
                refine then_normal ?_
                refine c_seq ?_
                refine c_region ?_
                refine wl (wl_val hl rfl trivial (r_assign hl rfl) ?_)
                clear hl a; intro a hl
                refine w_nil ?_
                have hl2 := hl.add (t := 0) (hl.add (t := 4) (hl.add (t := 7) (hl.add (t := 8) (hl.add (t := 9) (hl.add (t := 10) (hl.add (t := 11) (hl.add (t := 12) (hl.add (t := 13) (hl.add (t := 14) (hl.nil) rfl) rfl) rfl) rfl) rfl) rfl) rfl) rfl) rfl) rfl; clear hl; have hl := hl2; clear hl2
                refine then_normal ?_
                refine c_seq ?_
                refine c_seq ?_
                refine c_region ?_
                refine wl (wl_val hl rfl trivial (r_assign hl rfl) ?_)
                clear hl a; intro a hl
                refine w_nil ?_
                have hl2 := hl.add (t := 0) (hl.add (t := 4) (hl.add (t := 7) (hl.add (t := 8) (hl.add (t := 9) (hl.add (t := 10) (hl.add (t := 11) (hl.add (t := 12) (hl.add (t := 13) (hl.add (t := 14) (hl.add (t := 15) (hl.nil) rfl) rfl) rfl) rfl) rfl) rfl) rfl) rfl) rfl) rfl) rfl; clear hl; have hl := hl2; clear hl2
                refine then_normal ?_
                refine wp_block ?_
                obtain ⟨KS0, hKS0, hk⟩ := (hl.add (t := 0) (hl.add (t := 4) (hl.add (t := 7) (hl.add (t := 8) (hl.add (t := 9) (hl.add (t := 10) (hl.add (t := 11) (hl.add (t := 12) (hl.add (t := 13) (hl.nil) rfl) rfl) rfl) rfl) rfl) rfl) rfl) rfl) rfl).name
                obtain ⟨HS0, hHS0, hh2⟩ := hh.nameT (A := []) (U := (mdL bd M1)) ((by repeat (first | exact keeps_nil | exact keeps_self | exact keeps_left | apply keeps_app | apply keeps_mv | apply keeps_skip)))
                refine c_loop (α := QZ) (fun q => 16 - q.i) (fun q a w => (q.i ≤ 16 ∧ QM B (Q + 400) L at_ b g (setC g (chM g.tb 2 t (at_ : Int) c).1 ep) M1 q.g q.got q.M q.i q.m) ∧ Sl 177 ([(15, .int .i64 (q.i : Int)), (14, .int .u16 (mi q.m))] ++ KS0) a ∧ Has _ w0 ([] ++ (HS0 ++ (mdL bd q.M))) w) ⟨setC g (chM g.tb 2 t (at_ : Int) c).1 g.ep, got, M1, 0, 0#16⟩ ⟨⟨Nat.zero_le _, hI0⟩, hl.addE (t := 15) (hl.addE (t := 14) (hk) rfl (by first | rfl)) rfl (by first | rfl), hh2⟩ ?_
                clear hk hh2 hl hh a w
                intro q a w hI
                obtain ⟨⟨hzi, hI⟩, hl, hh⟩ := hI
                subst hKS0; subst hHS0
                simp only [List.cons_append, List.nil_append, List.append_nil, List.append_assoc] at hl hh
                obtain ⟨i, hiv⟩ : ∃ i, i = q.i := ⟨_, rfl⟩
                rw [← hiv] at hl hzi hI
                have hH := hI.h
                have hqq : ∀ k : Nat, k ≤ 1 → BQ (B + 2 * i + k) (Q + 400) := fun k hk => ⟨by omega, hq1⟩
                refine c_seq ?_
                refine c_seq ?_
                refine c_region ?_
                refine wl (wl_val hl rfl trivial (r_move hl rfl) ?_)
                clear hl a; intro a hl
                refine wl (wl_val hl rfl trivial (r_lss hl rfl rfl) ?_)
                clear hl a; intro a hl
                refine w_nil ?_
                have hl2 := hl.add (t := 0) (hl.add (t := 4) (hl.add (t := 7) (hl.add (t := 8) (hl.add (t := 9) (hl.add (t := 10) (hl.add (t := 11) (hl.add (t := 12) (hl.add (t := 13) (hl.add (t := 14) (hl.add (t := 15) (hl.add (t := 108) (hl.nil) rfl) rfl) rfl) rfl) rfl) rfl) rfl) rfl) rfl) rfl) rfl) rfl; clear hl; have hl := hl2; clear hl2
                refine then_normal ?_
                refine c_cond hl rfl ?_ ?_
                · intro hc7
                  try simp only [decide_eq_true_eq, decide_eq_false_iff_not, Bool.not_eq_true', Bool.not_eq_false', Bool.not_eq_true, Bool.not_eq_false, Bool.and_eq_true, Bool.or_eq_true, Bool.and_eq_false_iff, Bool.or_eq_false_iff, Bool.not_not, ne_eq, Int.not_lt, Int.not_le, Decidable.not_not, beq_iff_eq, bne_iff_ne] at hc7
                  have hi16 : i < 16 := by omega
                  have hebd := he0.bd i hi16
                  refine wp_skip ?_
                  refine then_normal ?_
                  refine c_seq ?_
                  refine wp_block ?_
                  refine wp_block ?_
                  refine c_seq ?_
                  refine c_region ?_
                  refine wl (wl_val hl rfl trivial (r_move hl rfl) ?_)
                  clear hl a; intro a hl
                  refine wl (wl_val hl rfl trivial (r_move hl rfl) ?_)
                  clear hl a; intro a hl
                  refine wl (w_call hl hh rfl trivial rfl cal30 rfl (has_spec _ i hi16) (by repeat (first | exact keeps_nil | apply keeps_cons (by repeat (first | exact find_head | apply find_tail | apply find_skip)) (by first  | rfl) | exact keeps_self | exact keeps_left | apply keeps_app | apply keeps_mv | apply keeps_skip)) trivial ?_)
                  clear hl hh a w; intro vc Fc a w hR hl hh
                  obtain ⟨rfl, rfl⟩ := hR
                  try simp only [List.cons_append, List.nil_append, List.append_assoc, List.append_nil] at hh
                  refine wl (wl_val hl rfl trivial (r_move hl rfl) ?_)
                  clear hl a; intro a hl
                  refine sl_split (t := 115) hl rfl ?_ ?_
                  · intro hg3; clear hl; intro hl
                    try simp only [decide_eq_true_eq, decide_eq_false_iff_not, Bool.not_eq_true', Bool.not_eq_false', Bool.not_eq_true, Bool.not_eq_false, Bool.and_eq_true, Bool.or_eq_true, Bool.and_eq_false_iff, Bool.or_eq_false_iff, Bool.not_not, ne_eq, Int.not_lt, Int.not_le, Decidable.not_not, beq_iff_eq, bne_iff_ne] at hg3
                    refine wl (wl_val hl rfl ⟨_, _, rfl, rfl, rfl⟩ (r_move hl rfl) ?_)
                    clear hl a; intro a hl
                    refine wl (wl_val hl rfl ⟨_, _, rfl, rfl, rfl⟩ (r_move hl rfl) ?_)
                    clear hl a; intro a hl
                    refine wl (w_call hl hh rfl ⟨_, _, rfl, rfl, rfl⟩ rfl cal30 rfl (has_spec _ i hi16) (by repeat (first | exact keeps_nil | apply keeps_cons (by repeat (first | exact find_head | apply find_tail | apply find_skip)) (by first  | rfl) | exact keeps_self | exact keeps_left | apply keeps_app | apply keeps_mv | apply keeps_skip)) trivial ?_)
                    clear hl hh a w; intro vc Fc a w hR hl hh
                    obtain ⟨rfl, rfl⟩ := hR
                    try simp only [List.cons_append, List.nil_append, List.append_assoc, List.append_nil] at hh
                    refine wl (wl_val hl rfl ⟨_, _, rfl, rfl, rfl⟩ (r_not hl rfl) ?_)
                    clear hl a; intro a hl
                    refine wl (wl_val hl rfl trivial (r_pickT hl rfl rfl) ?_)
                    clear hl a; intro a hl
                    refine wl (wl_val hl rfl trivial (r_assign hl rfl) ?_)
                    clear hl a; intro a hl
                    refine w_nil ?_
                    have hl2 := hl.add (t := 0) (hl.add (t := 4) (hl.add (t := 7) (hl.add (t := 8) (hl.add (t := 9) (hl.add (t := 10) (hl.add (t := 11) (hl.add (t := 12) (hl.add (t := 13) (hl.add (t := 14) (hl.add (t := 15) (hl.add (t := 111) (hl.nil) rfl) rfl) rfl) rfl) rfl) rfl) rfl) rfl) rfl) rfl) rfl) rfl; clear hl; have hl := hl2; clear hl2
                    refine then_normal ?_
                    refine c_cond hl rfl ?_ ?_
                    · intro hc8
                      try simp only [decide_eq_true_eq, decide_eq_false_iff_not, Bool.not_eq_true', Bool.not_eq_false', Bool.not_eq_true, Bool.not_eq_false, Bool.and_eq_true, Bool.or_eq_true, Bool.and_eq_false_iff, Bool.or_eq_false_iff, Bool.not_not, ne_eq, Int.not_lt, Int.not_le, Decidable.not_not, beq_iff_eq, bne_iff_ne] at hc8
                      have e1 : wtg g.tb i = true := wt_of hi16 (by assumption)
                      have e2 : wtg (chM g.tb 2 t (at_ : Int) c).1 i = false := wt_of hi16 (by assumption)
                      have hen : b.ended.getLsbD i = true := by rw [hmb.en i hi16, e1, e2]; rfl
                      have hep : (setC g (chM g.tb 2 t (at_ : Int) c).1 ep).ep i = g.ep i + 1 := by have := hmb.ep i hi16; rw [if_pos hen] at this; exact this
                      have hbe : b.ep i = q.g.ep i := by rw [hI.ep]; exact hmb.be i hi16 (.inl hen)
                      refine c_seq ?_
                      refine c_region ?_
                      refine wl (wl_val hl rfl trivial (r_move hl rfl) ?_)
                      clear hl a; intro a hl
                      refine wl (wl_val hl rfl trivial (r_move hl rfl) ?_)
                      clear hl a; intro a hl
                      refine wl (wl_val hl rfl trivial (r_move hl rfl) ?_)
                      clear hl a; intro a hl
                      refine wl (w_call hl hh rfl trivial rfl cal31 rfl (tell_spec hH.s bd (by omega) (hqq 0 (by omega)) hH.gi at_ ha 3 i (0#16) (upE hbo hi16 hbe) (hH.rm hi16 (by omega) (.inl hen))) (by repeat (first | exact keeps_nil | apply keeps_cons (by repeat (first | exact find_head | apply find_tail | apply find_skip)) (by first  | rfl) | exact keeps_self | exact keeps_left | apply keeps_app | apply keeps_mv | apply keeps_skip)) trivial ?_)
                      clear hl hh a w; intro vc Fc a w hR hl hh
                      obtain ⟨rfl, got3, M3, hF3, hS3, hbm3, hbt3⟩ := hR
                      try simp only [List.cons_append, List.nil_append, List.append_assoc, List.append_nil] at hh
                      subst hF3
                      unfold mdL at hh
                      try simp only [List.cons_append, List.append_assoc] at hh
                      refine w_nil ?_
                      have hl2 := hl.add (t := 0) (hl.add (t := 4) (hl.add (t := 7) (hl.add (t := 8) (hl.add (t := 9) (hl.add (t := 10) (hl.add (t := 11) (hl.add (t := 12) (hl.add (t := 13) (hl.add (t := 14) (hl.add (t := 15) (hl.nil) rfl) rfl) rfl) rfl) rfl) rfl) rfl) rfl) rfl) rfl) rfl; clear hl; have hl := hl2; clear hl2
                      refine then_normal ?_
                      refine c_seq ?_
                      refine c_draw [(bd, C (arrL 22 M3.fd) 65)] [9, 10] mixed hh ?_
                      clear hh w; intro w hh
                      have hM : Mem [(bd, C (arrL 22 M3.fd) 65)] w := (memK hh (by repeat (first | exact keeps_nil | apply keeps_cons (by repeat (first | exact find_head | apply find_tail | apply find_skip)) (by first  | rfl) | exact keeps_self | exact keeps_left | apply keeps_app | apply keeps_mv | apply keeps_skip)))
                      refine d_take (i := 0) hl rfl (by kernel_rfl) (by kernel_rfl) (by kernel_rfl) (by kernel_rfl) (by kernel_rfl) rfl trivial (fun _ _ _ h => h) hM (fun w hC => r_move hl rfl) rfl ?_
                      clear hl a; intro a hl
                      refine d_take (i := 1) hl rfl (by kernel_rfl) (by kernel_rfl) (by kernel_rfl) (by kernel_rfl) (by kernel_rfl) rfl trivial (fun _ _ _ h => h) hM (fun w hC => r_move hl rfl) rfl ?_
                      clear hl a; intro a hl
                      refine d_take (i := 2) hl rfl (by kernel_rfl) (by kernel_rfl) (by kernel_rfl) (by kernel_rfl) (by kernel_rfl) rfl trivial (fun _ _ _ h => h) hM (fun w hC => r_nilCheck hl rfl) rfl ?_
                      clear hl a; intro a hl
                      refine d_take (i := 3) hl rfl (by kernel_rfl) (by kernel_rfl) (by kernel_rfl) (by kernel_rfl) (by kernel_rfl) rfl trivial (fun _ _ _ h => h) hM (fun w hC => r_field hl rfl fld65_2) rfl ?_
                      clear hl a; intro a hl
                      refine d_take (i := 4) hl rfl (by kernel_rfl) (by kernel_rfl) (by kernel_rfl) (by kernel_rfl) (by kernel_rfl) rfl trivial (fun _ _ _ h => h) hM (fun w hC => r_indexA hl rfl rfl arr43 (by omega) (by omega) (by first | (simp only [Int.reduceToNat]; rfl) | exact toNat_add1 _ | exact toNat_add2 _ _ | exact toNat_emod _ _ | exact Int.toNat_natCast _ | rfl)) rfl ?_
                      clear hl a; intro a hl
                      refine d_take (i := 5) hl rfl (by kernel_rfl) (by kernel_rfl) (by kernel_rfl) (by kernel_rfl) (by kernel_rfl) rfl trivial (fun _ _ _ h => h) hM (fun w hC => r_loadC hl rfl one42 hC (by repeat (first | exact find_head | apply find_tail | apply find_skip)) (by first | exact md_p0 hD.p0 | exact md_p0 hD1.p0 | exact msk_get hi16 | exact md_ep hS3.md.ep hi16 | rfl)) rfl ?_
                      clear hl a; intro a hl
                      rw [route_epI, hI.ep] at hl
                      first | refine d_take (i := 6) hl rfl (by kernel_rfl) (by kernel_rfl) (by kernel_rfl) (by kernel_rfl) (by kernel_rfl) rfl trivial (fun _ _ _ h => h) hM (fun w hC => r_add hl rfl rfl (by simp only [Fits]; omega)) rfl ?_ | refine d_take (i := 6) hl rfl (by kernel_rfl) (by kernel_rfl) (by kernel_rfl) (by kernel_rfl) (by kernel_rfl) rfl trivial (fun _ _ _ h => h) hM (fun w hC => r_addM wm_u64 hl rfl rfl) rfl ?_
                      clear hl a; intro a hl
                      refine d_take (i := 7) hl rfl (by kernel_rfl) (by kernel_rfl) (by kernel_rfl) (by kernel_rfl) (by kernel_rfl) rfl trivial (fun _ _ _ h => h) hM (fun w hC => r_nilCheck hl rfl) rfl ?_
                      clear hl a; intro a hl
                      refine d_take (i := 8) hl rfl (by kernel_rfl) (by kernel_rfl) (by kernel_rfl) (by kernel_rfl) (by kernel_rfl) rfl trivial (fun _ _ _ h => h) hM (fun w hC => r_field hl rfl fld65_2) rfl ?_
                      clear hl a; intro a hl
                      refine d_takeL (i := 9) hl rfl (by kernel_rfl) (by kernel_rfl) (by kernel_rfl) (by kernel_rfl) (by kernel_rfl) rfl trivial (fun _ _ _ h => h) (fun w => r_indexA hl rfl rfl arr43 (by omega) (by omega) (by first | (simp only [Int.reduceToNat]; rfl) | exact toNat_add1 _ | exact toNat_add2 _ _ | exact toNat_emod _ _ | exact Int.toNat_natCast _ | rfl)) rfl ?_
                      clear hl a; intro a hl
                      refine d_one (i := 10) (by kernel_rfl) rfl ?_
                      try clear hM
                      refine id (w_store hl hh trivial one42 rfl rfl (by repeat (first | exact find_head | apply find_tail | apply find_skip)) (by first | (simp; done) | (simp; omega) | (rw [arrL_length]; omega)) (by first | rfl | assumption | (apply Row.one; assumption)) (by first | exact md_sep hi16 | (simp only [setL, List.getElem?_cons_zero, List.getElem?_cons_succ, Value.cells, List.take_zero, List.take_succ_cons, List.take_nil, List.drop_zero, List.drop_succ_cons, List.drop_nil, List.length_cons, List.length_nil, List.cons_append, List.nil_append, List.append_nil, Nat.zero_add, Nat.add_zero, Nat.reduceAdd, Nat.reduceBEq, Nat.reduceEqDiff, Nat.ble, BEq.rfl, Bool.and_true, Bool.and_self, cond_true, beq_self_eq_true]; rfl)) ?_)
                      clear hh w; intro w hh
                      refine d_step (fun h => absurd h (by decide)) ?_
                      refine d_done (by kernel_rfl) ?_
                      try clear hM
                      have hl2 := hl.add (t := 0) (hl.add (t := 4) (hl.add (t := 7) (hl.add (t := 8) (hl.add (t := 9) (hl.add (t := 10) (hl.add (t := 11) (hl.add (t := 12) (hl.add (t := 13) (hl.add (t := 14) (hl.add (t := 15) (hl.nil) rfl) rfl) rfl) rfl) rfl) rfl) rfl) rfl) rfl) rfl) rfl; clear hl; have hl := hl2; clear hl2
                      refine then_normal ?_
                      refine c_seq ?_
                      refine c_region ?_
                      refine wl (wl_val hl rfl trivial (r_move hl rfl) ?_)
                      clear hl a; intro a hl
                      refine wl (wl_val hl rfl trivial (r_move hl rfl) ?_)
                      clear hl a; intro a hl
                      refine wl (wl_val hl rfl trivial (r_neq hl rfl rfl) ?_)
                      clear hl a; intro a hl
                      refine w_nil ?_
                      have hl2 := hl.add (t := 0) (hl.add (t := 4) (hl.add (t := 7) (hl.add (t := 8) (hl.add (t := 9) (hl.add (t := 10) (hl.add (t := 11) (hl.add (t := 12) (hl.add (t := 13) (hl.add (t := 14) (hl.add (t := 15) (hl.add (t := 137) (hl.nil) rfl) rfl) rfl) rfl) rfl) rfl) rfl) rfl) rfl) rfl) rfl) rfl; clear hl; have hl := hl2; clear hl2
                      refine then_normal ?_
                      refine c_cond hl rfl ?_ ?_
                      · intro hc9
                        try simp only [decide_eq_true_eq, decide_eq_false_iff_not, Bool.not_eq_true', Bool.not_eq_false', Bool.not_eq_true, Bool.not_eq_false, Bool.and_eq_true, Bool.or_eq_true, Bool.and_eq_false_iff, Bool.or_eq_false_iff, Bool.not_not, ne_eq, Int.not_lt, Int.not_le, Decidable.not_not, beq_iff_eq, bne_iff_ne] at hc9
                        refine c_region ?_
                        refine wl (wl_val hl rfl trivial (r_move hl rfl) ?_)
                        clear hl a; intro a hl
                        refine wl (wl_val hl rfl trivial (r_move hl rfl) ?_)
                        clear hl a; intro a hl
                        refine wl (w_call hl hh rfl trivial rfl cal32 rfl (bit_spec i hi16) (by repeat (first | exact keeps_nil | apply keeps_cons (by repeat (first | exact find_head | apply find_tail | apply find_skip)) (by first  | rfl) | exact keeps_self | exact keeps_left | apply keeps_app | apply keeps_mv | apply keeps_skip)) trivial ?_)
                        clear hl hh a w; intro vc Fc a w hR hl hh
                        obtain ⟨rfl, rfl⟩ := hR
                        try simp only [List.cons_append, List.nil_append, List.append_assoc, List.append_nil] at hh
                        refine wl (wl_val hl rfl trivial (r_or hl rfl rfl) ?_)
                        clear hl a; intro a hl
                        rw [or_mi] at hl
                        refine wl (wl_val hl rfl trivial (r_assign hl rfl) ?_)
                        clear hl a; intro a hl
                        refine w_nil ?_
                        have hl2 := hl.add (t := 0) (hl.add (t := 4) (hl.add (t := 7) (hl.add (t := 8) (hl.add (t := 9) (hl.add (t := 10) (hl.add (t := 11) (hl.add (t := 12) (hl.add (t := 13) (hl.add (t := 14) (hl.add (t := 15) (hl.nil) rfl) rfl) rfl) rfl) rfl) rfl) rfl) rfl) rfl) rfl) rfl; clear hl; have hl := hl2; clear hl2
                        obtain ⟨gE, goE, ME, hhE, hIE⟩ : ∃ gE goE ME, Has (List.map Prod.fst (mdL bd M)) w0 ((k12, C (mskA (wfN (chM g.tb 2 t (at_ : Int) c).1 20)) 50) :: (k9, C (mskA (wfN g.tb 20)) 50) :: (k4, C [.int .i64 0, .int .u16 0] 39) :: (k3, C (opc ⟨2, (t : Int), (at_ : Int), c⟩) 34) :: mdL bd ME) w ∧ QM B (Q + 400) L at_ b g (setC g (chM g.tb 2 t (at_ : Int) c).1 ep) M1 gE goE ME (i + 1) (q.m ||| bitB i) := ⟨_, _, _, hh.keep (F' := ((k12, C (mskA (wfN (chM g.tb 2 t (at_ : Int) c).1 20)) 50) :: (k9, C (mskA (wfN g.tb 20)) 50) :: (k4, C [.int .i64 0, .int .u16 0] 39) :: (k3, C (opc ⟨2, (t : Int), (at_ : Int), c⟩) 34) :: mdL bd ⟨M3.bm, M3.bt, updV M3.fd (2 + i) (.int .u64 (g.ep i + 1)), M3.fm, M3.ft, M3.Ed, M3.Em, M3.Et⟩)) (by repeat (first | exact keeps_nil | apply keeps_cons (by repeat (first | exact find_head | apply find_tail | apply find_skip)) (by first  | rfl) | exact keeps_self | exact keeps_left | apply keeps_app | apply keeps_mv | apply keeps_skip)), hI.ended (u := ⟨3, i, q.g.ep i, 0#16⟩) (by rw [hbe]) (hH.next (hqq 0 (by omega)) ha (upE hbo hi16 hbe) rfl hi16 (by omega) (.inl hen) hS3 ⟨hbm3, hbt3⟩) hi16 hen hep he0 hSt.ei (by have hw9 := hmb.wk i hi16; rw [if_pos (by rw [hw9, hen, Bool.true_and, decide_eq_false (show ¬ i = t by omega)]; decide)])⟩
                        clear hh
                        have hh := hhE
                        clear hhE
                        obtain ⟨mE, hmE⟩ : ∃ m9 : BitVec 16, m9 = q.m ||| bitB i := ⟨_, rfl⟩
                        rw [← hmE] at hl hIE
                        refine blk_normal ?_
                        refine blk_normal ?_
                        refine then_normal ?_
                        refine c_region ?_
                        refine wl (wl_val hl rfl trivial (r_move hl rfl) ?_)
                        clear hl a; intro a hl
                        first | refine wl (wl_val hl rfl trivial (r_add hl rfl rfl (by simp only [Fits]; omega)) ?_) | refine wl (wl_val hl rfl trivial (r_addW hl rfl rfl) ?_)
                        clear hl a; intro a hl
                        refine wl (wl_val hl rfl trivial (r_assign hl rfl) ?_)
                        clear hl a; intro a hl
                        refine w_nil ?_
                        have hl2 := hl.add (t := 0) (hl.add (t := 4) (hl.add (t := 7) (hl.add (t := 8) (hl.add (t := 9) (hl.add (t := 10) (hl.add (t := 11) (hl.add (t := 12) (hl.add (t := 13) (hl.add (t := 14) (hl.add (t := 15) (hl.nil) rfl) rfl) rfl) rfl) rfl) rfl) rfl) rfl) rfl) rfl) rfl; clear hl; have hl := hl2; clear hl2
                        refine then_normal ?_
                        refine ⟨⟨gE, goE, ME, i + 1, mE⟩, (by simp only; omega), ⟨by simp only; omega, hIE⟩, hl.addE (t := 15) (hl.addE (t := 14) (hl.addE (t := 0) (hl.addE (t := 4) (hl.addE (t := 7) (hl.addE (t := 8) (hl.addE (t := 9) (hl.addE (t := 10) (hl.addE (t := 11) (hl.addE (t := 12) (hl.addE (t := 13) (hl.nil) rfl (by first | rfl | (congr 1; omega))) rfl (by first | rfl | (congr 1; omega))) rfl (by first | rfl | (congr 1; omega))) rfl (by first | rfl | (congr 1; omega))) rfl (by first | rfl | (congr 1; omega))) rfl (by first | rfl | (congr 1; omega))) rfl (by first | rfl | (congr 1; omega))) rfl (by first | rfl | (congr 1; omega))) rfl (by first | rfl | (congr 1; omega))) rfl (by first | rfl | (congr 1; omega))) rfl (by first | rfl | (congr 1; omega)), hh.keep (by repeat (first | exact keeps_nil | apply keeps_cons (by repeat (first | exact find_head | apply find_tail | apply find_skip)) (by first  | rfl) | exact keeps_self | exact keeps_left | apply keeps_app | apply keeps_mv | apply keeps_skip))⟩
                      · intro hc9
                        try simp only [decide_eq_true_eq, decide_eq_false_iff_not, Bool.not_eq_true', Bool.not_eq_false', Bool.not_eq_true, Bool.not_eq_false, Bool.and_eq_true, Bool.or_eq_true, Bool.and_eq_false_iff, Bool.or_eq_false_iff, Bool.not_not, ne_eq, Int.not_lt, Int.not_le, Decidable.not_not, beq_iff_eq, bne_iff_ne] at hc9
                        obtain ⟨gE, goE, ME, hhE, hIE⟩ : ∃ gE goE ME, Has (List.map Prod.fst (mdL bd M)) w0 ((k12, C (mskA (wfN (chM g.tb 2 t (at_ : Int) c).1 20)) 50) :: (k9, C (mskA (wfN g.tb 20)) 50) :: (k4, C [.int .i64 0, .int .u16 0] 39) :: (k3, C (opc ⟨2, (t : Int), (at_ : Int), c⟩) 34) :: mdL bd ME) w ∧ QM B (Q + 400) L at_ b g (setC g (chM g.tb 2 t (at_ : Int) c).1 ep) M1 gE goE ME (i + 1) (q.m) := ⟨_, _, _, hh.keep (F' := ((k12, C (mskA (wfN (chM g.tb 2 t (at_ : Int) c).1 20)) 50) :: (k9, C (mskA (wfN g.tb 20)) 50) :: (k4, C [.int .i64 0, .int .u16 0] 39) :: (k3, C (opc ⟨2, (t : Int), (at_ : Int), c⟩) 34) :: mdL bd ⟨M3.bm, M3.bt, updV M3.fd (2 + i) (.int .u64 (g.ep i + 1)), M3.fm, M3.ft, M3.Ed, M3.Em, M3.Et⟩)) (by repeat (first | exact keeps_nil | apply keeps_cons (by repeat (first | exact find_head | apply find_tail | apply find_skip)) (by first  | rfl) | exact keeps_self | exact keeps_left | apply keeps_app | apply keeps_mv | apply keeps_skip)), hI.ended (u := ⟨3, i, q.g.ep i, 0#16⟩) (by rw [hbe]) (hH.next (hqq 0 (by omega)) ha (upE hbo hi16 hbe) rfl hi16 (by omega) (.inl hen) hS3 ⟨hbm3, hbt3⟩) hi16 hen hep he0 hSt.ei (by have hw9 := hmb.wk i hi16; rw [if_neg (by rw [hw9, hen, Bool.true_and, decide_eq_true (show i = t by omega)]; decide)])⟩
                        clear hh
                        have hh := hhE
                        clear hhE
                        obtain ⟨mE, hmE⟩ : ∃ m9 : BitVec 16, m9 = q.m := ⟨_, rfl⟩
                        rw [← hmE] at hl hIE
                        refine wp_skip ?_
                        refine blk_normal ?_
                        refine blk_normal ?_
                        refine then_normal ?_
                        refine c_region ?_
                        refine wl (wl_val hl rfl trivial (r_move hl rfl) ?_)
                        clear hl a; intro a hl
                        first | refine wl (wl_val hl rfl trivial (r_add hl rfl rfl (by simp only [Fits]; omega)) ?_) | refine wl (wl_val hl rfl trivial (r_addW hl rfl rfl) ?_)
                        clear hl a; intro a hl
                        refine wl (wl_val hl rfl trivial (r_assign hl rfl) ?_)
                        clear hl a; intro a hl
                        refine w_nil ?_
                        have hl2 := hl.add (t := 0) (hl.add (t := 4) (hl.add (t := 7) (hl.add (t := 8) (hl.add (t := 9) (hl.add (t := 10) (hl.add (t := 11) (hl.add (t := 12) (hl.add (t := 13) (hl.add (t := 14) (hl.add (t := 15) (hl.nil) rfl) rfl) rfl) rfl) rfl) rfl) rfl) rfl) rfl) rfl) rfl; clear hl; have hl := hl2; clear hl2
                        refine then_normal ?_
                        refine ⟨⟨gE, goE, ME, i + 1, mE⟩, (by simp only; omega), ⟨by simp only; omega, hIE⟩, hl.addE (t := 15) (hl.addE (t := 14) (hl.addE (t := 0) (hl.addE (t := 4) (hl.addE (t := 7) (hl.addE (t := 8) (hl.addE (t := 9) (hl.addE (t := 10) (hl.addE (t := 11) (hl.addE (t := 12) (hl.addE (t := 13) (hl.nil) rfl (by first | rfl | (congr 1; omega))) rfl (by first | rfl | (congr 1; omega))) rfl (by first | rfl | (congr 1; omega))) rfl (by first | rfl | (congr 1; omega))) rfl (by first | rfl | (congr 1; omega))) rfl (by first | rfl | (congr 1; omega))) rfl (by first | rfl | (congr 1; omega))) rfl (by first | rfl | (congr 1; omega))) rfl (by first | rfl | (congr 1; omega))) rfl (by first | rfl | (congr 1; omega))) rfl (by first | rfl | (congr 1; omega)), hh.keep (by repeat (first | exact keeps_nil | apply keeps_cons (by repeat (first | exact find_head | apply find_tail | apply find_skip)) (by first  | rfl) | exact keeps_self | exact keeps_left | apply keeps_app | apply keeps_mv | apply keeps_skip))⟩
                    · intro hc8
                      try simp only [decide_eq_true_eq, decide_eq_false_iff_not, Bool.not_eq_true', Bool.not_eq_false', Bool.not_eq_true, Bool.not_eq_false, Bool.and_eq_true, Bool.or_eq_true, Bool.and_eq_false_iff, Bool.or_eq_false_iff, Bool.not_not, ne_eq, Int.not_lt, Int.not_le, Decidable.not_not, beq_iff_eq, bne_iff_ne] at hc8
                      have hen : b.ended.getLsbD i = false := by
                        rw [hmb.en i hi16]
                        first | (rw [show wtg g.tb i = false from wt_of hi16 (by assumption)]; rfl) | (rw [show wtg (chM g.tb 2 t (at_ : Int) c).1 i = true from wt_of hi16 (by assumption)]; cases wtg g.tb i <;> rfl)
                      have hwk9 : b.woken.getLsbD i = false := by rw [hmb.wk i hi16, hen]; rfl
                      have hep : (setC g (chM g.tb 2 t (at_ : Int) c).1 ep).ep i = g.ep i := by have := hmb.ep i hi16; rw [if_neg (by rw [hen]; simp)] at this; exact this
                      refine c_seq ?_
                      refine c_region ?_
                      refine wl (wl_val hl rfl trivial (r_move hl rfl) ?_)
                      clear hl a; intro a hl
                      refine wl (wl_val hl rfl trivial (r_move hl rfl) ?_)
                      clear hl a; intro a hl
                      refine wl (w_call hl hh rfl trivial rfl cal30 rfl (has_spec _ i hi16) (by repeat (first | exact keeps_nil | apply keeps_cons (by repeat (first | exact find_head | apply find_tail | apply find_skip)) (by first  | rfl) | exact keeps_self | exact keeps_left | apply keeps_app | apply keeps_mv | apply keeps_skip)) trivial ?_)
                      clear hl hh a w; intro vc Fc a w hR hl hh
                      obtain ⟨rfl, rfl⟩ := hR
                      try simp only [List.cons_append, List.nil_append, List.append_assoc, List.append_nil] at hh
                      refine wl (wl_val hl rfl trivial (r_assign hl rfl) ?_)
                      clear hl a; intro a hl
                      refine w_nil ?_
                      have hl2 := hl.add (t := 0) (hl.add (t := 4) (hl.add (t := 7) (hl.add (t := 8) (hl.add (t := 9) (hl.add (t := 10) (hl.add (t := 11) (hl.add (t := 12) (hl.add (t := 13) (hl.add (t := 14) (hl.add (t := 15) (hl.add (t := 142) (hl.nil) rfl) rfl) rfl) rfl) rfl) rfl) rfl) rfl) rfl) rfl) rfl) rfl; clear hl; have hl := hl2; clear hl2
                      refine then_normal ?_
                      refine c_cond hl rfl ?_ ?_
                      · intro hc10
                        try simp only [decide_eq_true_eq, decide_eq_false_iff_not, Bool.not_eq_true', Bool.not_eq_false', Bool.not_eq_true, Bool.not_eq_false, Bool.and_eq_true, Bool.or_eq_true, Bool.and_eq_false_iff, Bool.or_eq_false_iff, Bool.not_not, ne_eq, Int.not_lt, Int.not_le, Decidable.not_not, beq_iff_eq, bne_iff_ne] at hc10
                        have e2 : wtg (chM g.tb 2 t (at_ : Int) c).1 i = true := wt_of hi16 (by assumption)
                        obtain ⟨hadd, hdel⟩ := hmb.ad i hi16 hen e2
                        refine c_seq ?_
                        refine c_seq ?_
                        refine c_draw [(k12, C (mskA (wfN (chM g.tb 2 t (at_ : Int) c).1 20)) 50), (k9, C (mskA (wfN g.tb 20)) 50)] [6, 7] mixed hh ?_
                        clear hh w; intro w hh
                        have hM : Mem [(k12, C (mskA (wfN (chM g.tb 2 t (at_ : Int) c).1 20)) 50), (k9, C (mskA (wfN g.tb 20)) 50)] w := (memK hh (by repeat (first | exact keeps_nil | apply keeps_cons (by repeat (first | exact find_head | apply find_tail | apply find_skip)) (by first  | rfl) | exact keeps_self | exact keeps_left | apply keeps_app | apply keeps_mv | apply keeps_skip)))
                        refine d_take (i := 0) hl rfl (by kernel_rfl) (by kernel_rfl) (by kernel_rfl) (by kernel_rfl) (by kernel_rfl) rfl trivial (fun _ _ _ h => h) hM (fun w hC => r_move hl rfl) rfl ?_
                        clear hl a; intro a hl
                        refine d_take (i := 1) hl rfl (by kernel_rfl) (by kernel_rfl) (by kernel_rfl) (by kernel_rfl) (by kernel_rfl) rfl trivial (fun _ _ _ h => h) hM (fun w hC => r_indexA hl rfl rfl arr50 (by omega) (by omega) (by first | (simp only [Int.reduceToNat]; rfl) | exact toNat_add1 _ | exact toNat_add2 _ _ | exact toNat_emod _ _ | exact Int.toNat_natCast _ | rfl)) rfl ?_
                        clear hl a; intro a hl
                        refine d_take (i := 2) hl rfl (by kernel_rfl) (by kernel_rfl) (by kernel_rfl) (by kernel_rfl) (by kernel_rfl) rfl trivial (fun _ _ _ h => h) hM (fun w hC => r_loadC hl rfl one37 hC (by repeat (first | exact find_head | apply find_tail | apply find_skip)) (by first | exact md_p0 hD.p0 | exact md_p0 hD1.p0 | exact msk_get hi16 | exact md_ep hS3.md.ep hi16 | rfl)) rfl ?_
                        clear hl a; intro a hl
                        refine d_take (i := 3) hl rfl (by kernel_rfl) (by kernel_rfl) (by kernel_rfl) (by kernel_rfl) (by kernel_rfl) rfl trivial (fun _ _ _ h => h) hM (fun w hC => r_move hl rfl) rfl ?_
                        clear hl a; intro a hl
                        refine d_take (i := 4) hl rfl (by kernel_rfl) (by kernel_rfl) (by kernel_rfl) (by kernel_rfl) (by kernel_rfl) rfl trivial (fun _ _ _ h => h) hM (fun w hC => r_indexA hl rfl rfl arr50 (by omega) (by omega) (by first | (simp only [Int.reduceToNat]; rfl) | exact toNat_add1 _ | exact toNat_add2 _ _ | exact toNat_emod _ _ | exact Int.toNat_natCast _ | rfl)) rfl ?_
                        clear hl a; intro a hl
                        refine d_take (i := 5) hl rfl (by kernel_rfl) (by kernel_rfl) (by kernel_rfl) (by kernel_rfl) (by kernel_rfl) rfl trivial (fun _ _ _ h => h) hM (fun w hC => r_loadC hl rfl one37 hC (by repeat (first | exact find_head | apply find_tail | apply find_skip)) (by first | exact md_p0 hD.p0 | exact md_p0 hD1.p0 | exact msk_get hi16 | exact md_ep hS3.md.ep hi16 | rfl)) rfl ?_
                        clear hl a; intro a hl
                        refine d_takeL (i := 6) hl rfl (by kernel_rfl) (by kernel_rfl) (by kernel_rfl) (by kernel_rfl) (by kernel_rfl) rfl trivial (fun _ _ _ h => h) (fun w => r_andNot hl rfl rfl) rfl ?_
                        clear hl a; intro a hl
                        rw [andNot_mi, ← hdel] at hl
                        refine d_takeL (i := 7) hl rfl (by kernel_rfl) (by kernel_rfl) (by kernel_rfl) (by kernel_rfl) (by kernel_rfl) rfl trivial (fun _ _ _ h => h) (fun w => r_assign hl rfl) rfl ?_
                        clear hl a; intro a hl
                        refine d_done (by kernel_rfl) ?_
                        try clear hM
                        have hl2 := hl.add (t := 0) (hl.add (t := 4) (hl.add (t := 7) (hl.add (t := 8) (hl.add (t := 9) (hl.add (t := 10) (hl.add (t := 11) (hl.add (t := 12) (hl.add (t := 13) (hl.add (t := 14) (hl.add (t := 15) (hl.add (t := 16) (hl.nil) rfl) rfl) rfl) rfl) rfl) rfl) rfl) rfl) rfl) rfl) rfl) rfl; clear hl; have hl := hl2; clear hl2
                        refine then_normal ?_
                        refine c_seq ?_
                        refine c_region ?_
                        refine wl (wl_val hl rfl trivial (r_move hl rfl) ?_)
                        clear hl a; intro a hl
                        refine wl (wl_val hl rfl trivial (r_neq hl rfl rfl) ?_)
                        clear hl a; intro a hl
                        refine w_nil ?_
                        have hl2 := hl.add (t := 0) (hl.add (t := 4) (hl.add (t := 7) (hl.add (t := 8) (hl.add (t := 9) (hl.add (t := 10) (hl.add (t := 11) (hl.add (t := 12) (hl.add (t := 13) (hl.add (t := 14) (hl.add (t := 15) (hl.add (t := 16) (hl.add (t := 154) (hl.nil) rfl) rfl) rfl) rfl) rfl) rfl) rfl) rfl) rfl) rfl) rfl) rfl) rfl; clear hl; have hl := hl2; clear hl2
                        refine then_normal ?_
                        refine c_cond hl rfl ?_ ?_
                        · intro hc11
                          try simp only [decide_eq_true_eq, decide_eq_false_iff_not, Bool.not_eq_true', Bool.not_eq_false', Bool.not_eq_true, Bool.not_eq_false, Bool.and_eq_true, Bool.or_eq_true, Bool.and_eq_false_iff, Bool.or_eq_false_iff, Bool.not_not, ne_eq, Int.not_lt, Int.not_le, Decidable.not_not, beq_iff_eq, bne_iff_ne] at hc11
                          have hdl : b.del i ≠ 0#16 := mi_ne (by assumption)
                          have hbe : b.ep i = q.g.ep i := by rw [hI.ep]; exact hmb.be i hi16 (.inr (.inr hdl))
                          refine c_region ?_
                          refine wl (wl_val hl rfl trivial (r_move hl rfl) ?_)
                          clear hl a; intro a hl
                          refine wl (wl_val hl rfl trivial (r_move hl rfl) ?_)
                          clear hl a; intro a hl
                          refine wl (wl_val hl rfl trivial (r_move hl rfl) ?_)
                          clear hl a; intro a hl
                          refine wl (wl_val hl rfl trivial (r_move hl rfl) ?_)
                          clear hl a; intro a hl
                          refine wl (w_call hl hh rfl trivial rfl cal31 rfl (tell_spec hH.s bd (by omega) (hqq 0 (by omega)) hH.gi at_ ha 2 i (b.del i) (upD hbo hi16 hbe rfl hdl) (hH.rm hi16 (by omega) (.inr (.inr hdl)))) (by repeat (first | exact keeps_nil | apply keeps_cons (by repeat (first | exact find_head | apply find_tail | apply find_skip)) (by first  | rfl) | exact keeps_self | exact keeps_left | apply keeps_app | apply keeps_mv | apply keeps_skip)) trivial ?_)
                          clear hl hh a w; intro vc Fc a w hR hl hh
                          obtain ⟨rfl, got4, M4, hF4, hS4, hbm4, hbt4⟩ := hR
                          try simp only [List.cons_append, List.nil_append, List.append_assoc, List.append_nil] at hh
                          subst hF4
                          refine w_nil ?_
                          have hl2 := hl.add (t := 0) (hl.add (t := 4) (hl.add (t := 7) (hl.add (t := 8) (hl.add (t := 9) (hl.add (t := 10) (hl.add (t := 11) (hl.add (t := 12) (hl.add (t := 13) (hl.add (t := 14) (hl.add (t := 15) (hl.nil) rfl) rfl) rfl) rfl) rfl) rfl) rfl) rfl) rfl) rfl) rfl; clear hl; have hl := hl2; clear hl2
                          obtain ⟨g1, go1, Mh, hhE, hH1, hg1, hge⟩ : ∃ g1 go1 Mh, Has (List.map Prod.fst (mdL bd M)) w0 ((k12, C (mskA (wfN (chM g.tb 2 t (at_ : Int) c).1 20)) 50) :: (k9, C (mskA (wfN g.tb 20)) 50) :: (k4, C [.int .i64 0, .int .u16 0] 39) :: (k3, C (opc ⟨2, (t : Int), (at_ : Int), c⟩) 34) :: mdL bd Mh) w ∧ HM B (Q + 400) L at_ b M1 g1 go1 Mh i 1 ∧ g1 = (if b.del i ≠ 0#16 then routeG q.g at_ ⟨2, i, b.ep i, b.del i⟩ else q.g) ∧ g1.ep i = q.g.ep i := ⟨_, _, _, hh.keep (F' := ((k12, C (mskA (wfN (chM g.tb 2 t (at_ : Int) c).1 20)) 50) :: (k9, C (mskA (wfN g.tb 20)) 50) :: (k4, C [.int .i64 0, .int .u16 0] 39) :: (k3, C (opc ⟨2, (t : Int), (at_ : Int), c⟩) 34) :: mdL bd M4)) (by repeat (first | exact keeps_nil | apply keeps_cons (by repeat (first | exact find_head | apply find_tail | apply find_skip)) (by first  | rfl) | exact keeps_self | exact keeps_left | apply keeps_app | apply keeps_mv | apply keeps_skip)), (hH.next (hqq 0 (by omega)) ha (upD hbo hi16 hbe rfl hdl) rfl hi16 (by omega) (.inr (.inr hdl)) hS4 ⟨hbm4, hbt4⟩), by rw [if_pos hdl, hbe], by rw [route_epI]⟩
                          clear hh
                          have hh := hhE
                          clear hhE
                          refine then_normal ?_
                          refine c_seq ?_
                          refine c_draw [(k12, C (mskA (wfN (chM g.tb 2 t (at_ : Int) c).1 20)) 50), (k9, C (mskA (wfN g.tb 20)) 50)] [6, 7] mixed hh ?_
                          clear hh w; intro w hh
                          have hM : Mem [(k12, C (mskA (wfN (chM g.tb 2 t (at_ : Int) c).1 20)) 50), (k9, C (mskA (wfN g.tb 20)) 50)] w := (memK hh (by repeat (first | exact keeps_nil | apply keeps_cons (by repeat (first | exact find_head | apply find_tail | apply find_skip)) (by first  | rfl) | exact keeps_self | exact keeps_left | apply keeps_app | apply keeps_mv | apply keeps_skip)))
                          refine d_take (i := 0) hl rfl (by kernel_rfl) (by kernel_rfl) (by kernel_rfl) (by kernel_rfl) (by kernel_rfl) rfl trivial (fun _ _ _ h => h) hM (fun w hC => r_move hl rfl) rfl ?_
                          clear hl a; intro a hl
                          refine d_take (i := 1) hl rfl (by kernel_rfl) (by kernel_rfl) (by kernel_rfl) (by kernel_rfl) (by kernel_rfl) rfl trivial (fun _ _ _ h => h) hM (fun w hC => r_indexA hl rfl rfl arr50 (by omega) (by omega) (by first | (simp only [Int.reduceToNat]; rfl) | exact toNat_add1 _ | exact toNat_add2 _ _ | exact toNat_emod _ _ | exact Int.toNat_natCast _ | rfl)) rfl ?_
                          clear hl a; intro a hl
                          refine d_take (i := 2) hl rfl (by kernel_rfl) (by kernel_rfl) (by kernel_rfl) (by kernel_rfl) (by kernel_rfl) rfl trivial (fun _ _ _ h => h) hM (fun w hC => r_loadC hl rfl one37 hC (by repeat (first | exact find_head | apply find_tail | apply find_skip)) (by first | exact md_p0 hD.p0 | exact md_p0 hD1.p0 | exact msk_get hi16 | exact md_ep hS3.md.ep hi16 | rfl)) rfl ?_
                          clear hl a; intro a hl
                          refine d_take (i := 3) hl rfl (by kernel_rfl) (by kernel_rfl) (by kernel_rfl) (by kernel_rfl) (by kernel_rfl) rfl trivial (fun _ _ _ h => h) hM (fun w hC => r_move hl rfl) rfl ?_
                          clear hl a; intro a hl
                          refine d_take (i := 4) hl rfl (by kernel_rfl) (by kernel_rfl) (by kernel_rfl) (by kernel_rfl) (by kernel_rfl) rfl trivial (fun _ _ _ h => h) hM (fun w hC => r_indexA hl rfl rfl arr50 (by omega) (by omega) (by first | (simp only [Int.reduceToNat]; rfl) | exact toNat_add1 _ | exact toNat_add2 _ _ | exact toNat_emod _ _ | exact Int.toNat_natCast _ | rfl)) rfl ?_
                          clear hl a; intro a hl
                          refine d_take (i := 5) hl rfl (by kernel_rfl) (by kernel_rfl) (by kernel_rfl) (by kernel_rfl) (by kernel_rfl) rfl trivial (fun _ _ _ h => h) hM (fun w hC => r_loadC hl rfl one37 hC (by repeat (first | exact find_head | apply find_tail | apply find_skip)) (by first | exact md_p0 hD.p0 | exact md_p0 hD1.p0 | exact msk_get hi16 | exact md_ep hS3.md.ep hi16 | rfl)) rfl ?_
                          clear hl a; intro a hl
                          refine d_takeL (i := 6) hl rfl (by kernel_rfl) (by kernel_rfl) (by kernel_rfl) (by kernel_rfl) (by kernel_rfl) rfl trivial (fun _ _ _ h => h) (fun w => r_andNot hl rfl rfl) rfl ?_
                          clear hl a; intro a hl
                          rw [andNot_mi, ← hadd] at hl
                          refine d_takeL (i := 7) hl rfl (by kernel_rfl) (by kernel_rfl) (by kernel_rfl) (by kernel_rfl) (by kernel_rfl) rfl trivial (fun _ _ _ h => h) (fun w => r_assign hl rfl) rfl ?_
                          clear hl a; intro a hl
                          refine d_done (by kernel_rfl) ?_
                          try clear hM
                          have hl2 := hl.add (t := 0) (hl.add (t := 4) (hl.add (t := 7) (hl.add (t := 8) (hl.add (t := 9) (hl.add (t := 10) (hl.add (t := 11) (hl.add (t := 12) (hl.add (t := 13) (hl.add (t := 14) (hl.add (t := 15) (hl.add (t := 17) (hl.nil) rfl) rfl) rfl) rfl) rfl) rfl) rfl) rfl) rfl) rfl) rfl) rfl; clear hl; have hl := hl2; clear hl2
                          refine then_normal ?_
                          refine c_seq ?_
                          refine c_region ?_
                          refine wl (wl_val hl rfl trivial (r_move hl rfl) ?_)
                          clear hl a; intro a hl
                          refine wl (wl_val hl rfl trivial (r_neq hl rfl rfl) ?_)
                          clear hl a; intro a hl
                          refine w_nil ?_
                          have hl2 := hl.add (t := 0) (hl.add (t := 4) (hl.add (t := 7) (hl.add (t := 8) (hl.add (t := 9) (hl.add (t := 10) (hl.add (t := 11) (hl.add (t := 12) (hl.add (t := 13) (hl.add (t := 14) (hl.add (t := 15) (hl.add (t := 17) (hl.add (t := 168) (hl.nil) rfl) rfl) rfl) rfl) rfl) rfl) rfl) rfl) rfl) rfl) rfl) rfl) rfl; clear hl; have hl := hl2; clear hl2
                          refine then_normal ?_
                          refine c_cond hl rfl ?_ ?_
                          · intro hc12
                            try simp only [decide_eq_true_eq, decide_eq_false_iff_not, Bool.not_eq_true', Bool.not_eq_false', Bool.not_eq_true, Bool.not_eq_false, Bool.and_eq_true, Bool.or_eq_true, Bool.and_eq_false_iff, Bool.or_eq_false_iff, Bool.not_not, ne_eq, Int.not_lt, Int.not_le, Decidable.not_not, beq_iff_eq, bne_iff_ne] at hc12
                            have hdA : b.add i ≠ 0#16 := mi_ne (by assumption)
                            have hbe1 : b.ep i = g1.ep i := by rw [hge, hI.ep]; exact hmb.be i hi16 (.inr (.inl hdA))
                            refine c_region ?_
                            refine wl (wl_val hl rfl trivial (r_move hl rfl) ?_)
                            clear hl a; intro a hl
                            refine wl (wl_val hl rfl trivial (r_move hl rfl) ?_)
                            clear hl a; intro a hl
                            refine wl (wl_val hl rfl trivial (r_move hl rfl) ?_)
                            clear hl a; intro a hl
                            refine wl (wl_val hl rfl trivial (r_move hl rfl) ?_)
                            clear hl a; intro a hl
                            refine wl (w_call hl hh rfl trivial rfl cal31 rfl (tell_spec hH1.s bd (by omega) (hqq 1 (by omega)) hH1.gi at_ ha 1 i (b.add i) (upA hbo hi16 hbe1 rfl hdA) (hH1.rm hi16 (by omega) (.inr (.inl hdA)))) (by repeat (first | exact keeps_nil | apply keeps_cons (by repeat (first | exact find_head | apply find_tail | apply find_skip)) (by first  | rfl) | exact keeps_self | exact keeps_left | apply keeps_app | apply keeps_mv | apply keeps_skip)) trivial ?_)
                            clear hl hh a w; intro vc Fc a w hR hl hh
                            obtain ⟨rfl, got5, M5, hF5, hS5, hbm5, hbt5⟩ := hR
                            try simp only [List.cons_append, List.nil_append, List.append_assoc, List.append_nil] at hh
                            subst hF5
                            refine w_nil ?_
                            have hl2 := hl.add (t := 0) (hl.add (t := 4) (hl.add (t := 7) (hl.add (t := 8) (hl.add (t := 9) (hl.add (t := 10) (hl.add (t := 11) (hl.add (t := 12) (hl.add (t := 13) (hl.add (t := 14) (hl.add (t := 15) (hl.nil) rfl) rfl) rfl) rfl) rfl) rfl) rfl) rfl) rfl) rfl) rfl; clear hl; have hl := hl2; clear hl2
                            obtain ⟨gE, goE, ME, hhE, hIE⟩ : ∃ gE goE ME, Has (List.map Prod.fst (mdL bd M)) w0 ((k12, C (mskA (wfN (chM g.tb 2 t (at_ : Int) c).1 20)) 50) :: (k9, C (mskA (wfN g.tb 20)) 50) :: (k4, C [.int .i64 0, .int .u16 0] 39) :: (k3, C (opc ⟨2, (t : Int), (at_ : Int), c⟩) 34) :: mdL bd ME) w ∧ QM B (Q + 400) L at_ b g (setC g (chM g.tb 2 t (at_ : Int) c).1 ep) M1 gE goE ME (i + 1) (q.m) := ⟨_, _, _, hh.keep (F' := ((k12, C (mskA (wfN (chM g.tb 2 t (at_ : Int) c).1 20)) 50) :: (k9, C (mskA (wfN g.tb 20)) 50) :: (k4, C [.int .i64 0, .int .u16 0] 39) :: (k3, C (opc ⟨2, (t : Int), (at_ : Int), c⟩) 34) :: mdL bd M5)) (by repeat (first | exact keeps_nil | apply keeps_cons (by repeat (first | exact find_head | apply find_tail | apply find_skip)) (by first  | rfl) | exact keeps_self | exact keeps_left | apply keeps_app | apply keeps_mv | apply keeps_skip)), hI.goes (hH1.next (hqq 1 (by omega)) ha (upA hbo hi16 hbe1 rfl hdA) rfl hi16 (by omega) (.inr (.inl hdA)) hS5 ⟨hbm5, hbt5⟩) (by omega) hi16 hen hwk9 hep (by unfold pub1; rw [if_neg (by rw [hen]; simp), if_pos hdA, ← hg1, hbe1])⟩
                            clear hh
                            have hh := hhE
                            clear hhE
                            obtain ⟨mE, hmE⟩ : ∃ m9 : BitVec 16, m9 = q.m := ⟨_, rfl⟩
                            rw [← hmE] at hl hIE
                            refine blk_normal ?_
                            refine blk_normal ?_
                            refine then_normal ?_
                            refine c_region ?_
                            refine wl (wl_val hl rfl trivial (r_move hl rfl) ?_)
                            clear hl a; intro a hl
                            first | refine wl (wl_val hl rfl trivial (r_add hl rfl rfl (by simp only [Fits]; omega)) ?_) | refine wl (wl_val hl rfl trivial (r_addW hl rfl rfl) ?_)
                            clear hl a; intro a hl
                            refine wl (wl_val hl rfl trivial (r_assign hl rfl) ?_)
                            clear hl a; intro a hl
                            refine w_nil ?_
                            have hl2 := hl.add (t := 0) (hl.add (t := 4) (hl.add (t := 7) (hl.add (t := 8) (hl.add (t := 9) (hl.add (t := 10) (hl.add (t := 11) (hl.add (t := 12) (hl.add (t := 13) (hl.add (t := 14) (hl.add (t := 15) (hl.nil) rfl) rfl) rfl) rfl) rfl) rfl) rfl) rfl) rfl) rfl) rfl; clear hl; have hl := hl2; clear hl2
                            refine then_normal ?_
                            refine ⟨⟨gE, goE, ME, i + 1, mE⟩, (by simp only; omega), ⟨by simp only; omega, hIE⟩, hl.addE (t := 15) (hl.addE (t := 14) (hl.addE (t := 0) (hl.addE (t := 4) (hl.addE (t := 7) (hl.addE (t := 8) (hl.addE (t := 9) (hl.addE (t := 10) (hl.addE (t := 11) (hl.addE (t := 12) (hl.addE (t := 13) (hl.nil) rfl (by first | rfl | (congr 1; omega))) rfl (by first | rfl | (congr 1; omega))) rfl (by first | rfl | (congr 1; omega))) rfl (by first | rfl | (congr 1; omega))) rfl (by first | rfl | (congr 1; omega))) rfl (by first | rfl | (congr 1; omega))) rfl (by first | rfl | (congr 1; omega))) rfl (by first | rfl | (congr 1; omega))) rfl (by first | rfl | (congr 1; omega))) rfl (by first | rfl | (congr 1; omega))) rfl (by first | rfl | (congr 1; omega)), hh.keep (by repeat (first | exact keeps_nil | apply keeps_cons (by repeat (first | exact find_head | apply find_tail | apply find_skip)) (by first  | rfl) | exact keeps_self | exact keeps_left | apply keeps_app | apply keeps_mv | apply keeps_skip))⟩
                          · intro hc12
                            try simp only [decide_eq_true_eq, decide_eq_false_iff_not, Bool.not_eq_true', Bool.not_eq_false', Bool.not_eq_true, Bool.not_eq_false, Bool.and_eq_true, Bool.or_eq_true, Bool.and_eq_false_iff, Bool.or_eq_false_iff, Bool.not_not, ne_eq, Int.not_lt, Int.not_le, Decidable.not_not, beq_iff_eq, bne_iff_ne] at hc12
                            have hdA : ¬ b.add i ≠ 0#16 := fun h => h ((mi_zero _).1 (by assumption))
                            obtain ⟨gE, goE, ME, hhE, hIE⟩ : ∃ gE goE ME, Has (List.map Prod.fst (mdL bd M)) w0 ((k12, C (mskA (wfN (chM g.tb 2 t (at_ : Int) c).1 20)) 50) :: (k9, C (mskA (wfN g.tb 20)) 50) :: (k4, C [.int .i64 0, .int .u16 0] 39) :: (k3, C (opc ⟨2, (t : Int), (at_ : Int), c⟩) 34) :: mdL bd ME) w ∧ QM B (Q + 400) L at_ b g (setC g (chM g.tb 2 t (at_ : Int) c).1 ep) M1 gE goE ME (i + 1) (q.m) := ⟨_, _, _, hh.keep (F' := ((k12, C (mskA (wfN (chM g.tb 2 t (at_ : Int) c).1 20)) 50) :: (k9, C (mskA (wfN g.tb 20)) 50) :: (k4, C [.int .i64 0, .int .u16 0] 39) :: (k3, C (opc ⟨2, (t : Int), (at_ : Int), c⟩) 34) :: mdL bd Mh)) (by repeat (first | exact keeps_nil | apply keeps_cons (by repeat (first | exact find_head | apply find_tail | apply find_skip)) (by first  | rfl) | exact keeps_self | exact keeps_left | apply keeps_app | apply keeps_mv | apply keeps_skip)), hI.goes hH1 (by omega) hi16 hen hwk9 hep (by unfold pub1; rw [if_neg (by rw [hen]; simp), if_neg hdA]; exact hg1)⟩
                            clear hh
                            have hh := hhE
                            clear hhE
                            obtain ⟨mE, hmE⟩ : ∃ m9 : BitVec 16, m9 = q.m := ⟨_, rfl⟩
                            rw [← hmE] at hl hIE
                            refine wp_skip ?_
                            refine blk_normal ?_
                            refine blk_normal ?_
                            refine then_normal ?_
                            refine c_region ?_
                            refine wl (wl_val hl rfl trivial (r_move hl rfl) ?_)
                            clear hl a; intro a hl
                            first | refine wl (wl_val hl rfl trivial (r_add hl rfl rfl (by simp only [Fits]; omega)) ?_) | refine wl (wl_val hl rfl trivial (r_addW hl rfl rfl) ?_)
                            clear hl a; intro a hl
                            refine wl (wl_val hl rfl trivial (r_assign hl rfl) ?_)
                            clear hl a; intro a hl
                            refine w_nil ?_
                            have hl2 := hl.add (t := 0) (hl.add (t := 4) (hl.add (t := 7) (hl.add (t := 8) (hl.add (t := 9) (hl.add (t := 10) (hl.add (t := 11) (hl.add (t := 12) (hl.add (t := 13) (hl.add (t := 14) (hl.add (t := 15) (hl.nil) rfl) rfl) rfl) rfl) rfl) rfl) rfl) rfl) rfl) rfl) rfl; clear hl; have hl := hl2; clear hl2
                            refine then_normal ?_
                            refine ⟨⟨gE, goE, ME, i + 1, mE⟩, (by simp only; omega), ⟨by simp only; omega, hIE⟩, hl.addE (t := 15) (hl.addE (t := 14) (hl.addE (t := 0) (hl.addE (t := 4) (hl.addE (t := 7) (hl.addE (t := 8) (hl.addE (t := 9) (hl.addE (t := 10) (hl.addE (t := 11) (hl.addE (t := 12) (hl.addE (t := 13) (hl.nil) rfl (by first | rfl | (congr 1; omega))) rfl (by first | rfl | (congr 1; omega))) rfl (by first | rfl | (congr 1; omega))) rfl (by first | rfl | (congr 1; omega))) rfl (by first | rfl | (congr 1; omega))) rfl (by first | rfl | (congr 1; omega))) rfl (by first | rfl | (congr 1; omega))) rfl (by first | rfl | (congr 1; omega))) rfl (by first | rfl | (congr 1; omega))) rfl (by first | rfl | (congr 1; omega))) rfl (by first | rfl | (congr 1; omega)), hh.keep (by repeat (first | exact keeps_nil | apply keeps_cons (by repeat (first | exact find_head | apply find_tail | apply find_skip)) (by first  | rfl) | exact keeps_self | exact keeps_left | apply keeps_app | apply keeps_mv | apply keeps_skip))⟩
                        · intro hc11
                          try simp only [decide_eq_true_eq, decide_eq_false_iff_not, Bool.not_eq_true', Bool.not_eq_false', Bool.not_eq_true, Bool.not_eq_false, Bool.and_eq_true, Bool.or_eq_true, Bool.and_eq_false_iff, Bool.or_eq_false_iff, Bool.not_not, ne_eq, Int.not_lt, Int.not_le, Decidable.not_not, beq_iff_eq, bne_iff_ne] at hc11
                          have hdl : ¬ b.del i ≠ 0#16 := fun h => h ((mi_zero _).1 (by assumption))
                          obtain ⟨g1, go1, Mh, hhE, hH1, hg1, hge⟩ : ∃ g1 go1 Mh, Has (List.map Prod.fst (mdL bd M)) w0 ((k12, C (mskA (wfN (chM g.tb 2 t (at_ : Int) c).1 20)) 50) :: (k9, C (mskA (wfN g.tb 20)) 50) :: (k4, C [.int .i64 0, .int .u16 0] 39) :: (k3, C (opc ⟨2, (t : Int), (at_ : Int), c⟩) 34) :: mdL bd Mh) w ∧ HM B (Q + 400) L at_ b M1 g1 go1 Mh i 1 ∧ g1 = (if b.del i ≠ 0#16 then routeG q.g at_ ⟨2, i, b.ep i, b.del i⟩ else q.g) ∧ g1.ep i = q.g.ep i := ⟨_, _, _, hh.keep (F' := ((k12, C (mskA (wfN (chM g.tb 2 t (at_ : Int) c).1 20)) 50) :: (k9, C (mskA (wfN g.tb 20)) 50) :: (k4, C [.int .i64 0, .int .u16 0] 39) :: (k3, C (opc ⟨2, (t : Int), (at_ : Int), c⟩) 34) :: mdL bd q.M)) (by repeat (first | exact keeps_nil | apply keeps_cons (by repeat (first | exact find_head | apply find_tail | apply find_skip)) (by first  | rfl) | exact keeps_self | exact keeps_left | apply keeps_app | apply keeps_mv | apply keeps_skip)), hH.up, by rw [if_neg hdl], rfl⟩
                          clear hh
                          have hh := hhE
                          clear hhE
                          refine wp_skip ?_
                          refine then_normal ?_
                          refine c_seq ?_
                          refine c_draw [(k12, C (mskA (wfN (chM g.tb 2 t (at_ : Int) c).1 20)) 50), (k9, C (mskA (wfN g.tb 20)) 50)] [6, 7] mixed hh ?_
                          clear hh w; intro w hh
                          have hM : Mem [(k12, C (mskA (wfN (chM g.tb 2 t (at_ : Int) c).1 20)) 50), (k9, C (mskA (wfN g.tb 20)) 50)] w := (memK hh (by repeat (first | exact keeps_nil | apply keeps_cons (by repeat (first | exact find_head | apply find_tail | apply find_skip)) (by first  | rfl) | exact keeps_self | exact keeps_left | apply keeps_app | apply keeps_mv | apply keeps_skip)))
                          refine d_take (i := 0) hl rfl (by kernel_rfl) (by kernel_rfl) (by kernel_rfl) (by kernel_rfl) (by kernel_rfl) rfl trivial (fun _ _ _ h => h) hM (fun w hC => r_move hl rfl) rfl ?_
                          clear hl a; intro a hl
                          refine d_take (i := 1) hl rfl (by kernel_rfl) (by kernel_rfl) (by kernel_rfl) (by kernel_rfl) (by kernel_rfl) rfl trivial (fun _ _ _ h => h) hM (fun w hC => r_indexA hl rfl rfl arr50 (by omega) (by omega) (by first | (simp only [Int.reduceToNat]; rfl) | exact toNat_add1 _ | exact toNat_add2 _ _ | exact toNat_emod _ _ | exact Int.toNat_natCast _ | rfl)) rfl ?_
                          clear hl a; intro a hl
                          refine d_take (i := 2) hl rfl (by kernel_rfl) (by kernel_rfl) (by kernel_rfl) (by kernel_rfl) (by kernel_rfl) rfl trivial (fun _ _ _ h => h) hM (fun w hC => r_loadC hl rfl one37 hC (by repeat (first | exact find_head | apply find_tail | apply find_skip)) (by first | exact md_p0 hD.p0 | exact md_p0 hD1.p0 | exact msk_get hi16 | exact md_ep hS3.md.ep hi16 | rfl)) rfl ?_
                          clear hl a; intro a hl
                          refine d_take (i := 3) hl rfl (by kernel_rfl) (by kernel_rfl) (by kernel_rfl) (by kernel_rfl) (by kernel_rfl) rfl trivial (fun _ _ _ h => h) hM (fun w hC => r_move hl rfl) rfl ?_
                          clear hl a; intro a hl
                          refine d_take (i := 4) hl rfl (by kernel_rfl) (by kernel_rfl) (by kernel_rfl) (by kernel_rfl) (by kernel_rfl) rfl trivial (fun _ _ _ h => h) hM (fun w hC => r_indexA hl rfl rfl arr50 (by omega) (by omega) (by first | (simp only [Int.reduceToNat]; rfl) | exact toNat_add1 _ | exact toNat_add2 _ _ | exact toNat_emod _ _ | exact Int.toNat_natCast _ | rfl)) rfl ?_
                          clear hl a; intro a hl
                          refine d_take (i := 5) hl rfl (by kernel_rfl) (by kernel_rfl) (by kernel_rfl) (by kernel_rfl) (by kernel_rfl) rfl trivial (fun _ _ _ h => h) hM (fun w hC => r_loadC hl rfl one37 hC (by repeat (first | exact find_head | apply find_tail | apply find_skip)) (by first | exact md_p0 hD.p0 | exact md_p0 hD1.p0 | exact msk_get hi16 | exact md_ep hS3.md.ep hi16 | rfl)) rfl ?_
                          clear hl a; intro a hl
                          refine d_takeL (i := 6) hl rfl (by kernel_rfl) (by kernel_rfl) (by kernel_rfl) (by kernel_rfl) (by kernel_rfl) rfl trivial (fun _ _ _ h => h) (fun w => r_andNot hl rfl rfl) rfl ?_
                          clear hl a; intro a hl
                          rw [andNot_mi, ← hadd] at hl
                          refine d_takeL (i := 7) hl rfl (by kernel_rfl) (by kernel_rfl) (by kernel_rfl) (by kernel_rfl) (by kernel_rfl) rfl trivial (fun _ _ _ h => h) (fun w => r_assign hl rfl) rfl ?_
                          clear hl a; intro a hl
                          refine d_done (by kernel_rfl) ?_
                          try clear hM
                          have hl2 := hl.add (t := 0) (hl.add (t := 4) (hl.add (t := 7) (hl.add (t := 8) (hl.add (t := 9) (hl.add (t := 10) (hl.add (t := 11) (hl.add (t := 12) (hl.add (t := 13) (hl.add (t := 14) (hl.add (t := 15) (hl.add (t := 17) (hl.nil) rfl) rfl) rfl) rfl) rfl) rfl) rfl) rfl) rfl) rfl) rfl) rfl; clear hl; have hl := hl2; clear hl2
                          refine then_normal ?_
                          refine c_seq ?_
                          refine c_region ?_
                          refine wl (wl_val hl rfl trivial (r_move hl rfl) ?_)
                          clear hl a; intro a hl
                          refine wl (wl_val hl rfl trivial (r_neq hl rfl rfl) ?_)
                          clear hl a; intro a hl
                          refine w_nil ?_
                          have hl2 := hl.add (t := 0) (hl.add (t := 4) (hl.add (t := 7) (hl.add (t := 8) (hl.add (t := 9) (hl.add (t := 10) (hl.add (t := 11) (hl.add (t := 12) (hl.add (t := 13) (hl.add (t := 14) (hl.add (t := 15) (hl.add (t := 17) (hl.add (t := 168) (hl.nil) rfl) rfl) rfl) rfl) rfl) rfl) rfl) rfl) rfl) rfl) rfl) rfl) rfl; clear hl; have hl := hl2; clear hl2
                          refine then_normal ?_
                          refine c_cond hl rfl ?_ ?_
                          · intro hc12
                            try simp only [decide_eq_true_eq, decide_eq_false_iff_not, Bool.not_eq_true', Bool.not_eq_false', Bool.not_eq_true, Bool.not_eq_false, Bool.and_eq_true, Bool.or_eq_true, Bool.and_eq_false_iff, Bool.or_eq_false_iff, Bool.not_not, ne_eq, Int.not_lt, Int.not_le, Decidable.not_not, beq_iff_eq, bne_iff_ne] at hc12
                            have hdA : b.add i ≠ 0#16 := mi_ne (by assumption)
                            have hbe1 : b.ep i = g1.ep i := by rw [hge, hI.ep]; exact hmb.be i hi16 (.inr (.inl hdA))
                            refine c_region ?_
                            refine wl (wl_val hl rfl trivial (r_move hl rfl) ?_)
                            clear hl a; intro a hl
                            refine wl (wl_val hl rfl trivial (r_move hl rfl) ?_)
                            clear hl a; intro a hl
                            refine wl (wl_val hl rfl trivial (r_move hl rfl) ?_)
                            clear hl a; intro a hl
                            refine wl (wl_val hl rfl trivial (r_move hl rfl) ?_)
                            clear hl a; intro a hl
                            refine wl (w_call hl hh rfl trivial rfl cal31 rfl (tell_spec hH1.s bd (by omega) (hqq 1 (by omega)) hH1.gi at_ ha 1 i (b.add i) (upA hbo hi16 hbe1 rfl hdA) (hH1.rm hi16 (by omega) (.inr (.inl hdA)))) (by repeat (first | exact keeps_nil | apply keeps_cons (by repeat (first | exact find_head | apply find_tail | apply find_skip)) (by first  | rfl) | exact keeps_self | exact keeps_left | apply keeps_app | apply keeps_mv | apply keeps_skip)) trivial ?_)
                            clear hl hh a w; intro vc Fc a w hR hl hh
                            obtain ⟨rfl, got5, M5, hF5, hS5, hbm5, hbt5⟩ := hR
                            try simp only [List.cons_append, List.nil_append, List.append_assoc, List.append_nil] at hh
                            subst hF5
                            refine w_nil ?_
                            have hl2 := hl.add (t := 0) (hl.add (t := 4) (hl.add (t := 7) (hl.add (t := 8) (hl.add (t := 9) (hl.add (t := 10) (hl.add (t := 11) (hl.add (t := 12) (hl.add (t := 13) (hl.add (t := 14) (hl.add (t := 15) (hl.nil) rfl) rfl) rfl) rfl) rfl) rfl) rfl) rfl) rfl) rfl) rfl; clear hl; have hl := hl2; clear hl2
                            obtain ⟨gE, goE, ME, hhE, hIE⟩ : ∃ gE goE ME, Has (List.map Prod.fst (mdL bd M)) w0 ((k12, C (mskA (wfN (chM g.tb 2 t (at_ : Int) c).1 20)) 50) :: (k9, C (mskA (wfN g.tb 20)) 50) :: (k4, C [.int .i64 0, .int .u16 0] 39) :: (k3, C (opc ⟨2, (t : Int), (at_ : Int), c⟩) 34) :: mdL bd ME) w ∧ QM B (Q + 400) L at_ b g (setC g (chM g.tb 2 t (at_ : Int) c).1 ep) M1 gE goE ME (i + 1) (q.m) := ⟨_, _, _, hh.keep (F' := ((k12, C (mskA (wfN (chM g.tb 2 t (at_ : Int) c).1 20)) 50) :: (k9, C (mskA (wfN g.tb 20)) 50) :: (k4, C [.int .i64 0, .int .u16 0] 39) :: (k3, C (opc ⟨2, (t : Int), (at_ : Int), c⟩) 34) :: mdL bd M5)) (by repeat (first | exact keeps_nil | apply keeps_cons (by repeat (first | exact find_head | apply find_tail | apply find_skip)) (by first  | rfl) | exact keeps_self | exact keeps_left | apply keeps_app | apply keeps_mv | apply keeps_skip)), hI.goes (hH1.next (hqq 1 (by omega)) ha (upA hbo hi16 hbe1 rfl hdA) rfl hi16 (by omega) (.inr (.inl hdA)) hS5 ⟨hbm5, hbt5⟩) (by omega) hi16 hen hwk9 hep (by unfold pub1; rw [if_neg (by rw [hen]; simp), if_pos hdA, ← hg1, hbe1])⟩
                            clear hh
                            have hh := hhE
                            clear hhE
                            obtain ⟨mE, hmE⟩ : ∃ m9 : BitVec 16, m9 = q.m := ⟨_, rfl⟩
                            rw [← hmE] at hl hIE
                            refine blk_normal ?_
                            refine blk_normal ?_
                            refine then_normal ?_
                            refine c_region ?_
                            refine wl (wl_val hl rfl trivial (r_move hl rfl) ?_)
                            clear hl a; intro a hl
                            first | refine wl (wl_val hl rfl trivial (r_add hl rfl rfl (by simp only [Fits]; omega)) ?_) | refine wl (wl_val hl rfl trivial (r_addW hl rfl rfl) ?_)
                            clear hl a; intro a hl
                            refine wl (wl_val hl rfl trivial (r_assign hl rfl) ?_)
                            clear hl a; intro a hl
                            refine w_nil ?_
                            have hl2 := hl.add (t := 0) (hl.add (t := 4) (hl.add (t := 7) (hl.add (t := 8) (hl.add (t := 9) (hl.add (t := 10) (hl.add (t := 11) (hl.add (t := 12) (hl.add (t := 13) (hl.add (t := 14) (hl.add (t := 15) (hl.nil) rfl) rfl) rfl) rfl) rfl) rfl) rfl) rfl) rfl) rfl) rfl; clear hl; have hl := hl2; clear hl2
                            refine then_normal ?_
                            refine ⟨⟨gE, goE, ME, i + 1, mE⟩, (by simp only; omega), ⟨by simp only; omega, hIE⟩, hl.addE (t := 15) (hl.addE (t := 14) (hl.addE (t := 0) (hl.addE (t := 4) (hl.addE (t := 7) (hl.addE (t := 8) (hl.addE (t := 9) (hl.addE (t := 10) (hl.addE (t := 11) (hl.addE (t := 12) (hl.addE (t := 13) (hl.nil) rfl (by first | rfl | (congr 1; omega))) rfl (by first | rfl | (congr 1; omega))) rfl (by first | rfl | (congr 1; omega))) rfl (by first | rfl | (congr 1; omega))) rfl (by first | rfl | (congr 1; omega))) rfl (by first | rfl | (congr 1; omega))) rfl (by first | rfl | (congr 1; omega))) rfl (by first | rfl | (congr 1; omega))) rfl (by first | rfl | (congr 1; omega))) rfl (by first | rfl | (congr 1; omega))) rfl (by first | rfl | (congr 1; omega)), hh.keep (by repeat (first | exact keeps_nil | apply keeps_cons (by repeat (first | exact find_head | apply find_tail | apply find_skip)) (by first  | rfl) | exact keeps_self | exact keeps_left | apply keeps_app | apply keeps_mv | apply keeps_skip))⟩
                          · intro hc12
                            try simp only [decide_eq_true_eq, decide_eq_false_iff_not, Bool.not_eq_true', Bool.not_eq_false', Bool.not_eq_true, Bool.not_eq_false, Bool.and_eq_true, Bool.or_eq_true, Bool.and_eq_false_iff, Bool.or_eq_false_iff, Bool.not_not, ne_eq, Int.not_lt, Int.not_le, Decidable.not_not, beq_iff_eq, bne_iff_ne] at hc12
                            have hdA : ¬ b.add i ≠ 0#16 := fun h => h ((mi_zero _).1 (by assumption))
                            obtain ⟨gE, goE, ME, hhE, hIE⟩ : ∃ gE goE ME, Has (List.map Prod.fst (mdL bd M)) w0 ((k12, C (mskA (wfN (chM g.tb 2 t (at_ : Int) c).1 20)) 50) :: (k9, C (mskA (wfN g.tb 20)) 50) :: (k4, C [.int .i64 0, .int .u16 0] 39) :: (k3, C (opc ⟨2, (t : Int), (at_ : Int), c⟩) 34) :: mdL bd ME) w ∧ QM B (Q + 400) L at_ b g (setC g (chM g.tb 2 t (at_ : Int) c).1 ep) M1 gE goE ME (i + 1) (q.m) := ⟨_, _, _, hh.keep (F' := ((k12, C (mskA (wfN (chM g.tb 2 t (at_ : Int) c).1 20)) 50) :: (k9, C (mskA (wfN g.tb 20)) 50) :: (k4, C [.int .i64 0, .int .u16 0] 39) :: (k3, C (opc ⟨2, (t : Int), (at_ : Int), c⟩) 34) :: mdL bd Mh)) (by repeat (first | exact keeps_nil | apply keeps_cons (by repeat (first | exact find_head | apply find_tail | apply find_skip)) (by first  | rfl) | exact keeps_self | exact keeps_left | apply keeps_app | apply keeps_mv | apply keeps_skip)), hI.goes hH1 (by omega) hi16 hen hwk9 hep (by unfold pub1; rw [if_neg (by rw [hen]; simp), if_neg hdA]; exact hg1)⟩
                            clear hh
                            have hh := hhE
                            clear hhE
                            obtain ⟨mE, hmE⟩ : ∃ m9 : BitVec 16, m9 = q.m := ⟨_, rfl⟩
                            rw [← hmE] at hl hIE
                            refine wp_skip ?_
                            refine blk_normal ?_
                            refine blk_normal ?_
                            refine then_normal ?_
                            refine c_region ?_
                            refine wl (wl_val hl rfl trivial (r_move hl rfl) ?_)
                            clear hl a; intro a hl
                            first | refine wl (wl_val hl rfl trivial (r_add hl rfl rfl (by simp only [Fits]; omega)) ?_) | refine wl (wl_val hl rfl trivial (r_addW hl rfl rfl) ?_)
                            clear hl a; intro a hl
                            refine wl (wl_val hl rfl trivial (r_assign hl rfl) ?_)
                            clear hl a; intro a hl
                            refine w_nil ?_
                            have hl2 := hl.add (t := 0) (hl.add (t := 4) (hl.add (t := 7) (hl.add (t := 8) (hl.add (t := 9) (hl.add (t := 10) (hl.add (t := 11) (hl.add (t := 12) (hl.add (t := 13) (hl.add (t := 14) (hl.add (t := 15) (hl.nil) rfl) rfl) rfl) rfl) rfl) rfl) rfl) rfl) rfl) rfl) rfl; clear hl; have hl := hl2; clear hl2
                            refine then_normal ?_
                            refine ⟨⟨gE, goE, ME, i + 1, mE⟩, (by simp only; omega), ⟨by simp only; omega, hIE⟩, hl.addE (t := 15) (hl.addE (t := 14) (hl.addE (t := 0) (hl.addE (t := 4) (hl.addE (t := 7) (hl.addE (t := 8) (hl.addE (t := 9) (hl.addE (t := 10) (hl.addE (t := 11) (hl.addE (t := 12) (hl.addE (t := 13) (hl.nil) rfl (by first | rfl | (congr 1; omega))) rfl (by first | rfl | (congr 1; omega))) rfl (by first | rfl | (congr 1; omega))) rfl (by first | rfl | (congr 1; omega))) rfl (by first | rfl | (congr 1; omega))) rfl (by first | rfl | (congr 1; omega))) rfl (by first | rfl | (congr 1; omega))) rfl (by first | rfl | (congr 1; omega))) rfl (by first | rfl | (congr 1; omega))) rfl (by first | rfl | (congr 1; omega))) rfl (by first | rfl | (congr 1; omega)), hh.keep (by repeat (first | exact keeps_nil | apply keeps_cons (by repeat (first | exact find_head | apply find_tail | apply find_skip)) (by first  | rfl) | exact keeps_self | exact keeps_left | apply keeps_app | apply keeps_mv | apply keeps_skip))⟩
                      · intro hc10
                        try simp only [decide_eq_true_eq, decide_eq_false_iff_not, Bool.not_eq_true', Bool.not_eq_false', Bool.not_eq_true, Bool.not_eq_false, Bool.and_eq_true, Bool.or_eq_true, Bool.and_eq_false_iff, Bool.or_eq_false_iff, Bool.not_not, ne_eq, Int.not_lt, Int.not_le, Decidable.not_not, beq_iff_eq, bne_iff_ne] at hc10
                        have e2 : wtg (chM g.tb 2 t (at_ : Int) c).1 i = false := wt_of hi16 (by assumption)
                        obtain ⟨hadd, hdel⟩ := hmb.nw i hi16 hen e2
                        obtain ⟨gE, goE, ME, hhE, hIE⟩ : ∃ gE goE ME, Has (List.map Prod.fst (mdL bd M)) w0 ((k12, C (mskA (wfN (chM g.tb 2 t (at_ : Int) c).1 20)) 50) :: (k9, C (mskA (wfN g.tb 20)) 50) :: (k4, C [.int .i64 0, .int .u16 0] 39) :: (k3, C (opc ⟨2, (t : Int), (at_ : Int), c⟩) 34) :: mdL bd ME) w ∧ QM B (Q + 400) L at_ b g (setC g (chM g.tb 2 t (at_ : Int) c).1 ep) M1 gE goE ME (i + 1) (q.m) := ⟨_, _, _, hh.keep (F' := ((k12, C (mskA (wfN (chM g.tb 2 t (at_ : Int) c).1 20)) 50) :: (k9, C (mskA (wfN g.tb 20)) 50) :: (k4, C [.int .i64 0, .int .u16 0] 39) :: (k3, C (opc ⟨2, (t : Int), (at_ : Int), c⟩) 34) :: mdL bd q.M)) (by repeat (first | exact keeps_nil | apply keeps_cons (by repeat (first | exact find_head | apply find_tail | apply find_skip)) (by first  | rfl) | exact keeps_self | exact keeps_left | apply keeps_app | apply keeps_mv | apply keeps_skip)), hI.goes hH (by omega) hi16 hen hwk9 hep ((pub1_none hen hadd hdel).symm)⟩
                        clear hh
                        have hh := hhE
                        clear hhE
                        obtain ⟨mE, hmE⟩ : ∃ m9 : BitVec 16, m9 = q.m := ⟨_, rfl⟩
                        rw [← hmE] at hl hIE
                        refine wp_skip ?_
                        refine blk_normal ?_
                        refine blk_normal ?_
                        refine then_normal ?_
                        refine c_region ?_
                        refine wl (wl_val hl rfl trivial (r_move hl rfl) ?_)
                        clear hl a; intro a hl
                        first | refine wl (wl_val hl rfl trivial (r_add hl rfl rfl (by simp only [Fits]; omega)) ?_) | refine wl (wl_val hl rfl trivial (r_addW hl rfl rfl) ?_)
                        clear hl a; intro a hl
                        refine wl (wl_val hl rfl trivial (r_assign hl rfl) ?_)
                        clear hl a; intro a hl
                        refine w_nil ?_
                        have hl2 := hl.add (t := 0) (hl.add (t := 4) (hl.add (t := 7) (hl.add (t := 8) (hl.add (t := 9) (hl.add (t := 10) (hl.add (t := 11) (hl.add (t := 12) (hl.add (t := 13) (hl.add (t := 14) (hl.add (t := 15) (hl.nil) rfl) rfl) rfl) rfl) rfl) rfl) rfl) rfl) rfl) rfl) rfl; clear hl; have hl := hl2; clear hl2
                        refine then_normal ?_
                        refine ⟨⟨gE, goE, ME, i + 1, mE⟩, (by simp only; omega), ⟨by simp only; omega, hIE⟩, hl.addE (t := 15) (hl.addE (t := 14) (hl.addE (t := 0) (hl.addE (t := 4) (hl.addE (t := 7) (hl.addE (t := 8) (hl.addE (t := 9) (hl.addE (t := 10) (hl.addE (t := 11) (hl.addE (t := 12) (hl.addE (t := 13) (hl.nil) rfl (by first | rfl | (congr 1; omega))) rfl (by first | rfl | (congr 1; omega))) rfl (by first | rfl | (congr 1; omega))) rfl (by first | rfl | (congr 1; omega))) rfl (by first | rfl | (congr 1; omega))) rfl (by first | rfl | (congr 1; omega))) rfl (by first | rfl | (congr 1; omega))) rfl (by first | rfl | (congr 1; omega))) rfl (by first | rfl | (congr 1; omega))) rfl (by first | rfl | (congr 1; omega))) rfl (by first | rfl | (congr 1; omega)), hh.keep (by repeat (first | exact keeps_nil | apply keeps_cons (by repeat (first | exact find_head | apply find_tail | apply find_skip)) (by first  | rfl) | exact keeps_self | exact keeps_left | apply keeps_app | apply keeps_mv | apply keeps_skip))⟩
                  · intro hg3; clear hl; intro hl
                    try simp only [decide_eq_true_eq, decide_eq_false_iff_not, Bool.not_eq_true', Bool.not_eq_false', Bool.not_eq_true, Bool.not_eq_false, Bool.and_eq_true, Bool.or_eq_true, Bool.and_eq_false_iff, Bool.or_eq_false_iff, Bool.not_not, ne_eq, Int.not_lt, Int.not_le, Decidable.not_not, beq_iff_eq, bne_iff_ne] at hg3
                    refine wl (wl_skip hl rfl ⟨_, _, rfl, rfl, rfl⟩ ?_)
                    clear hl a; intro a hl
                    refine wl (wl_skip hl rfl ⟨_, _, rfl, rfl, rfl⟩ ?_)
                    clear hl a; intro a hl
                    refine wl (wl_skip hl rfl ⟨_, _, rfl, rfl, rfl⟩ ?_)
                    clear hl a; intro a hl
                    refine wl (wl_skip hl rfl ⟨_, _, rfl, rfl, rfl⟩ ?_)
                    clear hl a; intro a hl
                    refine wl (wl_val hl rfl trivial (r_pickF hl rfl rfl) ?_)
                    clear hl a; intro a hl
                    refine wl (wl_val hl rfl trivial (r_assign hl rfl) ?_)
                    clear hl a; intro a hl
                    refine w_nil ?_
                    have hl2 := hl.add (t := 0) (hl.add (t := 4) (hl.add (t := 7) (hl.add (t := 8) (hl.add (t := 9) (hl.add (t := 10) (hl.add (t := 11) (hl.add (t := 12) (hl.add (t := 13) (hl.add (t := 14) (hl.add (t := 15) (hl.add (t := 111) (hl.nil) rfl) rfl) rfl) rfl) rfl) rfl) rfl) rfl) rfl) rfl) rfl) rfl; clear hl; have hl := hl2; clear hl2
                    refine then_normal ?_
                    refine c_condF hl rfl ?_
                    have hen : b.ended.getLsbD i = false := by
                      rw [hmb.en i hi16]
                      first | (rw [show wtg g.tb i = false from wt_of hi16 (by assumption)]; rfl) | (rw [show wtg (chM g.tb 2 t (at_ : Int) c).1 i = true from wt_of hi16 (by assumption)]; cases wtg g.tb i <;> rfl)
                    have hwk9 : b.woken.getLsbD i = false := by rw [hmb.wk i hi16, hen]; rfl
                    have hep : (setC g (chM g.tb 2 t (at_ : Int) c).1 ep).ep i = g.ep i := by have := hmb.ep i hi16; rw [if_neg (by rw [hen]; simp)] at this; exact this
                    refine c_seq ?_
                    refine c_region ?_
                    refine wl (wl_val hl rfl trivial (r_move hl rfl) ?_)
                    clear hl a; intro a hl
                    refine wl (wl_val hl rfl trivial (r_move hl rfl) ?_)
                    clear hl a; intro a hl
                    refine wl (w_call hl hh rfl trivial rfl cal30 rfl (has_spec _ i hi16) (by repeat (first | exact keeps_nil | apply keeps_cons (by repeat (first | exact find_head | apply find_tail | apply find_skip)) (by first  | rfl) | exact keeps_self | exact keeps_left | apply keeps_app | apply keeps_mv | apply keeps_skip)) trivial ?_)
                    clear hl hh a w; intro vc Fc a w hR hl hh
                    obtain ⟨rfl, rfl⟩ := hR
                    try simp only [List.cons_append, List.nil_append, List.append_assoc, List.append_nil] at hh
                    refine wl (wl_val hl rfl trivial (r_assign hl rfl) ?_)
                    clear hl a; intro a hl
                    refine w_nil ?_
                    have hl2 := hl.add (t := 0) (hl.add (t := 4) (hl.add (t := 7) (hl.add (t := 8) (hl.add (t := 9) (hl.add (t := 10) (hl.add (t := 11) (hl.add (t := 12) (hl.add (t := 13) (hl.add (t := 14) (hl.add (t := 15) (hl.add (t := 142) (hl.nil) rfl) rfl) rfl) rfl) rfl) rfl) rfl) rfl) rfl) rfl) rfl) rfl; clear hl; have hl := hl2; clear hl2
                    refine then_normal ?_
                    refine c_cond hl rfl ?_ ?_
                    · intro hc10
                      try simp only [decide_eq_true_eq, decide_eq_false_iff_not, Bool.not_eq_true', Bool.not_eq_false', Bool.not_eq_true, Bool.not_eq_false, Bool.and_eq_true, Bool.or_eq_true, Bool.and_eq_false_iff, Bool.or_eq_false_iff, Bool.not_not, ne_eq, Int.not_lt, Int.not_le, Decidable.not_not, beq_iff_eq, bne_iff_ne] at hc10
                      have e2 : wtg (chM g.tb 2 t (at_ : Int) c).1 i = true := wt_of hi16 (by assumption)
                      obtain ⟨hadd, hdel⟩ := hmb.ad i hi16 hen e2
                      refine c_seq ?_
                      refine c_seq ?_
                      refine c_draw [(k12, C (mskA (wfN (chM g.tb 2 t (at_ : Int) c).1 20)) 50), (k9, C (mskA (wfN g.tb 20)) 50)] [6, 7] mixed hh ?_
                      clear hh w; intro w hh
                      have hM : Mem [(k12, C (mskA (wfN (chM g.tb 2 t (at_ : Int) c).1 20)) 50), (k9, C (mskA (wfN g.tb 20)) 50)] w := (memK hh (by repeat (first | exact keeps_nil | apply keeps_cons (by repeat (first | exact find_head | apply find_tail | apply find_skip)) (by first  | rfl) | exact keeps_self | exact keeps_left | apply keeps_app | apply keeps_mv | apply keeps_skip)))
                      refine d_take (i := 0) hl rfl (by kernel_rfl) (by kernel_rfl) (by kernel_rfl) (by kernel_rfl) (by kernel_rfl) rfl trivial (fun _ _ _ h => h) hM (fun w hC => r_move hl rfl) rfl ?_
                      clear hl a; intro a hl
                      refine d_take (i := 1) hl rfl (by kernel_rfl) (by kernel_rfl) (by kernel_rfl) (by kernel_rfl) (by kernel_rfl) rfl trivial (fun _ _ _ h => h) hM (fun w hC => r_indexA hl rfl rfl arr50 (by omega) (by omega) (by first | (simp only [Int.reduceToNat]; rfl) | exact toNat_add1 _ | exact toNat_add2 _ _ | exact toNat_emod _ _ | exact Int.toNat_natCast _ | rfl)) rfl ?_
                      clear hl a; intro a hl
                      refine d_take (i := 2) hl rfl (by kernel_rfl) (by kernel_rfl) (by kernel_rfl) (by kernel_rfl) (by kernel_rfl) rfl trivial (fun _ _ _ h => h) hM (fun w hC => r_loadC hl rfl one37 hC (by repeat (first | exact find_head | apply find_tail | apply find_skip)) (by first | exact md_p0 hD.p0 | exact md_p0 hD1.p0 | exact msk_get hi16 | exact md_ep hS3.md.ep hi16 | rfl)) rfl ?_
                      clear hl a; intro a hl
                      refine d_take (i := 3) hl rfl (by kernel_rfl) (by kernel_rfl) (by kernel_rfl) (by kernel_rfl) (by kernel_rfl) rfl trivial (fun _ _ _ h => h) hM (fun w hC => r_move hl rfl) rfl ?_
                      clear hl a; intro a hl
                      refine d_take (i := 4) hl rfl (by kernel_rfl) (by kernel_rfl) (by kernel_rfl) (by kernel_rfl) (by kernel_rfl) rfl trivial (fun _ _ _ h => h) hM (fun w hC => r_indexA hl rfl rfl arr50 (by omega) (by omega) (by first | (simp only [Int.reduceToNat]; rfl) | exact toNat_add1 _ | exact toNat_add2 _ _ | exact toNat_emod _ _ | exact Int.toNat_natCast _ | rfl)) rfl ?_
                      clear hl a; intro a hl
                      refine d_take (i := 5) hl rfl (by kernel_rfl) (by kernel_rfl) (by kernel_rfl) (by kernel_rfl) (by kernel_rfl) rfl trivial (fun _ _ _ h => h) hM (fun w hC => r_loadC hl rfl one37 hC (by repeat (first | exact find_head | apply find_tail | apply find_skip)) (by first | exact md_p0 hD.p0 | exact md_p0 hD1.p0 | exact msk_get hi16 | exact md_ep hS3.md.ep hi16 | rfl)) rfl ?_
                      clear hl a; intro a hl
                      refine d_takeL (i := 6) hl rfl (by kernel_rfl) (by kernel_rfl) (by kernel_rfl) (by kernel_rfl) (by kernel_rfl) rfl trivial (fun _ _ _ h => h) (fun w => r_andNot hl rfl rfl) rfl ?_
                      clear hl a; intro a hl
                      rw [andNot_mi, ← hdel] at hl
                      refine d_takeL (i := 7) hl rfl (by kernel_rfl) (by kernel_rfl) (by kernel_rfl) (by kernel_rfl) (by kernel_rfl) rfl trivial (fun _ _ _ h => h) (fun w => r_assign hl rfl) rfl ?_
                      clear hl a; intro a hl
                      refine d_done (by kernel_rfl) ?_
                      try clear hM
                      have hl2 := hl.add (t := 0) (hl.add (t := 4) (hl.add (t := 7) (hl.add (t := 8) (hl.add (t := 9) (hl.add (t := 10) (hl.add (t := 11) (hl.add (t := 12) (hl.add (t := 13) (hl.add (t := 14) (hl.add (t := 15) (hl.add (t := 16) (hl.nil) rfl) rfl) rfl) rfl) rfl) rfl) rfl) rfl) rfl) rfl) rfl) rfl; clear hl; have hl := hl2; clear hl2
                      refine then_normal ?_
                      refine c_seq ?_
                      refine c_region ?_
                      refine wl (wl_val hl rfl trivial (r_move hl rfl) ?_)
                      clear hl a; intro a hl
                      refine wl (wl_val hl rfl trivial (r_neq hl rfl rfl) ?_)
                      clear hl a; intro a hl
                      refine w_nil ?_
                      have hl2 := hl.add (t := 0) (hl.add (t := 4) (hl.add (t := 7) (hl.add (t := 8) (hl.add (t := 9) (hl.add (t := 10) (hl.add (t := 11) (hl.add (t := 12) (hl.add (t := 13) (hl.add (t := 14) (hl.add (t := 15) (hl.add (t := 16) (hl.add (t := 154) (hl.nil) rfl) rfl) rfl) rfl) rfl) rfl) rfl) rfl) rfl) rfl) rfl) rfl) rfl; clear hl; have hl := hl2; clear hl2
                      refine then_normal ?_
                      refine c_cond hl rfl ?_ ?_
                      · intro hc11
                        try simp only [decide_eq_true_eq, decide_eq_false_iff_not, Bool.not_eq_true', Bool.not_eq_false', Bool.not_eq_true, Bool.not_eq_false, Bool.and_eq_true, Bool.or_eq_true, Bool.and_eq_false_iff, Bool.or_eq_false_iff, Bool.not_not, ne_eq, Int.not_lt, Int.not_le, Decidable.not_not, beq_iff_eq, bne_iff_ne] at hc11
                        have hdl : b.del i ≠ 0#16 := mi_ne (by assumption)
                        have hbe : b.ep i = q.g.ep i := by rw [hI.ep]; exact hmb.be i hi16 (.inr (.inr hdl))
                        refine c_region ?_
                        refine wl (wl_val hl rfl trivial (r_move hl rfl) ?_)
                        clear hl a; intro a hl
                        refine wl (wl_val hl rfl trivial (r_move hl rfl) ?_)
                        clear hl a; intro a hl
                        refine wl (wl_val hl rfl trivial (r_move hl rfl) ?_)
                        clear hl a; intro a hl
                        refine wl (wl_val hl rfl trivial (r_move hl rfl) ?_)
                        clear hl a; intro a hl
                        refine wl (w_call hl hh rfl trivial rfl cal31 rfl (tell_spec hH.s bd (by omega) (hqq 0 (by omega)) hH.gi at_ ha 2 i (b.del i) (upD hbo hi16 hbe rfl hdl) (hH.rm hi16 (by omega) (.inr (.inr hdl)))) (by repeat (first | exact keeps_nil | apply keeps_cons (by repeat (first | exact find_head | apply find_tail | apply find_skip)) (by first  | rfl) | exact keeps_self | exact keeps_left | apply keeps_app | apply keeps_mv | apply keeps_skip)) trivial ?_)
                        clear hl hh a w; intro vc Fc a w hR hl hh
                        obtain ⟨rfl, got4, M4, hF4, hS4, hbm4, hbt4⟩ := hR
                        try simp only [List.cons_append, List.nil_append, List.append_assoc, List.append_nil] at hh
                        subst hF4
                        refine w_nil ?_
                        have hl2 := hl.add (t := 0) (hl.add (t := 4) (hl.add (t := 7) (hl.add (t := 8) (hl.add (t := 9) (hl.add (t := 10) (hl.add (t := 11) (hl.add (t := 12) (hl.add (t := 13) (hl.add (t := 14) (hl.add (t := 15) (hl.nil) rfl) rfl) rfl) rfl) rfl) rfl) rfl) rfl) rfl) rfl) rfl; clear hl; have hl := hl2; clear hl2
                        obtain ⟨g1, go1, Mh, hhE, hH1, hg1, hge⟩ : ∃ g1 go1 Mh, Has (List.map Prod.fst (mdL bd M)) w0 ((k12, C (mskA (wfN (chM g.tb 2 t (at_ : Int) c).1 20)) 50) :: (k9, C (mskA (wfN g.tb 20)) 50) :: (k4, C [.int .i64 0, .int .u16 0] 39) :: (k3, C (opc ⟨2, (t : Int), (at_ : Int), c⟩) 34) :: mdL bd Mh) w ∧ HM B (Q + 400) L at_ b M1 g1 go1 Mh i 1 ∧ g1 = (if b.del i ≠ 0#16 then routeG q.g at_ ⟨2, i, b.ep i, b.del i⟩ else q.g) ∧ g1.ep i = q.g.ep i := ⟨_, _, _, hh.keep (F' := ((k12, C (mskA (wfN (chM g.tb 2 t (at_ : Int) c).1 20)) 50) :: (k9, C (mskA (wfN g.tb 20)) 50) :: (k4, C [.int .i64 0, .int .u16 0] 39) :: (k3, C (opc ⟨2, (t : Int), (at_ : Int), c⟩) 34) :: mdL bd M4)) (by repeat (first | exact keeps_nil | apply keeps_cons (by repeat (first | exact find_head | apply find_tail | apply find_skip)) (by first  | rfl) | exact keeps_self | exact keeps_left | apply keeps_app | apply keeps_mv | apply keeps_skip)), (hH.next (hqq 0 (by omega)) ha (upD hbo hi16 hbe rfl hdl) rfl hi16 (by omega) (.inr (.inr hdl)) hS4 ⟨hbm4, hbt4⟩), by rw [if_pos hdl, hbe], by rw [route_epI]⟩
                        clear hh
                        have hh := hhE
                        clear hhE
                        refine then_normal ?_
                        refine c_seq ?_
                        refine c_draw [(k12, C (mskA (wfN (chM g.tb 2 t (at_ : Int) c).1 20)) 50), (k9, C (mskA (wfN g.tb 20)) 50)] [6, 7] mixed hh ?_
                        clear hh w; intro w hh
                        have hM : Mem [(k12, C (mskA (wfN (chM g.tb 2 t (at_ : Int) c).1 20)) 50), (k9, C (mskA (wfN g.tb 20)) 50)] w := (memK hh (by repeat (first | exact keeps_nil | apply keeps_cons (by repeat (first | exact find_head | apply find_tail | apply find_skip)) (by first  | rfl) | exact keeps_self | exact keeps_left | apply keeps_app | apply keeps_mv | apply keeps_skip)))
                        refine d_take (i := 0) hl rfl (by kernel_rfl) (by kernel_rfl) (by kernel_rfl) (by kernel_rfl) (by kernel_rfl) rfl trivial (fun _ _ _ h => h) hM (fun w hC => r_move hl rfl) rfl ?_
                        clear hl a; intro a hl
                        refine d_take (i := 1) hl rfl (by kernel_rfl) (by kernel_rfl) (by kernel_rfl) (by kernel_rfl) (by kernel_rfl) rfl trivial (fun _ _ _ h => h) hM (fun w hC => r_indexA hl rfl rfl arr50 (by omega) (by omega) (by first | (simp only [Int.reduceToNat]; rfl) | exact toNat_add1 _ | exact toNat_add2 _ _ | exact toNat_emod _ _ | exact Int.toNat_natCast _ | rfl)) rfl ?_
                        clear hl a; intro a hl
                        refine d_take (i := 2) hl rfl (by kernel_rfl) (by kernel_rfl) (by kernel_rfl) (by kernel_rfl) (by kernel_rfl) rfl trivial (fun _ _ _ h => h) hM (fun w hC => r_loadC hl rfl one37 hC (by repeat (first | exact find_head | apply find_tail | apply find_skip)) (by first | exact md_p0 hD.p0 | exact md_p0 hD1.p0 | exact msk_get hi16 | exact md_ep hS3.md.ep hi16 | rfl)) rfl ?_
                        clear hl a; intro a hl
                        refine d_take (i := 3) hl rfl (by kernel_rfl) (by kernel_rfl) (by kernel_rfl) (by kernel_rfl) (by kernel_rfl) rfl trivial (fun _ _ _ h => h) hM (fun w hC => r_move hl rfl) rfl ?_
                        clear hl a; intro a hl
                        refine d_take (i := 4) hl rfl (by kernel_rfl) (by kernel_rfl) (by kernel_rfl) (by kernel_rfl) (by kernel_rfl) rfl trivial (fun _ _ _ h => h) hM (fun w hC => r_indexA hl rfl rfl arr50 (by omega) (by omega) (by first | (simp only [Int.reduceToNat]; rfl) | exact toNat_add1 _ | exact toNat_add2 _ _ | exact toNat_emod _ _ | exact Int.toNat_natCast _ | rfl)) rfl ?_
                        clear hl a; intro a hl
                        refine d_take (i := 5) hl rfl (by kernel_rfl) (by kernel_rfl) (by kernel_rfl) (by kernel_rfl) (by kernel_rfl) rfl trivial (fun _ _ _ h => h) hM (fun w hC => r_loadC hl rfl one37 hC (by repeat (first | exact find_head | apply find_tail | apply find_skip)) (by first | exact md_p0 hD.p0 | exact md_p0 hD1.p0 | exact msk_get hi16 | exact md_ep hS3.md.ep hi16 | rfl)) rfl ?_
                        clear hl a; intro a hl
                        refine d_takeL (i := 6) hl rfl (by kernel_rfl) (by kernel_rfl) (by kernel_rfl) (by kernel_rfl) (by kernel_rfl) rfl trivial (fun _ _ _ h => h) (fun w => r_andNot hl rfl rfl) rfl ?_
                        clear hl a; intro a hl
                        rw [andNot_mi, ← hadd] at hl
                        refine d_takeL (i := 7) hl rfl (by kernel_rfl) (by kernel_rfl) (by kernel_rfl) (by kernel_rfl) (by kernel_rfl) rfl trivial (fun _ _ _ h => h) (fun w => r_assign hl rfl) rfl ?_
                        clear hl a; intro a hl
                        refine d_done (by kernel_rfl) ?_
                        try clear hM
                        have hl2 := hl.add (t := 0) (hl.add (t := 4) (hl.add (t := 7) (hl.add (t := 8) (hl.add (t := 9) (hl.add (t := 10) (hl.add (t := 11) (hl.add (t := 12) (hl.add (t := 13) (hl.add (t := 14) (hl.add (t := 15) (hl.add (t := 17) (hl.nil) rfl) rfl) rfl) rfl) rfl) rfl) rfl) rfl) rfl) rfl) rfl) rfl; clear hl; have hl := hl2; clear hl2
                        refine then_normal ?_
                        refine c_seq ?_
                        refine c_region ?_
                        refine wl (wl_val hl rfl trivial (r_move hl rfl) ?_)
                        clear hl a; intro a hl
                        refine wl (wl_val hl rfl trivial (r_neq hl rfl rfl) ?_)
                        clear hl a; intro a hl
                        refine w_nil ?_
                        have hl2 := hl.add (t := 0) (hl.add (t := 4) (hl.add (t := 7) (hl.add (t := 8) (hl.add (t := 9) (hl.add (t := 10) (hl.add (t := 11) (hl.add (t := 12) (hl.add (t := 13) (hl.add (t := 14) (hl.add (t := 15) (hl.add (t := 17) (hl.add (t := 168) (hl.nil) rfl) rfl) rfl) rfl) rfl) rfl) rfl) rfl) rfl) rfl) rfl) rfl) rfl; clear hl; have hl := hl2; clear hl2
                        refine then_normal ?_
                        refine c_cond hl rfl ?_ ?_
                        · intro hc12
                          try simp only [decide_eq_true_eq, decide_eq_false_iff_not, Bool.not_eq_true', Bool.not_eq_false', Bool.not_eq_true, Bool.not_eq_false, Bool.and_eq_true, Bool.or_eq_true, Bool.and_eq_false_iff, Bool.or_eq_false_iff, Bool.not_not, ne_eq, Int.not_lt, Int.not_le, Decidable.not_not, beq_iff_eq, bne_iff_ne] at hc12
                          have hdA : b.add i ≠ 0#16 := mi_ne (by assumption)
                          have hbe1 : b.ep i = g1.ep i := by rw [hge, hI.ep]; exact hmb.be i hi16 (.inr (.inl hdA))
                          refine c_region ?_
                          refine wl (wl_val hl rfl trivial (r_move hl rfl) ?_)
                          clear hl a; intro a hl
                          refine wl (wl_val hl rfl trivial (r_move hl rfl) ?_)
                          clear hl a; intro a hl
                          refine wl (wl_val hl rfl trivial (r_move hl rfl) ?_)
                          clear hl a; intro a hl
                          refine wl (wl_val hl rfl trivial (r_move hl rfl) ?_)
                          clear hl a; intro a hl
                          refine wl (w_call hl hh rfl trivial rfl cal31 rfl (tell_spec hH1.s bd (by omega) (hqq 1 (by omega)) hH1.gi at_ ha 1 i (b.add i) (upA hbo hi16 hbe1 rfl hdA) (hH1.rm hi16 (by omega) (.inr (.inl hdA)))) (by repeat (first | exact keeps_nil | apply keeps_cons (by repeat (first | exact find_head | apply find_tail | apply find_skip)) (by first  | rfl) | exact keeps_self | exact keeps_left | apply keeps_app | apply keeps_mv | apply keeps_skip)) trivial ?_)
                          clear hl hh a w; intro vc Fc a w hR hl hh
                          obtain ⟨rfl, got5, M5, hF5, hS5, hbm5, hbt5⟩ := hR
                          try simp only [List.cons_append, List.nil_append, List.append_assoc, List.append_nil] at hh
                          subst hF5
                          refine w_nil ?_
                          have hl2 := hl.add (t := 0) (hl.add (t := 4) (hl.add (t := 7) (hl.add (t := 8) (hl.add (t := 9) (hl.add (t := 10) (hl.add (t := 11) (hl.add (t := 12) (hl.add (t := 13) (hl.add (t := 14) (hl.add (t := 15) (hl.nil) rfl) rfl) rfl) rfl) rfl) rfl) rfl) rfl) rfl) rfl) rfl; clear hl; have hl := hl2; clear hl2
                          obtain ⟨gE, goE, ME, hhE, hIE⟩ : ∃ gE goE ME, Has (List.map Prod.fst (mdL bd M)) w0 ((k12, C (mskA (wfN (chM g.tb 2 t (at_ : Int) c).1 20)) 50) :: (k9, C (mskA (wfN g.tb 20)) 50) :: (k4, C [.int .i64 0, .int .u16 0] 39) :: (k3, C (opc ⟨2, (t : Int), (at_ : Int), c⟩) 34) :: mdL bd ME) w ∧ QM B (Q + 400) L at_ b g (setC g (chM g.tb 2 t (at_ : Int) c).1 ep) M1 gE goE ME (i + 1) (q.m) := ⟨_, _, _, hh.keep (F' := ((k12, C (mskA (wfN (chM g.tb 2 t (at_ : Int) c).1 20)) 50) :: (k9, C (mskA (wfN g.tb 20)) 50) :: (k4, C [.int .i64 0, .int .u16 0] 39) :: (k3, C (opc ⟨2, (t : Int), (at_ : Int), c⟩) 34) :: mdL bd M5)) (by repeat (first | exact keeps_nil | apply keeps_cons (by repeat (first | exact find_head | apply find_tail | apply find_skip)) (by first  | rfl) | exact keeps_self | exact keeps_left | apply keeps_app | apply keeps_mv | apply keeps_skip)), hI.goes (hH1.next (hqq 1 (by omega)) ha (upA hbo hi16 hbe1 rfl hdA) rfl hi16 (by omega) (.inr (.inl hdA)) hS5 ⟨hbm5, hbt5⟩) (by omega) hi16 hen hwk9 hep (by unfold pub1; rw [if_neg (by rw [hen]; simp), if_pos hdA, ← hg1, hbe1])⟩
                          clear hh
                          have hh := hhE
                          clear hhE
                          obtain ⟨mE, hmE⟩ : ∃ m9 : BitVec 16, m9 = q.m := ⟨_, rfl⟩
                          rw [← hmE] at hl hIE
                          refine blk_normal ?_
                          refine blk_normal ?_
                          refine then_normal ?_
                          refine c_region ?_
                          refine wl (wl_val hl rfl trivial (r_move hl rfl) ?_)
                          clear hl a; intro a hl
                          first | refine wl (wl_val hl rfl trivial (r_add hl rfl rfl (by simp only [Fits]; omega)) ?_) | refine wl (wl_val hl rfl trivial (r_addW hl rfl rfl) ?_)
                          clear hl a; intro a hl
                          refine wl (wl_val hl rfl trivial (r_assign hl rfl) ?_)
                          clear hl a; intro a hl
                          refine w_nil ?_
                          have hl2 := hl.add (t := 0) (hl.add (t := 4) (hl.add (t := 7) (hl.add (t := 8) (hl.add (t := 9) (hl.add (t := 10) (hl.add (t := 11) (hl.add (t := 12) (hl.add (t := 13) (hl.add (t := 14) (hl.add (t := 15) (hl.nil) rfl) rfl) rfl) rfl) rfl) rfl) rfl) rfl) rfl) rfl) rfl; clear hl; have hl := hl2; clear hl2
                          refine then_normal ?_
                          refine ⟨⟨gE, goE, ME, i + 1, mE⟩, (by simp only; omega), ⟨by simp only; omega, hIE⟩, hl.addE (t := 15) (hl.addE (t := 14) (hl.addE (t := 0) (hl.addE (t := 4) (hl.addE (t := 7) (hl.addE (t := 8) (hl.addE (t := 9) (hl.addE (t := 10) (hl.addE (t := 11) (hl.addE (t := 12) (hl.addE (t := 13) (hl.nil) rfl (by first | rfl | (congr 1; omega))) rfl (by first | rfl | (congr 1; omega))) rfl (by first | rfl | (congr 1; omega))) rfl (by first | rfl | (congr 1; omega))) rfl (by first | rfl | (congr 1; omega))) rfl (by first | rfl | (congr 1; omega))) rfl (by first | rfl | (congr 1; omega))) rfl (by first | rfl | (congr 1; omega))) rfl (by first | rfl | (congr 1; omega))) rfl (by first | rfl | (congr 1; omega))) rfl (by first | rfl | (congr 1; omega)), hh.keep (by repeat (first | exact keeps_nil | apply keeps_cons (by repeat (first | exact find_head | apply find_tail | apply find_skip)) (by first  | rfl) | exact keeps_self | exact keeps_left | apply keeps_app | apply keeps_mv | apply keeps_skip))⟩
                        · intro hc12
                          try simp only [decide_eq_true_eq, decide_eq_false_iff_not, Bool.not_eq_true', Bool.not_eq_false', Bool.not_eq_true, Bool.not_eq_false, Bool.and_eq_true, Bool.or_eq_true, Bool.and_eq_false_iff, Bool.or_eq_false_iff, Bool.not_not, ne_eq, Int.not_lt, Int.not_le, Decidable.not_not, beq_iff_eq, bne_iff_ne] at hc12
                          have hdA : ¬ b.add i ≠ 0#16 := fun h => h ((mi_zero _).1 (by assumption))
                          obtain ⟨gE, goE, ME, hhE, hIE⟩ : ∃ gE goE ME, Has (List.map Prod.fst (mdL bd M)) w0 ((k12, C (mskA (wfN (chM g.tb 2 t (at_ : Int) c).1 20)) 50) :: (k9, C (mskA (wfN g.tb 20)) 50) :: (k4, C [.int .i64 0, .int .u16 0] 39) :: (k3, C (opc ⟨2, (t : Int), (at_ : Int), c⟩) 34) :: mdL bd ME) w ∧ QM B (Q + 400) L at_ b g (setC g (chM g.tb 2 t (at_ : Int) c).1 ep) M1 gE goE ME (i + 1) (q.m) := ⟨_, _, _, hh.keep (F' := ((k12, C (mskA (wfN (chM g.tb 2 t (at_ : Int) c).1 20)) 50) :: (k9, C (mskA (wfN g.tb 20)) 50) :: (k4, C [.int .i64 0, .int .u16 0] 39) :: (k3, C (opc ⟨2, (t : Int), (at_ : Int), c⟩) 34) :: mdL bd Mh)) (by repeat (first | exact keeps_nil | apply keeps_cons (by repeat (first | exact find_head | apply find_tail | apply find_skip)) (by first  | rfl) | exact keeps_self | exact keeps_left | apply keeps_app | apply keeps_mv | apply keeps_skip)), hI.goes hH1 (by omega) hi16 hen hwk9 hep (by unfold pub1; rw [if_neg (by rw [hen]; simp), if_neg hdA]; exact hg1)⟩
                          clear hh
                          have hh := hhE
                          clear hhE
                          obtain ⟨mE, hmE⟩ : ∃ m9 : BitVec 16, m9 = q.m := ⟨_, rfl⟩
                          rw [← hmE] at hl hIE
                          refine wp_skip ?_
                          refine blk_normal ?_
                          refine blk_normal ?_
                          refine then_normal ?_
                          refine c_region ?_
                          refine wl (wl_val hl rfl trivial (r_move hl rfl) ?_)
                          clear hl a; intro a hl
                          first | refine wl (wl_val hl rfl trivial (r_add hl rfl rfl (by simp only [Fits]; omega)) ?_) | refine wl (wl_val hl rfl trivial (r_addW hl rfl rfl) ?_)
                          clear hl a; intro a hl
                          refine wl (wl_val hl rfl trivial (r_assign hl rfl) ?_)
                          clear hl a; intro a hl
                          refine w_nil ?_
                          have hl2 := hl.add (t := 0) (hl.add (t := 4) (hl.add (t := 7) (hl.add (t := 8) (hl.add (t := 9) (hl.add (t := 10) (hl.add (t := 11) (hl.add (t := 12) (hl.add (t := 13) (hl.add (t := 14) (hl.add (t := 15) (hl.nil) rfl) rfl) rfl) rfl) rfl) rfl) rfl) rfl) rfl) rfl) rfl; clear hl; have hl := hl2; clear hl2
                          refine then_normal ?_
                          refine ⟨⟨gE, goE, ME, i + 1, mE⟩, (by simp only; omega), ⟨by simp only; omega, hIE⟩, hl.addE (t := 15) (hl.addE (t := 14) (hl.addE (t := 0) (hl.addE (t := 4) (hl.addE (t := 7) (hl.addE (t := 8) (hl.addE (t := 9) (hl.addE (t := 10) (hl.addE (t := 11) (hl.addE (t := 12) (hl.addE (t := 13) (hl.nil) rfl (by first | rfl | (congr 1; omega))) rfl (by first | rfl | (congr 1; omega))) rfl (by first | rfl | (congr 1; omega))) rfl (by first | rfl | (congr 1; omega))) rfl (by first | rfl | (congr 1; omega))) rfl (by first | rfl | (congr 1; omega))) rfl (by first | rfl | (congr 1; omega))) rfl (by first | rfl | (congr 1; omega))) rfl (by first | rfl | (congr 1; omega))) rfl (by first | rfl | (congr 1; omega))) rfl (by first | rfl | (congr 1; omega)), hh.keep (by repeat (first | exact keeps_nil | apply keeps_cons (by repeat (first | exact find_head | apply find_tail | apply find_skip)) (by first  | rfl) | exact keeps_self | exact keeps_left | apply keeps_app | apply keeps_mv | apply keeps_skip))⟩
                      · intro hc11
                        try simp only [decide_eq_true_eq, decide_eq_false_iff_not, Bool.not_eq_true', Bool.not_eq_false', Bool.not_eq_true, Bool.not_eq_false, Bool.and_eq_true, Bool.or_eq_true, Bool.and_eq_false_iff, Bool.or_eq_false_iff, Bool.not_not, ne_eq, Int.not_lt, Int.not_le, Decidable.not_not, beq_iff_eq, bne_iff_ne] at hc11
                        have hdl : ¬ b.del i ≠ 0#16 := fun h => h ((mi_zero _).1 (by assumption))
                        obtain ⟨g1, go1, Mh, hhE, hH1, hg1, hge⟩ : ∃ g1 go1 Mh, Has (List.map Prod.fst (mdL bd M)) w0 ((k12, C (mskA (wfN (chM g.tb 2 t (at_ : Int) c).1 20)) 50) :: (k9, C (mskA (wfN g.tb 20)) 50) :: (k4, C [.int .i64 0, .int .u16 0] 39) :: (k3, C (opc ⟨2, (t : Int), (at_ : Int), c⟩) 34) :: mdL bd Mh) w ∧ HM B (Q + 400) L at_ b M1 g1 go1 Mh i 1 ∧ g1 = (if b.del i ≠ 0#16 then routeG q.g at_ ⟨2, i, b.ep i, b.del i⟩ else q.g) ∧ g1.ep i = q.g.ep i := ⟨_, _, _, hh.keep (F' := ((k12, C (mskA (wfN (chM g.tb 2 t (at_ : Int) c).1 20)) 50) :: (k9, C (mskA (wfN g.tb 20)) 50) :: (k4, C [.int .i64 0, .int .u16 0] 39) :: (k3, C (opc ⟨2, (t : Int), (at_ : Int), c⟩) 34) :: mdL bd q.M)) (by repeat (first | exact keeps_nil | apply keeps_cons (by repeat (first | exact find_head | apply find_tail | apply find_skip)) (by first  | rfl) | exact keeps_self | exact keeps_left | apply keeps_app | apply keeps_mv | apply keeps_skip)), hH.up, by rw [if_neg hdl], rfl⟩
                        clear hh
                        have hh := hhE
                        clear hhE
                        refine wp_skip ?_
                        refine then_normal ?_
                        refine c_seq ?_
                        refine c_draw [(k12, C (mskA (wfN (chM g.tb 2 t (at_ : Int) c).1 20)) 50), (k9, C (mskA (wfN g.tb 20)) 50)] [6, 7] mixed hh ?_
                        clear hh w; intro w hh
                        have hM : Mem [(k12, C (mskA (wfN (chM g.tb 2 t (at_ : Int) c).1 20)) 50), (k9, C (mskA (wfN g.tb 20)) 50)] w := (memK hh (by repeat (first | exact keeps_nil | apply keeps_cons (by repeat (first | exact find_head | apply find_tail | apply find_skip)) (by first  | rfl) | exact keeps_self | exact keeps_left | apply keeps_app | apply keeps_mv | apply keeps_skip)))
                        refine d_take (i := 0) hl rfl (by kernel_rfl) (by kernel_rfl) (by kernel_rfl) (by kernel_rfl) (by kernel_rfl) rfl trivial (fun _ _ _ h => h) hM (fun w hC => r_move hl rfl) rfl ?_
                        clear hl a; intro a hl
                        refine d_take (i := 1) hl rfl (by kernel_rfl) (by kernel_rfl) (by kernel_rfl) (by kernel_rfl) (by kernel_rfl) rfl trivial (fun _ _ _ h => h) hM (fun w hC => r_indexA hl rfl rfl arr50 (by omega) (by omega) (by first | (simp only [Int.reduceToNat]; rfl) | exact toNat_add1 _ | exact toNat_add2 _ _ | exact toNat_emod _ _ | exact Int.toNat_natCast _ | rfl)) rfl ?_
                        clear hl a; intro a hl
                        refine d_take (i := 2) hl rfl (by kernel_rfl) (by kernel_rfl) (by kernel_rfl) (by kernel_rfl) (by kernel_rfl) rfl trivial (fun _ _ _ h => h) hM (fun w hC => r_loadC hl rfl one37 hC (by repeat (first | exact find_head | apply find_tail | apply find_skip)) (by first | exact md_p0 hD.p0 | exact md_p0 hD1.p0 | exact msk_get hi16 | exact md_ep hS3.md.ep hi16 | rfl)) rfl ?_
                        clear hl a; intro a hl
                        refine d_take (i := 3) hl rfl (by kernel_rfl) (by kernel_rfl) (by kernel_rfl) (by kernel_rfl) (by kernel_rfl) rfl trivial (fun _ _ _ h => h) hM (fun w hC => r_move hl rfl) rfl ?_
                        clear hl a; intro a hl
                        refine d_take (i := 4) hl rfl (by kernel_rfl) (by kernel_rfl) (by kernel_rfl) (by kernel_rfl) (by kernel_rfl) rfl trivial (fun _ _ _ h => h) hM (fun w hC => r_indexA hl rfl rfl arr50 (by omega) (by omega) (by first | (simp only [Int.reduceToNat]; rfl) | exact toNat_add1 _ | exact toNat_add2 _ _ | exact toNat_emod _ _ | exact Int.toNat_natCast _ | rfl)) rfl ?_
                        clear hl a; intro a hl
                        refine d_take (i := 5) hl rfl (by kernel_rfl) (by kernel_rfl) (by kernel_rfl) (by kernel_rfl) (by kernel_rfl) rfl trivial (fun _ _ _ h => h) hM (fun w hC => r_loadC hl rfl one37 hC (by repeat (first | exact find_head | apply find_tail | apply find_skip)) (by first | exact md_p0 hD.p0 | exact md_p0 hD1.p0 | exact msk_get hi16 | exact md_ep hS3.md.ep hi16 | rfl)) rfl ?_
                        clear hl a; intro a hl
                        refine d_takeL (i := 6) hl rfl (by kernel_rfl) (by kernel_rfl) (by kernel_rfl) (by kernel_rfl) (by kernel_rfl) rfl trivial (fun _ _ _ h => h) (fun w => r_andNot hl rfl rfl) rfl ?_
                        clear hl a; intro a hl
                        rw [andNot_mi, ← hadd] at hl
                        refine d_takeL (i := 7) hl rfl (by kernel_rfl) (by kernel_rfl) (by kernel_rfl) (by kernel_rfl) (by kernel_rfl) rfl trivial (fun _ _ _ h => h) (fun w => r_assign hl rfl) rfl ?_
                        clear hl a; intro a hl
                        refine d_done (by kernel_rfl) ?_
                        try clear hM
                        have hl2 := hl.add (t := 0) (hl.add (t := 4) (hl.add (t := 7) (hl.add (t := 8) (hl.add (t := 9) (hl.add (t := 10) (hl.add (t := 11) (hl.add (t := 12) (hl.add (t := 13) (hl.add (t := 14) (hl.add (t := 15) (hl.add (t := 17) (hl.nil) rfl) rfl) rfl) rfl) rfl) rfl) rfl) rfl) rfl) rfl) rfl) rfl; clear hl; have hl := hl2; clear hl2
                        refine then_normal ?_
                        refine c_seq ?_
                        refine c_region ?_
                        refine wl (wl_val hl rfl trivial (r_move hl rfl) ?_)
                        clear hl a; intro a hl
                        refine wl (wl_val hl rfl trivial (r_neq hl rfl rfl) ?_)
                        clear hl a; intro a hl
                        refine w_nil ?_
                        have hl2 := hl.add (t := 0) (hl.add (t := 4) (hl.add (t := 7) (hl.add (t := 8) (hl.add (t := 9) (hl.add (t := 10) (hl.add (t := 11) (hl.add (t := 12) (hl.add (t := 13) (hl.add (t := 14) (hl.add (t := 15) (hl.add (t := 17) (hl.add (t := 168) (hl.nil) rfl) rfl) rfl) rfl) rfl) rfl) rfl) rfl) rfl) rfl) rfl) rfl) rfl; clear hl; have hl := hl2; clear hl2
                        refine then_normal ?_
                        refine c_cond hl rfl ?_ ?_
                        · intro hc12
                          try simp only [decide_eq_true_eq, decide_eq_false_iff_not, Bool.not_eq_true', Bool.not_eq_false', Bool.not_eq_true, Bool.not_eq_false, Bool.and_eq_true, Bool.or_eq_true, Bool.and_eq_false_iff, Bool.or_eq_false_iff, Bool.not_not, ne_eq, Int.not_lt, Int.not_le, Decidable.not_not, beq_iff_eq, bne_iff_ne] at hc12
                          have hdA : b.add i ≠ 0#16 := mi_ne (by assumption)
                          have hbe1 : b.ep i = g1.ep i := by rw [hge, hI.ep]; exact hmb.be i hi16 (.inr (.inl hdA))
                          refine c_region ?_
                          refine wl (wl_val hl rfl trivial (r_move hl rfl) ?_)
                          clear hl a; intro a hl
                          refine wl (wl_val hl rfl trivial (r_move hl rfl) ?_)
                          clear hl a; intro a hl
                          refine wl (wl_val hl rfl trivial (r_move hl rfl) ?_)
                          clear hl a; intro a hl
                          refine wl (wl_val hl rfl trivial (r_move hl rfl) ?_)
                          clear hl a; intro a hl
                          refine wl (w_call hl hh rfl trivial rfl cal31 rfl (tell_spec hH1.s bd (by omega) (hqq 1 (by omega)) hH1.gi at_ ha 1 i (b.add i) (upA hbo hi16 hbe1 rfl hdA) (hH1.rm hi16 (by omega) (.inr (.inl hdA)))) (by repeat (first | exact keeps_nil | apply keeps_cons (by repeat (first | exact find_head | apply find_tail | apply find_skip)) (by first  | rfl) | exact keeps_self | exact keeps_left | apply keeps_app | apply keeps_mv | apply keeps_skip)) trivial ?_)
                          clear hl hh a w; intro vc Fc a w hR hl hh
                          obtain ⟨rfl, got5, M5, hF5, hS5, hbm5, hbt5⟩ := hR
                          try simp only [List.cons_append, List.nil_append, List.append_assoc, List.append_nil] at hh
                          subst hF5
                          refine w_nil ?_
                          have hl2 := hl.add (t := 0) (hl.add (t := 4) (hl.add (t := 7) (hl.add (t := 8) (hl.add (t := 9) (hl.add (t := 10) (hl.add (t := 11) (hl.add (t := 12) (hl.add (t := 13) (hl.add (t := 14) (hl.add (t := 15) (hl.nil) rfl) rfl) rfl) rfl) rfl) rfl) rfl) rfl) rfl) rfl) rfl; clear hl; have hl := hl2; clear hl2
                          obtain ⟨gE, goE, ME, hhE, hIE⟩ : ∃ gE goE ME, Has (List.map Prod.fst (mdL bd M)) w0 ((k12, C (mskA (wfN (chM g.tb 2 t (at_ : Int) c).1 20)) 50) :: (k9, C (mskA (wfN g.tb 20)) 50) :: (k4, C [.int .i64 0, .int .u16 0] 39) :: (k3, C (opc ⟨2, (t : Int), (at_ : Int), c⟩) 34) :: mdL bd ME) w ∧ QM B (Q + 400) L at_ b g (setC g (chM g.tb 2 t (at_ : Int) c).1 ep) M1 gE goE ME (i + 1) (q.m) := ⟨_, _, _, hh.keep (F' := ((k12, C (mskA (wfN (chM g.tb 2 t (at_ : Int) c).1 20)) 50) :: (k9, C (mskA (wfN g.tb 20)) 50) :: (k4, C [.int .i64 0, .int .u16 0] 39) :: (k3, C (opc ⟨2, (t : Int), (at_ : Int), c⟩) 34) :: mdL bd M5)) (by repeat (first | exact keeps_nil | apply keeps_cons (by repeat (first | exact find_head | apply find_tail | apply find_skip)) (by first  | rfl) | exact keeps_self | exact keeps_left | apply keeps_app | apply keeps_mv | apply keeps_skip)), hI.goes (hH1.next (hqq 1 (by omega)) ha (upA hbo hi16 hbe1 rfl hdA) rfl hi16 (by omega) (.inr (.inl hdA)) hS5 ⟨hbm5, hbt5⟩) (by omega) hi16 hen hwk9 hep (by unfold pub1; rw [if_neg (by rw [hen]; simp), if_pos hdA, ← hg1, hbe1])⟩
                          clear hh
                          have hh := hhE
                          clear hhE
                          obtain ⟨mE, hmE⟩ : ∃ m9 : BitVec 16, m9 = q.m := ⟨_, rfl⟩
                          rw [← hmE] at hl hIE
                          refine blk_normal ?_
                          refine blk_normal ?_
                          refine then_normal ?_
                          refine c_region ?_
                          refine wl (wl_val hl rfl trivial (r_move hl rfl) ?_)
                          clear hl a; intro a hl
                          first | refine wl (wl_val hl rfl trivial (r_add hl rfl rfl (by simp only [Fits]; omega)) ?_) | refine wl (wl_val hl rfl trivial (r_addW hl rfl rfl) ?_)
                          clear hl a; intro a hl
                          refine wl (wl_val hl rfl trivial (r_assign hl rfl) ?_)
                          clear hl a; intro a hl
                          refine w_nil ?_
                          have hl2 := hl.add (t := 0) (hl.add (t := 4) (hl.add (t := 7) (hl.add (t := 8) (hl.add (t := 9) (hl.add (t := 10) (hl.add (t := 11) (hl.add (t := 12) (hl.add (t := 13) (hl.add (t := 14) (hl.add (t := 15) (hl.nil) rfl) rfl) rfl) rfl) rfl) rfl) rfl) rfl) rfl) rfl) rfl; clear hl; have hl := hl2; clear hl2
                          refine then_normal ?_
                          refine ⟨⟨gE, goE, ME, i + 1, mE⟩, (by simp only; omega), ⟨by simp only; omega, hIE⟩, hl.addE (t := 15) (hl.addE (t := 14) (hl.addE (t := 0) (hl.addE (t := 4) (hl.addE (t := 7) (hl.addE (t := 8) (hl.addE (t := 9) (hl.addE (t := 10) (hl.addE (t := 11) (hl.addE (t := 12) (hl.addE (t := 13) (hl.nil) rfl (by first | rfl | (congr 1; omega))) rfl (by first | rfl | (congr 1; omega))) rfl (by first | rfl | (congr 1; omega))) rfl (by first | rfl | (congr 1; omega))) rfl (by first | rfl | (congr 1; omega))) rfl (by first | rfl | (congr 1; omega))) rfl (by first | rfl | (congr 1; omega))) rfl (by first | rfl | (congr 1; omega))) rfl (by first | rfl | (congr 1; omega))) rfl (by first | rfl | (congr 1; omega))) rfl (by first | rfl | (congr 1; omega)), hh.keep (by repeat (first | exact keeps_nil | apply keeps_cons (by repeat (first | exact find_head | apply find_tail | apply find_skip)) (by first  | rfl) | exact keeps_self | exact keeps_left | apply keeps_app | apply keeps_mv | apply keeps_skip))⟩
                        · intro hc12
                          try simp only [decide_eq_true_eq, decide_eq_false_iff_not, Bool.not_eq_true', Bool.not_eq_false', Bool.not_eq_true, Bool.not_eq_false, Bool.and_eq_true, Bool.or_eq_true, Bool.and_eq_false_iff, Bool.or_eq_false_iff, Bool.not_not, ne_eq, Int.not_lt, Int.not_le, Decidable.not_not, beq_iff_eq, bne_iff_ne] at hc12
                          have hdA : ¬ b.add i ≠ 0#16 := fun h => h ((mi_zero _).1 (by assumption))
                          obtain ⟨gE, goE, ME, hhE, hIE⟩ : ∃ gE goE ME, Has (List.map Prod.fst (mdL bd M)) w0 ((k12, C (mskA (wfN (chM g.tb 2 t (at_ : Int) c).1 20)) 50) :: (k9, C (mskA (wfN g.tb 20)) 50) :: (k4, C [.int .i64 0, .int .u16 0] 39) :: (k3, C (opc ⟨2, (t : Int), (at_ : Int), c⟩) 34) :: mdL bd ME) w ∧ QM B (Q + 400) L at_ b g (setC g (chM g.tb 2 t (at_ : Int) c).1 ep) M1 gE goE ME (i + 1) (q.m) := ⟨_, _, _, hh.keep (F' := ((k12, C (mskA (wfN (chM g.tb 2 t (at_ : Int) c).1 20)) 50) :: (k9, C (mskA (wfN g.tb 20)) 50) :: (k4, C [.int .i64 0, .int .u16 0] 39) :: (k3, C (opc ⟨2, (t : Int), (at_ : Int), c⟩) 34) :: mdL bd Mh)) (by repeat (first | exact keeps_nil | apply keeps_cons (by repeat (first | exact find_head | apply find_tail | apply find_skip)) (by first  | rfl) | exact keeps_self | exact keeps_left | apply keeps_app | apply keeps_mv | apply keeps_skip)), hI.goes hH1 (by omega) hi16 hen hwk9 hep (by unfold pub1; rw [if_neg (by rw [hen]; simp), if_neg hdA]; exact hg1)⟩
                          clear hh
                          have hh := hhE
                          clear hhE
                          obtain ⟨mE, hmE⟩ : ∃ m9 : BitVec 16, m9 = q.m := ⟨_, rfl⟩
                          rw [← hmE] at hl hIE
                          refine wp_skip ?_
                          refine blk_normal ?_
                          refine blk_normal ?_
                          refine then_normal ?_
                          refine c_region ?_
                          refine wl (wl_val hl rfl trivial (r_move hl rfl) ?_)
                          clear hl a; intro a hl
                          first | refine wl (wl_val hl rfl trivial (r_add hl rfl rfl (by simp only [Fits]; omega)) ?_) | refine wl (wl_val hl rfl trivial (r_addW hl rfl rfl) ?_)
                          clear hl a; intro a hl
                          refine wl (wl_val hl rfl trivial (r_assign hl rfl) ?_)
                          clear hl a; intro a hl
                          refine w_nil ?_
                          have hl2 := hl.add (t := 0) (hl.add (t := 4) (hl.add (t := 7) (hl.add (t := 8) (hl.add (t := 9) (hl.add (t := 10) (hl.add (t := 11) (hl.add (t := 12) (hl.add (t := 13) (hl.add (t := 14) (hl.add (t := 15) (hl.nil) rfl) rfl) rfl) rfl) rfl) rfl) rfl) rfl) rfl) rfl) rfl; clear hl; have hl := hl2; clear hl2
                          refine then_normal ?_
                          refine ⟨⟨gE, goE, ME, i + 1, mE⟩, (by simp only; omega), ⟨by simp only; omega, hIE⟩, hl.addE (t := 15) (hl.addE (t := 14) (hl.addE (t := 0) (hl.addE (t := 4) (hl.addE (t := 7) (hl.addE (t := 8) (hl.addE (t := 9) (hl.addE (t := 10) (hl.addE (t := 11) (hl.addE (t := 12) (hl.addE (t := 13) (hl.nil) rfl (by first | rfl | (congr 1; omega))) rfl (by first | rfl | (congr 1; omega))) rfl (by first | rfl | (congr 1; omega))) rfl (by first | rfl | (congr 1; omega))) rfl (by first | rfl | (congr 1; omega))) rfl (by first | rfl | (congr 1; omega))) rfl (by first | rfl | (congr 1; omega))) rfl (by first | rfl | (congr 1; omega))) rfl (by first | rfl | (congr 1; omega))) rfl (by first | rfl | (congr 1; omega))) rfl (by first | rfl | (congr 1; omega)), hh.keep (by repeat (first | exact keeps_nil | apply keeps_cons (by repeat (first | exact find_head | apply find_tail | apply find_skip)) (by first  | rfl) | exact keeps_self | exact keeps_left | apply keeps_app | apply keeps_mv | apply keeps_skip))⟩
                    · intro hc10
                      try simp only [decide_eq_true_eq, decide_eq_false_iff_not, Bool.not_eq_true', Bool.not_eq_false', Bool.not_eq_true, Bool.not_eq_false, Bool.and_eq_true, Bool.or_eq_true, Bool.and_eq_false_iff, Bool.or_eq_false_iff, Bool.not_not, ne_eq, Int.not_lt, Int.not_le, Decidable.not_not, beq_iff_eq, bne_iff_ne] at hc10
                      have e2 : wtg (chM g.tb 2 t (at_ : Int) c).1 i = false := wt_of hi16 (by assumption)
                      obtain ⟨hadd, hdel⟩ := hmb.nw i hi16 hen e2
                      obtain ⟨gE, goE, ME, hhE, hIE⟩ : ∃ gE goE ME, Has (List.map Prod.fst (mdL bd M)) w0 ((k12, C (mskA (wfN (chM g.tb 2 t (at_ : Int) c).1 20)) 50) :: (k9, C (mskA (wfN g.tb 20)) 50) :: (k4, C [.int .i64 0, .int .u16 0] 39) :: (k3, C (opc ⟨2, (t : Int), (at_ : Int), c⟩) 34) :: mdL bd ME) w ∧ QM B (Q + 400) L at_ b g (setC g (chM g.tb 2 t (at_ : Int) c).1 ep) M1 gE goE ME (i + 1) (q.m) := ⟨_, _, _, hh.keep (F' := ((k12, C (mskA (wfN (chM g.tb 2 t (at_ : Int) c).1 20)) 50) :: (k9, C (mskA (wfN g.tb 20)) 50) :: (k4, C [.int .i64 0, .int .u16 0] 39) :: (k3, C (opc ⟨2, (t : Int), (at_ : Int), c⟩) 34) :: mdL bd q.M)) (by repeat (first | exact keeps_nil | apply keeps_cons (by repeat (first | exact find_head | apply find_tail | apply find_skip)) (by first  | rfl) | exact keeps_self | exact keeps_left | apply keeps_app | apply keeps_mv | apply keeps_skip)), hI.goes hH (by omega) hi16 hen hwk9 hep ((pub1_none hen hadd hdel).symm)⟩
                      clear hh
                      have hh := hhE
                      clear hhE
                      obtain ⟨mE, hmE⟩ : ∃ m9 : BitVec 16, m9 = q.m := ⟨_, rfl⟩
                      rw [← hmE] at hl hIE
                      refine wp_skip ?_
                      refine blk_normal ?_
                      refine blk_normal ?_
                      refine then_normal ?_
                      refine c_region ?_
                      refine wl (wl_val hl rfl trivial (r_move hl rfl) ?_)
                      clear hl a; intro a hl
                      first | refine wl (wl_val hl rfl trivial (r_add hl rfl rfl (by simp only [Fits]; omega)) ?_) | refine wl (wl_val hl rfl trivial (r_addW hl rfl rfl) ?_)
                      clear hl a; intro a hl
                      refine wl (wl_val hl rfl trivial (r_assign hl rfl) ?_)
                      clear hl a; intro a hl
                      refine w_nil ?_
                      have hl2 := hl.add (t := 0) (hl.add (t := 4) (hl.add (t := 7) (hl.add (t := 8) (hl.add (t := 9) (hl.add (t := 10) (hl.add (t := 11) (hl.add (t := 12) (hl.add (t := 13) (hl.add (t := 14) (hl.add (t := 15) (hl.nil) rfl) rfl) rfl) rfl) rfl) rfl) rfl) rfl) rfl) rfl) rfl; clear hl; have hl := hl2; clear hl2
                      refine then_normal ?_
                      refine ⟨⟨gE, goE, ME, i + 1, mE⟩, (by simp only; omega), ⟨by simp only; omega, hIE⟩, hl.addE (t := 15) (hl.addE (t := 14) (hl.addE (t := 0) (hl.addE (t := 4) (hl.addE (t := 7) (hl.addE (t := 8) (hl.addE (t := 9) (hl.addE (t := 10) (hl.addE (t := 11) (hl.addE (t := 12) (hl.addE (t := 13) (hl.nil) rfl (by first | rfl | (congr 1; omega))) rfl (by first | rfl | (congr 1; omega))) rfl (by first | rfl | (congr 1; omega))) rfl (by first | rfl | (congr 1; omega))) rfl (by first | rfl | (congr 1; omega))) rfl (by first | rfl | (congr 1; omega))) rfl (by first | rfl | (congr 1; omega))) rfl (by first | rfl | (congr 1; omega))) rfl (by first | rfl | (congr 1; omega))) rfl (by first | rfl | (congr 1; omega))) rfl (by first | rfl | (congr 1; omega)), hh.keep (by repeat (first | exact keeps_nil | apply keeps_cons (by repeat (first | exact find_head | apply find_tail | apply find_skip)) (by first  | rfl) | exact keeps_self | exact keeps_left | apply keeps_app | apply keeps_mv | apply keeps_skip))⟩
                · intro hc7
                  try simp only [decide_eq_true_eq, decide_eq_false_iff_not, Bool.not_eq_true', Bool.not_eq_false', Bool.not_eq_true, Bool.not_eq_false, Bool.and_eq_true, Bool.or_eq_true, Bool.and_eq_false_iff, Bool.or_eq_false_iff, Bool.not_not, ne_eq, Int.not_lt, Int.not_le, Decidable.not_not, beq_iff_eq, bne_iff_ne] at hc7
                  have hi0 : i = 16 := by omega
                  subst hi0
                  refine wp_exit ?_
                  refine then_exit ?_
                  refine then_exit ?_
                  refine blk_exit ?_
                  refine then_normal ?_
                  refine c_seq ?_
                  refine c_region ?_
                  refine wl (wl_val hl rfl trivial (r_move hl rfl) ?_)
                  clear hl a; intro a hl
                  refine wl (wl_val hl rfl trivial (r_move hl rfl) ?_)
                  clear hl a; intro a hl
                  refine wl (wl_val hl rfl trivial (r_build hl rfl zero39 bld39 (by simp only [fillL, setL, List.getElem?_cons_zero, List.getElem?_cons_succ, Value.cells, List.take_zero, List.take_succ_cons, List.take_nil, List.drop_zero, List.drop_succ_cons, List.drop_nil, List.length_cons, List.length_nil, List.cons_append, List.nil_append, List.append_nil, Nat.zero_add, Nat.add_zero, Nat.reduceAdd, Nat.reduceBEq, Nat.reduceEqDiff, Nat.ble, BEq.rfl, Bool.and_true, Bool.and_self, cond_true, beq_self_eq_true]; rfl)) ?_)
                  clear hl a; intro a hl
                  refine wl (w_storeA hl hh trivial agg39 rfl rfl (by repeat (first | exact find_head | apply find_tail | apply find_skip)) (by first | rfl | (simp; done)) (by first | (simp; done) | (simp; omega) | (rw [arrL_length]; omega)) (by first | rfl | (simp; done)) (by first | exact md_sep hi16 | (simp only [setL, List.getElem?_cons_zero, List.getElem?_cons_succ, Value.cells, List.take_zero, List.take_succ_cons, List.take_nil, List.drop_zero, List.drop_succ_cons, List.drop_nil, List.length_cons, List.length_nil, List.cons_append, List.nil_append, List.append_nil, Nat.zero_add, Nat.add_zero, Nat.reduceAdd, Nat.reduceBEq, Nat.reduceEqDiff, Nat.ble, BEq.rfl, Bool.and_true, Bool.and_self, cond_true, beq_self_eq_true]; rfl)) ?_)
                  clear hh w; intro w hh
                  refine w_nil ?_
                  have hl2 := hl.add (t := 4) (hl.nil) rfl; clear hl; have hl := hl2; clear hl2
                  refine then_normal ?_
                  refine wp_ret ?_
                  refine f_retC (F' := (mdL bd q.M)) hl hh rfl rfl agg39 (by repeat (first | exact find_head | apply find_tail | apply find_skip)) (by first | rfl | exact arrL_length _ _ | (simp; done)) (by repeat (first | exact keeps_nil | apply keeps_cons (by repeat (first | exact find_head | apply find_tail | apply find_skip)) (by first  | rfl) | exact keeps_self | exact keeps_left | apply keeps_app | apply keeps_mv | apply keeps_skip)) ?_
                  obtain ⟨h1, h2⟩ := hI.all
                  rw [hSt.eq, h2]
                  exact ⟨rfl, q.got, q.M, rfl, h1.mono (by omega) (by omega)⟩
            · intro hg2; clear hl; intro hl
              try simp only [decide_eq_true_eq, decide_eq_false_iff_not, Bool.not_eq_true', Bool.not_eq_false', Bool.not_eq_true, Bool.not_eq_false, Bool.and_eq_true, Bool.or_eq_true, Bool.and_eq_false_iff, Bool.or_eq_false_iff, Bool.not_not, ne_eq, Int.not_lt, Int.not_le, Decidable.not_not, beq_iff_eq, bne_iff_ne] at hg2
              exfalso; first | contradiction | omega
        · intro hg1; clear hl; intro hl
          try simp only [decide_eq_true_eq, decide_eq_false_iff_not, Bool.not_eq_true', Bool.not_eq_false', Bool.not_eq_true, Bool.not_eq_false, Bool.and_eq_true, Bool.or_eq_true, Bool.and_eq_false_iff, Bool.or_eq_false_iff, Bool.not_not, ne_eq, Int.not_lt, Int.not_le, Decidable.not_not, beq_iff_eq, bne_iff_ne] at hg1
          exfalso; first | contradiction | omega
end Go.Proofs.Qxb6500911aGreatDoor

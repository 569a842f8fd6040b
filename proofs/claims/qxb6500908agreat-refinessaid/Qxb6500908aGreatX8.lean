import Derived.Test.Qxb6500908aGreatX7
namespace Go.Proofs.Qxb6500908aGreat
open Go.Eng
set_option linter.unusedVariables false
set_option linter.unusedSimpArgs false
theorem cal24 : callable Tryz.prog 24 = true := by kernel_rfl
theorem agg45 : aggOk Tryz.prog 45 18 = true := by kernel_rfl
theorem cal25 : callable Tryz.prog 25 = true := by kernel_rfl
theorem cal26 : callable Tryz.prog 26 = true := by kernel_rfl
attribute [local irreducible] postP

theorem stub_ok {Z : List (Nat × Obj)} {W : WoV} (hW : W.ok Z) {i db : Nat} {d : DeV} (hx : W.ds[i]? = some (db, d)) (b : Bool) : WoV.ok Z { W with ds := W.ds.set i (db, { d with sb := b }) } := by
  have h1 := hW.dl
  have hd := hW.ds _ (List.mem_of_getElem? hx)
  refine WoV.ok.mk hW.l hW.g (by show (W.ds.set _ _).length = 16; rw [List.length_set]; exact h1) (fun y hy => ?_) hW.t hW.to hW.tl hW.r hW.ro hW.rl
  have hy : y ∈ W.ds.set i (db, { d with sb := b }) := hy
  rcases mem_set9 hy with h9 | h9
  · exact hW.ds y h9
  · rw [h9]; exact ⟨hd.id, hd.ep, hd.rn, hd.sg, hd.fm⟩
theorem stub_K {lb wb : Nat} {L : LawM lb wb} {Q : LawJ L} {W : WoV} {x : L.X} {i db : Nat} {d : DeV} (hx : W.ds[i]? = some (db, d)) (b : Bool) (hK : Q.K (W.pl [] []) x) : Q.K (WoV.pl { W with ds := W.ds.set i (db, { d with sb := b }) } [] []) x := by
  have h := Q.stub (i := i) (d := d.pl) b hK (by show (W.ds.map _)[i]? = _; rw [List.getElem?_map, hx]; rfl)
  have e : WoV.pl { W with ds := W.ds.set i (db, { d with sb := b }) } [] [] = { W.pl [] [] with dv := (W.pl [] []).dv.set i { d.pl with sb := b } } := by
    unfold WoV.pl
    simp only [WoP.mk.injEq, true_and, and_true]
    rw [List.map_set]; rfl
  rw [e]; exact h
theorem led_ok {Z : List (Nat × Obj)} {W : WoV} (hW : W.ok Z) {l' : LdV} (hl : l'.ok Z) : WoV.ok Z { W with l := l' } := ⟨hl, hW.g, hW.dl, hW.ds, hW.t, hW.to, hW.tl, hW.r, hW.ro, hW.rl⟩
theorem dead_ok {Z : List (Nat × Obj)} {W : WoV} (hW : W.ok Z) {l' : LdV} (hl : l'.ok Z) : WoV.ok Z { W with l := l', g := none } := ⟨hl, fun y hy => (by cases hy), hW.dl, hW.ds, hW.t, hW.to, hW.tl, hW.r, hW.ro, hW.rl⟩

attribute [local irreducible] NtV.k StV.c LdV.c StV.E GtV.c GtV.t orB sh1 WoV.c wst

set_option maxHeartbeats 8000000 in
theorem step_dbl0 {lb wb : Nat} (L : LawM lb wb) (Q : LawJ L) (Z : List (Nat × Obj)) (W : WoV) (hW : W.ok Z) (n : Nat) (hn9 : n + 200 < 1000000000) (x : L.X) (Fx : List (Nat × Obj)) (hMx : L.M Z x Fx) (hJ : Q.J (W.pl [] []) x) (hn : WI n (W.pl [] [])) (o : OpP) (p : Option Addr) (cap : Nat) (ho : OpOk Z o p cap) (hk : o.k = 9) (hb : oddP o.B = false) : Sp Tryz.prog 12 #[.pointer (some ⟨wb, 0, none⟩), .agg ⟨opC o p cap⟩, Lw L.T lb] (Fx ++ WoV.F wb W Z) (fun v F' => StepO Q Z n v F') := by
  refine f_enter (args := [.pointer (some ⟨wb, 0, none⟩), .agg ⟨[.int .u8 o.k, .int .i64 o.A, .int .i64 o.B, .slice p o.tx.length cap, .int .u8 o.m.k, .int .u8 o.m.d, .int .u32 o.m.e, .int .u32 o.m.b, .bool o.m.y, .int .u32 o.m.r, .int .u32 o.m.s, .string o.m.t, .int .u8 o.v.k, .int .u8 o.v.a, .int .u8 o.v.b, .int .u8 o.v.w, .int .u8 o.v.da, .int .u8 o.v.dl]⟩, .iface L.T (.pointer (some ⟨lb, 0, none⟩))]) Tryz.func12 rfl Tryz.ntmps12 rfl ?_
  intro w0 w a hpre hl hh
  generalize hDD : List.map Prod.fst (Fx ++ WoV.F wb W Z) = D at hh ⊢
  simp only [WoV.F] at hh
  have hct := wc_td W hW.dl
  have hcr := wc_tg W hW.dl
  have hch := wc_hn W hW.dl
  have hcl := wc_led W
  have hwl := wc_len W hW.dl
  have ho1 := ho.k
  have ho2 := ho.A
  have ho3 := ho.B
  have htl := hW.tl
  have hrl := hW.rl
  
  simp only [slotsFrom, Nat.reduceAdd] at hl
  refine c_seq ?_
  refine c_region ?_
  refine wl (w_box hl hh rfl trivial rfl rfl ?_)
  clear hl hh a w; intro k4 a w hl hh
  refine wl (wl_val hl rfl trivial (r_assign hl rfl) ?_)
  clear hl a; intro a hl
  refine w_nil ?_
  have hl2 := hl.add (t := 0) (hl.add (t := 2) (hl.add (t := 4) (hl.nil) rfl) rfl) rfl; clear hl; have hl := hl2; clear hl2
  refine then_normal ?_
  refine c_seq ?_
  refine c_region ?_
  refine wl (wl_val hl rfl trivial (r_move hl rfl) ?_)
  clear hl a; intro a hl
  refine wl (wl_val hl rfl trivial (r_nilCheck hl rfl) ?_)
  clear hl a; intro a hl
  refine wl (wl_val hl rfl trivial (r_field hl rfl fld55_3) ?_)
  clear hl a; intro a hl
  refine wl (wl_val hl rfl trivial (r_assign hl rfl) ?_)
  clear hl a; intro a hl
  refine w_nil ?_
  have hl2 := hl.add (t := 0) (hl.add (t := 2) (hl.add (t := 4) (hl.add (t := 7) (hl.nil) rfl) rfl) rfl) rfl; clear hl; have hl := hl2; clear hl2
  refine then_normal ?_
  refine c_seq ?_
  refine c_seq ?_
  refine c_region ?_
  refine wl (wl_val hl rfl trivial (r_field hl rfl fld45_2) ?_)
  clear hl a; intro a hl
  refine wl (w_load hl hh rfl trivial one3 rfl (by repeat (first | exact find_head | apply find_tail | apply find_skip)) (by first | exact hct | exact hcr | exact hch | exact hcl | rfl) ?_)
  clear hl a; intro a hl
  refine wl (w_call hl hh rfl trivial rfl cal18 rfl (odd_spec _ (by omega)) (by repeat (first | exact keeps_nil | apply keeps_cons (by repeat (first | exact find_head | apply find_tail | apply find_skip)) (by first  | rfl) | exact keeps_self | exact keeps_left | apply keeps_app | apply keeps_mv | apply keeps_skip)) trivial ?_)
  clear hl hh a w; intro vc Fc a w hR hl hh
  obtain ⟨rfl, rfl⟩ := hR
  try simp only [List.cons_append, List.nil_append, List.append_assoc, List.append_nil] at hh
  refine w_nil ?_
  have hl2 := hl.add (t := 0) (hl.add (t := 2) (hl.add (t := 4) (hl.add (t := 7) (hl.add (t := 13) (hl.nil) rfl) rfl) rfl) rfl) rfl; clear hl; have hl := hl2; clear hl2
  refine then_normal ?_
  refine c_cond hl rfl ?_ ?_
  · intro hc0
    try simp only [decide_eq_true_eq, decide_eq_false_iff_not, Bool.not_eq_true', Bool.not_eq_false', Bool.not_eq_true, Bool.not_eq_false, Bool.and_eq_true, Bool.or_eq_true, Bool.and_eq_false_iff, Bool.or_eq_false_iff, Bool.not_not, ne_eq, Int.not_lt, Int.not_le, Decidable.not_not, beq_iff_eq, bne_iff_ne] at hc0
    exfalso; first | contradiction | omega | (rw [hb] at hc0; simp at hc0)
  · intro hc0
    try simp only [decide_eq_true_eq, decide_eq_false_iff_not, Bool.not_eq_true', Bool.not_eq_false', Bool.not_eq_true, Bool.not_eq_false, Bool.and_eq_true, Bool.or_eq_true, Bool.and_eq_false_iff, Bool.or_eq_false_iff, Bool.not_not, ne_eq, Int.not_lt, Int.not_le, Decidable.not_not, beq_iff_eq, bne_iff_ne] at hc0
    refine wp_skip ?_
    refine then_normal ?_
    refine c_seq ?_
    refine c_seq ?_
    refine c_region ?_
    refine wl (wl_val hl rfl trivial (r_field hl rfl fld45_0) ?_)
    clear hl a; intro a hl
    refine wl (w_load hl hh rfl trivial one33 rfl (by repeat (first | exact find_head | apply find_tail | apply find_skip)) (by first | exact hct | exact hcr | exact hch | exact hcl | rfl) ?_)
    clear hl a; intro a hl
    refine w_nil ?_
    have hl2 := hl.add (t := 0) (hl.add (t := 2) (hl.add (t := 4) (hl.add (t := 7) (hl.add (t := 18) (hl.nil) rfl) rfl) rfl) rfl) rfl; clear hl; have hl := hl2; clear hl2
    refine then_normal ?_
    refine wp_block ?_
    refine c_seq ?_
    refine c_region ?_
    refine wl (wl_val hl rfl trivial (r_eql hl rfl rfl) ?_)
    clear hl a; intro a hl
    refine wl (wl_val hl rfl trivial (r_assign hl rfl) ?_)
    clear hl a; intro a hl
    refine w_nil ?_
    have hl2 := hl.add (t := 0) (hl.add (t := 2) (hl.add (t := 4) (hl.add (t := 7) (hl.add (t := 18) (hl.add (t := 19) (hl.nil) rfl) rfl) rfl) rfl) rfl) rfl; clear hl; have hl := hl2; clear hl2
    refine then_normal ?_
    refine c_cond hl rfl ?_ ?_
    · intro hc1
      try simp only [decide_eq_true_eq, decide_eq_false_iff_not, Bool.not_eq_true', Bool.not_eq_false', Bool.not_eq_true, Bool.not_eq_false, Bool.and_eq_true, Bool.or_eq_true, Bool.and_eq_false_iff, Bool.or_eq_false_iff, Bool.not_not, ne_eq, Int.not_lt, Int.not_le, Decidable.not_not, beq_iff_eq, bne_iff_ne] at hc1
      exfalso; first | contradiction | omega | (rw [hb] at hc0; simp at hc0)
    · intro hc1
      try simp only [decide_eq_true_eq, decide_eq_false_iff_not, Bool.not_eq_true', Bool.not_eq_false', Bool.not_eq_true, Bool.not_eq_false, Bool.and_eq_true, Bool.or_eq_true, Bool.and_eq_false_iff, Bool.or_eq_false_iff, Bool.not_not, ne_eq, Int.not_lt, Int.not_le, Decidable.not_not, beq_iff_eq, bne_iff_ne] at hc1
      refine c_seq ?_
      refine c_seq ?_
      refine c_region ?_
      refine wl (wl_val hl rfl trivial (r_eql hl rfl rfl) ?_)
      clear hl a; intro a hl
      refine wl (wl_val hl rfl trivial (r_assign hl rfl) ?_)
      clear hl a; intro a hl
      refine w_nil ?_
      have hl2 := hl.add (t := 0) (hl.add (t := 2) (hl.add (t := 4) (hl.add (t := 7) (hl.add (t := 18) (hl.add (t := 27) (hl.nil) rfl) rfl) rfl) rfl) rfl) rfl; clear hl; have hl := hl2; clear hl2
      refine then_normal ?_
      refine c_cond hl rfl ?_ ?_
      · intro hc2
        try simp only [decide_eq_true_eq, decide_eq_false_iff_not, Bool.not_eq_true', Bool.not_eq_false', Bool.not_eq_true, Bool.not_eq_false, Bool.and_eq_true, Bool.or_eq_true, Bool.and_eq_false_iff, Bool.or_eq_false_iff, Bool.not_not, ne_eq, Int.not_lt, Int.not_le, Decidable.not_not, beq_iff_eq, bne_iff_ne] at hc2
        exfalso; first | contradiction | omega | (rw [hb] at hc0; simp at hc0)
      · intro hc2
        try simp only [decide_eq_true_eq, decide_eq_false_iff_not, Bool.not_eq_true', Bool.not_eq_false', Bool.not_eq_true, Bool.not_eq_false, Bool.and_eq_true, Bool.or_eq_true, Bool.and_eq_false_iff, Bool.or_eq_false_iff, Bool.not_not, ne_eq, Int.not_lt, Int.not_le, Decidable.not_not, beq_iff_eq, bne_iff_ne] at hc2
        refine c_region ?_
        refine wl (wl_val hl rfl trivial (r_eql hl rfl rfl) ?_)
        clear hl a; intro a hl
        refine wl (wl_val hl rfl trivial (r_assign hl rfl) ?_)
        clear hl a; intro a hl
        refine w_nil ?_
        have hl2 := hl.add (t := 0) (hl.add (t := 2) (hl.add (t := 4) (hl.add (t := 7) (hl.add (t := 18) (hl.add (t := 27) (hl.nil) rfl) rfl) rfl) rfl) rfl) rfl; clear hl; have hl := hl2; clear hl2
        refine then_normal ?_
        refine c_cond hl rfl ?_ ?_
        · intro hc3
          try simp only [decide_eq_true_eq, decide_eq_false_iff_not, Bool.not_eq_true', Bool.not_eq_false', Bool.not_eq_true, Bool.not_eq_false, Bool.and_eq_true, Bool.or_eq_true, Bool.and_eq_false_iff, Bool.or_eq_false_iff, Bool.not_not, ne_eq, Int.not_lt, Int.not_le, Decidable.not_not, beq_iff_eq, bne_iff_ne] at hc3
          exfalso; first | contradiction | omega | (rw [hb] at hc0; simp at hc0)
        · intro hc3
          try simp only [decide_eq_true_eq, decide_eq_false_iff_not, Bool.not_eq_true', Bool.not_eq_false', Bool.not_eq_true, Bool.not_eq_false, Bool.and_eq_true, Bool.or_eq_true, Bool.and_eq_false_iff, Bool.or_eq_false_iff, Bool.not_not, ne_eq, Int.not_lt, Int.not_le, Decidable.not_not, beq_iff_eq, bne_iff_ne] at hc3
          refine c_seq ?_
          refine c_seq ?_
          refine c_region ?_
          refine wl (wl_val hl rfl trivial (r_eql hl rfl rfl) ?_)
          clear hl a; intro a hl
          refine wl (wl_val hl rfl trivial (r_assign hl rfl) ?_)
          clear hl a; intro a hl
          refine w_nil ?_
          have hl2 := hl.add (t := 0) (hl.add (t := 2) (hl.add (t := 4) (hl.add (t := 7) (hl.add (t := 18) (hl.add (t := 39) (hl.nil) rfl) rfl) rfl) rfl) rfl) rfl; clear hl; have hl := hl2; clear hl2
          refine then_normal ?_
          refine c_cond hl rfl ?_ ?_
          · intro hc4
            try simp only [decide_eq_true_eq, decide_eq_false_iff_not, Bool.not_eq_true', Bool.not_eq_false', Bool.not_eq_true, Bool.not_eq_false, Bool.and_eq_true, Bool.or_eq_true, Bool.and_eq_false_iff, Bool.or_eq_false_iff, Bool.not_not, ne_eq, Int.not_lt, Int.not_le, Decidable.not_not, beq_iff_eq, bne_iff_ne] at hc4
            exfalso; first | contradiction | omega | (rw [hb] at hc0; simp at hc0)
          · intro hc4
            try simp only [decide_eq_true_eq, decide_eq_false_iff_not, Bool.not_eq_true', Bool.not_eq_false', Bool.not_eq_true, Bool.not_eq_false, Bool.and_eq_true, Bool.or_eq_true, Bool.and_eq_false_iff, Bool.or_eq_false_iff, Bool.not_not, ne_eq, Int.not_lt, Int.not_le, Decidable.not_not, beq_iff_eq, bne_iff_ne] at hc4
            refine c_region ?_
            refine wl (wl_val hl rfl trivial (r_eql hl rfl rfl) ?_)
            clear hl a; intro a hl
            refine wl (wl_val hl rfl trivial (r_assign hl rfl) ?_)
            clear hl a; intro a hl
            refine w_nil ?_
            have hl2 := hl.add (t := 0) (hl.add (t := 2) (hl.add (t := 4) (hl.add (t := 7) (hl.add (t := 18) (hl.add (t := 39) (hl.nil) rfl) rfl) rfl) rfl) rfl) rfl; clear hl; have hl := hl2; clear hl2
            refine then_normal ?_
            refine c_cond hl rfl ?_ ?_
            · intro hc5
              try simp only [decide_eq_true_eq, decide_eq_false_iff_not, Bool.not_eq_true', Bool.not_eq_false', Bool.not_eq_true, Bool.not_eq_false, Bool.and_eq_true, Bool.or_eq_true, Bool.and_eq_false_iff, Bool.or_eq_false_iff, Bool.not_not, ne_eq, Int.not_lt, Int.not_le, Decidable.not_not, beq_iff_eq, bne_iff_ne] at hc5
              exfalso; first | contradiction | omega | (rw [hb] at hc0; simp at hc0)
            · intro hc5
              try simp only [decide_eq_true_eq, decide_eq_false_iff_not, Bool.not_eq_true', Bool.not_eq_false', Bool.not_eq_true, Bool.not_eq_false, Bool.and_eq_true, Bool.or_eq_true, Bool.and_eq_false_iff, Bool.or_eq_false_iff, Bool.not_not, ne_eq, Int.not_lt, Int.not_le, Decidable.not_not, beq_iff_eq, bne_iff_ne] at hc5
              refine c_seq ?_
              refine c_region ?_
              refine wl (wl_val hl rfl trivial (r_eql hl rfl rfl) ?_)
              clear hl a; intro a hl
              refine wl (wl_val hl rfl trivial (r_assign hl rfl) ?_)
              clear hl a; intro a hl
              refine w_nil ?_
              have hl2 := hl.add (t := 0) (hl.add (t := 2) (hl.add (t := 4) (hl.add (t := 7) (hl.add (t := 18) (hl.add (t := 50) (hl.nil) rfl) rfl) rfl) rfl) rfl) rfl; clear hl; have hl := hl2; clear hl2
              refine then_normal ?_
              refine c_cond hl rfl ?_ ?_
              · intro hc6
                try simp only [decide_eq_true_eq, decide_eq_false_iff_not, Bool.not_eq_true', Bool.not_eq_false', Bool.not_eq_true, Bool.not_eq_false, Bool.and_eq_true, Bool.or_eq_true, Bool.and_eq_false_iff, Bool.or_eq_false_iff, Bool.not_not, ne_eq, Int.not_lt, Int.not_le, Decidable.not_not, beq_iff_eq, bne_iff_ne] at hc6
                exfalso; first | contradiction | omega | (rw [hb] at hc0; simp at hc0)
              · intro hc6
                try simp only [decide_eq_true_eq, decide_eq_false_iff_not, Bool.not_eq_true', Bool.not_eq_false', Bool.not_eq_true, Bool.not_eq_false, Bool.and_eq_true, Bool.or_eq_true, Bool.and_eq_false_iff, Bool.or_eq_false_iff, Bool.not_not, ne_eq, Int.not_lt, Int.not_le, Decidable.not_not, beq_iff_eq, bne_iff_ne] at hc6
                refine c_seq ?_
                refine c_region ?_
                refine wl (wl_val hl rfl trivial (r_eql hl rfl rfl) ?_)
                clear hl a; intro a hl
                refine wl (wl_val hl rfl trivial (r_assign hl rfl) ?_)
                clear hl a; intro a hl
                refine w_nil ?_
                have hl2 := hl.add (t := 0) (hl.add (t := 2) (hl.add (t := 4) (hl.add (t := 7) (hl.add (t := 18) (hl.add (t := 62) (hl.nil) rfl) rfl) rfl) rfl) rfl) rfl; clear hl; have hl := hl2; clear hl2
                refine then_normal ?_
                refine c_cond hl rfl ?_ ?_
                · intro hc7
                  try simp only [decide_eq_true_eq, decide_eq_false_iff_not, Bool.not_eq_true', Bool.not_eq_false', Bool.not_eq_true, Bool.not_eq_false, Bool.and_eq_true, Bool.or_eq_true, Bool.and_eq_false_iff, Bool.or_eq_false_iff, Bool.not_not, ne_eq, Int.not_lt, Int.not_le, Decidable.not_not, beq_iff_eq, bne_iff_ne] at hc7
                  exfalso; first | contradiction | omega | (rw [hb] at hc0; simp at hc0)
                · intro hc7
                  try simp only [decide_eq_true_eq, decide_eq_false_iff_not, Bool.not_eq_true', Bool.not_eq_false', Bool.not_eq_true, Bool.not_eq_false, Bool.and_eq_true, Bool.or_eq_true, Bool.and_eq_false_iff, Bool.or_eq_false_iff, Bool.not_not, ne_eq, Int.not_lt, Int.not_le, Decidable.not_not, beq_iff_eq, bne_iff_ne] at hc7
                  refine c_seq ?_
                  refine c_region ?_
                  refine wl (wl_val hl rfl trivial (r_eql hl rfl rfl) ?_)
                  clear hl a; intro a hl
                  refine wl (wl_val hl rfl trivial (r_assign hl rfl) ?_)
                  clear hl a; intro a hl
                  refine w_nil ?_
                  have hl2 := hl.add (t := 0) (hl.add (t := 2) (hl.add (t := 4) (hl.add (t := 7) (hl.add (t := 18) (hl.add (t := 68) (hl.nil) rfl) rfl) rfl) rfl) rfl) rfl; clear hl; have hl := hl2; clear hl2
                  refine then_normal ?_
                  refine c_cond hl rfl ?_ ?_
                  · intro hc8
                    try simp only [decide_eq_true_eq, decide_eq_false_iff_not, Bool.not_eq_true', Bool.not_eq_false', Bool.not_eq_true, Bool.not_eq_false, Bool.and_eq_true, Bool.or_eq_true, Bool.and_eq_false_iff, Bool.or_eq_false_iff, Bool.not_not, ne_eq, Int.not_lt, Int.not_le, Decidable.not_not, beq_iff_eq, bne_iff_ne] at hc8
                    exfalso; first | contradiction | omega | (rw [hb] at hc0; simp at hc0)
                  · intro hc8
                    try simp only [decide_eq_true_eq, decide_eq_false_iff_not, Bool.not_eq_true', Bool.not_eq_false', Bool.not_eq_true, Bool.not_eq_false, Bool.and_eq_true, Bool.or_eq_true, Bool.and_eq_false_iff, Bool.or_eq_false_iff, Bool.not_not, ne_eq, Int.not_lt, Int.not_le, Decidable.not_not, beq_iff_eq, bne_iff_ne] at hc8
                    refine c_seq ?_
                    refine c_region ?_
                    refine wl (wl_val hl rfl trivial (r_eql hl rfl rfl) ?_)
                    clear hl a; intro a hl
                    refine wl (wl_val hl rfl trivial (r_assign hl rfl) ?_)
                    clear hl a; intro a hl
                    refine w_nil ?_
                    have hl2 := hl.add (t := 0) (hl.add (t := 2) (hl.add (t := 4) (hl.add (t := 7) (hl.add (t := 18) (hl.add (t := 90) (hl.nil) rfl) rfl) rfl) rfl) rfl) rfl; clear hl; have hl := hl2; clear hl2
                    refine then_normal ?_
                    refine c_cond hl rfl ?_ ?_
                    · intro hc10
                      try simp only [decide_eq_true_eq, decide_eq_false_iff_not, Bool.not_eq_true', Bool.not_eq_false', Bool.not_eq_true, Bool.not_eq_false, Bool.and_eq_true, Bool.or_eq_true, Bool.and_eq_false_iff, Bool.or_eq_false_iff, Bool.not_not, ne_eq, Int.not_lt, Int.not_le, Decidable.not_not, beq_iff_eq, bne_iff_ne] at hc10
                      exfalso; first | contradiction | omega | (rw [hb] at hc0; simp at hc0)
                    · intro hc10
                      try simp only [decide_eq_true_eq, decide_eq_false_iff_not, Bool.not_eq_true', Bool.not_eq_false', Bool.not_eq_true, Bool.not_eq_false, Bool.and_eq_true, Bool.or_eq_true, Bool.and_eq_false_iff, Bool.or_eq_false_iff, Bool.not_not, ne_eq, Int.not_lt, Int.not_le, Decidable.not_not, beq_iff_eq, bne_iff_ne] at hc10
                      refine c_seq ?_
                      refine c_region ?_
                      refine wl (wl_val hl rfl trivial (r_eql hl rfl rfl) ?_)
                      clear hl a; intro a hl
                      refine wl (wl_val hl rfl trivial (r_assign hl rfl) ?_)
                      clear hl a; intro a hl
                      refine w_nil ?_
                      have hl2 := hl.add (t := 0) (hl.add (t := 2) (hl.add (t := 4) (hl.add (t := 7) (hl.add (t := 18) (hl.add (t := 114) (hl.nil) rfl) rfl) rfl) rfl) rfl) rfl; clear hl; have hl := hl2; clear hl2
                      refine then_normal ?_
                      refine c_cond hl rfl ?_ ?_
                      · intro hc12
                        try simp only [decide_eq_true_eq, decide_eq_false_iff_not, Bool.not_eq_true', Bool.not_eq_false', Bool.not_eq_true, Bool.not_eq_false, Bool.and_eq_true, Bool.or_eq_true, Bool.and_eq_false_iff, Bool.or_eq_false_iff, Bool.not_not, ne_eq, Int.not_lt, Int.not_le, Decidable.not_not, beq_iff_eq, bne_iff_ne] at hc12
                        exfalso; first | contradiction | omega | (rw [hb] at hc0; simp at hc0)
                      · intro hc12
                        try simp only [decide_eq_true_eq, decide_eq_false_iff_not, Bool.not_eq_true', Bool.not_eq_false', Bool.not_eq_true, Bool.not_eq_false, Bool.and_eq_true, Bool.or_eq_true, Bool.and_eq_false_iff, Bool.or_eq_false_iff, Bool.not_not, ne_eq, Int.not_lt, Int.not_le, Decidable.not_not, beq_iff_eq, bne_iff_ne] at hc12
                        refine c_seq ?_
                        refine c_region ?_
                        refine wl (wl_val hl rfl trivial (r_eql hl rfl rfl) ?_)
                        clear hl a; intro a hl
                        refine wl (wl_val hl rfl trivial (r_assign hl rfl) ?_)
                        clear hl a; intro a hl
                        refine w_nil ?_
                        have hl2 := hl.add (t := 0) (hl.add (t := 2) (hl.add (t := 4) (hl.add (t := 7) (hl.add (t := 18) (hl.add (t := 130) (hl.nil) rfl) rfl) rfl) rfl) rfl) rfl; clear hl; have hl := hl2; clear hl2
                        refine then_normal ?_
                        refine c_cond hl rfl ?_ ?_
                        · intro hc14
                          try simp only [decide_eq_true_eq, decide_eq_false_iff_not, Bool.not_eq_true', Bool.not_eq_false', Bool.not_eq_true, Bool.not_eq_false, Bool.and_eq_true, Bool.or_eq_true, Bool.and_eq_false_iff, Bool.or_eq_false_iff, Bool.not_not, ne_eq, Int.not_lt, Int.not_le, Decidable.not_not, beq_iff_eq, bne_iff_ne] at hc14
                          refine c_seq ?_
                          refine c_region ?_
                          refine wl (wl_val hl rfl trivial (r_move hl rfl) ?_)
                          clear hl a; intro a hl
                          refine wl (wl_val hl rfl trivial (r_nilCheck hl rfl) ?_)
                          clear hl a; intro a hl
                          refine wl (w_load hl hh rfl trivial one53 rfl (by repeat (first | exact find_head | apply find_tail | apply find_skip)) (by first | exact hct | exact hcr | exact hch | exact hcl | rfl) ?_)
                          clear hl a; intro a hl
                          refine wl (wl_val hl rfl trivial (r_lenS hl rfl slc53) ?_)
                          clear hl a; intro a hl
                          refine wl (wl_val hl rfl trivial (r_gtr hl rfl rfl) ?_)
                          clear hl a; intro a hl
                          refine w_nil ?_
                          have hl2 := hl.add (t := 4) (hl.add (t := 7) (hl.add (t := 136) (hl.nil) rfl) rfl) rfl; clear hl; have hl := hl2; clear hl2
                          refine then_normal ?_
                          refine c_cond hl rfl ?_ ?_
                          · intro hc15
                            try simp only [decide_eq_true_eq, decide_eq_false_iff_not, Bool.not_eq_true', Bool.not_eq_false', Bool.not_eq_true, Bool.not_eq_false, Bool.and_eq_true, Bool.or_eq_true, Bool.and_eq_false_iff, Bool.or_eq_false_iff, Bool.not_not, ne_eq, Int.not_lt, Int.not_le, Decidable.not_not, beq_iff_eq, bne_iff_ne] at hc15
                            obtain ⟨b1, j1, hq1, hjl1, hjc1, hE1⟩ := row_pos hW.t (by omega)
                            rw [hE1] at hh
                            try simp only [List.cons_append, List.nil_append, List.append_assoc, List.append_nil] at hh
                            refine c_draw [(k4, C [.int .u8 o.k, .int .i64 o.A, .int .i64 o.B, .slice p o.tx.length cap, .int .u8 o.m.k, .int .u8 o.m.d, .int .u32 o.m.e, .int .u32 o.m.b, .bool o.m.y, .int .u32 o.m.r, .int .u32 o.m.s, .string o.m.t, .int .u8 o.v.k, .int .u8 o.v.a, .int .u8 o.v.b, .int .u8 o.v.w, .int .u8 o.v.da, .int .u8 o.v.dl] 45)] [14] mixed hh ?_
                            clear hh w; intro w hh
                            have hM : Mem [(k4, C [.int .u8 o.k, .int .i64 o.A, .int .i64 o.B, .slice p o.tx.length cap, .int .u8 o.m.k, .int .u8 o.m.d, .int .u32 o.m.e, .int .u32 o.m.b, .bool o.m.y, .int .u32 o.m.r, .int .u32 o.m.s, .string o.m.t, .int .u8 o.v.k, .int .u8 o.v.a, .int .u8 o.v.b, .int .u8 o.v.w, .int .u8 o.v.da, .int .u8 o.v.dl] 45)] w := (memK hh (by repeat (first | exact keeps_nil | apply keeps_cons (by repeat (first | exact find_head | apply find_tail | apply find_skip)) (by first  | rfl) | exact keeps_self | exact keeps_left | apply keeps_app | apply keeps_mv | apply keeps_skip)))
                            refine d_take (i := 0) hl rfl (by kernel_rfl) (by kernel_rfl) (by kernel_rfl) (by kernel_rfl) (by kernel_rfl) rfl trivial (fun _ _ _ h => h) hM (fun w hC => r_move hl rfl) rfl ?_
                            clear hl a; intro a hl
                            refine d_take (i := 1) hl rfl (by kernel_rfl) (by kernel_rfl) (by kernel_rfl) (by kernel_rfl) (by kernel_rfl) rfl trivial (fun _ _ _ h => h) hM (fun w hC => r_move hl rfl) rfl ?_
                            clear hl a; intro a hl
                            refine d_take (i := 2) hl rfl (by kernel_rfl) (by kernel_rfl) (by kernel_rfl) (by kernel_rfl) (by kernel_rfl) rfl trivial (fun _ _ _ h => h) hM (fun w hC => r_nilCheck hl rfl) rfl ?_
                            clear hl a; intro a hl
                            refine d_take (i := 4) hl rfl (by kernel_rfl) (by kernel_rfl) (by kernel_rfl) (by kernel_rfl) (by kernel_rfl) rfl trivial (fun _ _ _ h => h) hM (fun w hC => r_field hl rfl fld45_1) rfl ?_
                            clear hl a; intro a hl
                            refine d_take (i := 5) hl rfl (by kernel_rfl) (by kernel_rfl) (by kernel_rfl) (by kernel_rfl) (by kernel_rfl) rfl trivial (fun _ _ _ h => h) hM (fun w hC => r_loadC hl rfl one3 hC (by repeat (first | exact find_head | apply find_tail | apply find_skip)) (by first | exact hct | exact hcr | exact hch | exact hcl | rfl)) rfl ?_
                            clear hl a; intro a hl
                            refine d_take (i := 6) hl rfl (by kernel_rfl) (by kernel_rfl) (by kernel_rfl) (by kernel_rfl) (by kernel_rfl) rfl trivial (fun _ _ _ h => h) hM (fun w hC => r_move hl rfl) rfl ?_
                            clear hl a; intro a hl
                            refine d_take (i := 7) hl rfl (by kernel_rfl) (by kernel_rfl) (by kernel_rfl) (by kernel_rfl) (by kernel_rfl) rfl trivial (fun _ _ _ h => h) hM (fun w hC => r_nilCheck hl rfl) rfl ?_
                            clear hl a; intro a hl
                            refine d_two (i := 3) (j := 8) (by kernel_rfl) rfl rfl ?_ ?_
                            ·
                              try clear hM
                              refine id (w_load hl hh rfl trivial one53 rfl (by repeat (first | exact find_head | apply find_tail | apply find_skip)) (by first | exact hct | exact hcr | exact hch | exact hcl | rfl) ?_)
                              clear hl a; intro a hl
                              rw [hq1] at hl
                              have hM : Mem [(k4, C [.int .u8 o.k, .int .i64 o.A, .int .i64 o.B, .slice p o.tx.length cap, .int .u8 o.m.k, .int .u8 o.m.d, .int .u32 o.m.e, .int .u32 o.m.b, .bool o.m.y, .int .u32 o.m.r, .int .u32 o.m.s, .string o.m.t, .int .u8 o.v.k, .int .u8 o.v.a, .int .u8 o.v.b, .int .u8 o.v.w, .int .u8 o.v.da, .int .u8 o.v.dl] 45)] w := (memK hh (by repeat (first | exact keeps_nil | apply keeps_cons (by repeat (first | exact find_head | apply find_tail | apply find_skip)) (by first  | rfl) | exact keeps_self | exact keeps_left | apply keeps_app | apply keeps_mv | apply keeps_skip)))
                              refine d_step (fun _ => hM) ?_
                              refine d_one (i := 8) (by kernel_rfl) rfl ?_
                              try clear hM
                              refine id (w_load hl hh rfl trivial one53 rfl (by repeat (first | exact find_head | apply find_tail | apply find_skip)) (by first | exact hct | exact hcr | exact hch | exact hcl | rfl) ?_)
                              clear hl a; intro a hl
                              try rw [hq1] at hl
                              have hM : Mem [(k4, C [.int .u8 o.k, .int .i64 o.A, .int .i64 o.B, .slice p o.tx.length cap, .int .u8 o.m.k, .int .u8 o.m.d, .int .u32 o.m.e, .int .u32 o.m.b, .bool o.m.y, .int .u32 o.m.r, .int .u32 o.m.s, .string o.m.t, .int .u8 o.v.k, .int .u8 o.v.a, .int .u8 o.v.b, .int .u8 o.v.w, .int .u8 o.v.da, .int .u8 o.v.dl] 45)] w := (memK hh (by repeat (first | exact keeps_nil | apply keeps_cons (by repeat (first | exact find_head | apply find_tail | apply find_skip)) (by first  | rfl) | exact keeps_self | exact keeps_left | apply keeps_app | apply keeps_mv | apply keeps_skip)))
                              refine d_step (fun _ => hM) ?_
                              refine d_take (i := 9) hl rfl (by kernel_rfl) (by kernel_rfl) (by kernel_rfl) (by kernel_rfl) (by kernel_rfl) rfl trivial (fun _ _ _ h => h) hM (fun w hC => r_lenS hl rfl slc53) rfl ?_
                              clear hl a; intro a hl
                              refine d_one (i := 10) (by kernel_rfl) rfl ?_
                              try clear hM
                              refine id (w_call hl hh rfl trivial rfl cal22 rfl (mod_spec o.A (W.td.length : Int) (by omega) (by omega)) (by repeat (first | exact keeps_nil | apply keeps_cons (by repeat (first | exact find_head | apply find_tail | apply find_skip)) (by first  | rfl) | exact keeps_self | exact keeps_left | apply keeps_app | apply keeps_mv | apply keeps_skip)) trivial ?_)
                              clear hl hh a w; intro vc Fc a w hR hl hh
                              obtain ⟨rfl, rfl⟩ := hR
                              try simp only [List.cons_append, List.nil_append, List.append_assoc, List.append_nil] at hh
                              obtain ⟨i9, hi9, hi8⟩ := mod_nat o.A (show 0 < W.td.length by omega)
                              rw [hi9] at hl
                              obtain ⟨m, hm6⟩ : ∃ m, W.td[i9]? = some m := ⟨_, List.getElem?_eq_getElem hi8⟩
                              have hd1 := fl_at msc_len hm6 j1
                              have hM : Mem [(k4, C [.int .u8 o.k, .int .i64 o.A, .int .i64 o.B, .slice p o.tx.length cap, .int .u8 o.m.k, .int .u8 o.m.d, .int .u32 o.m.e, .int .u32 o.m.b, .bool o.m.y, .int .u32 o.m.r, .int .u32 o.m.s, .string o.m.t, .int .u8 o.v.k, .int .u8 o.v.a, .int .u8 o.v.b, .int .u8 o.v.w, .int .u8 o.v.da, .int .u8 o.v.dl] 45)] w := (memK hh (by repeat (first | exact keeps_nil | apply keeps_cons (by repeat (first | exact find_head | apply find_tail | apply find_skip)) (by first  | rfl) | exact keeps_self | exact keeps_left | apply keeps_app | apply keeps_mv | apply keeps_skip)))
                              refine d_step (fun _ => hM) ?_
                              refine d_take (i := 11) hl rfl (by kernel_rfl) (by kernel_rfl) (by kernel_rfl) (by kernel_rfl) (by kernel_rfl) rfl trivial (fun _ _ _ h => h) hM (fun w hC => r_indexS hl rfl rfl slc53 (by omega) (by omega) (by first | (simp only [Int.reduceToNat]; rfl) | exact toNat_add1 _ | exact toNat_add2 _ _ | exact toNat_emod _ _ | exact Int.toNat_natCast _ | rfl)) rfl ?_
                              clear hl a; intro a hl
                              refine d_one (i := 12) (by kernel_rfl) rfl ?_
                              try clear hM
                              refine id (w_loadA hl hh rfl trivial agg38 rfl (by repeat (first | exact find_head | apply find_tail | apply find_skip)) (by first | exact hd1 | rfl) (by rfl) ?_)
                              clear hl a; intro a hl
                              have hM : Mem [(k4, C [.int .u8 o.k, .int .i64 o.A, .int .i64 o.B, .slice p o.tx.length cap, .int .u8 o.m.k, .int .u8 o.m.d, .int .u32 o.m.e, .int .u32 o.m.b, .bool o.m.y, .int .u32 o.m.r, .int .u32 o.m.s, .string o.m.t, .int .u8 o.v.k, .int .u8 o.v.a, .int .u8 o.v.b, .int .u8 o.v.w, .int .u8 o.v.da, .int .u8 o.v.dl] 45)] w := (memK hh (by repeat (first | exact keeps_nil | apply keeps_cons (by repeat (first | exact find_head | apply find_tail | apply find_skip)) (by first  | rfl) | exact keeps_self | exact keeps_left | apply keeps_app | apply keeps_mv | apply keeps_skip)))
                              refine d_step (fun _ => hM) ?_
                              refine d_one (i := 13) (by kernel_rfl) rfl ?_
                              try clear hM
                              refine id (w_buildSlice hl hh rfl trivial app53 zero38 rfl rfl rfl rfl rfl (fill1 rfl (msc_len _)) ?_)
                              clear hl hh a w; intro k150 a w hl hh
                              have hM : Mem [(k4, C [.int .u8 o.k, .int .i64 o.A, .int .i64 o.B, .slice p o.tx.length cap, .int .u8 o.m.k, .int .u8 o.m.d, .int .u32 o.m.e, .int .u32 o.m.b, .bool o.m.y, .int .u32 o.m.r, .int .u32 o.m.s, .string o.m.t, .int .u8 o.v.k, .int .u8 o.v.a, .int .u8 o.v.b, .int .u8 o.v.w, .int .u8 o.v.da, .int .u8 o.v.dl] 45)] w := (memK hh (by repeat (first | exact keeps_nil | apply keeps_cons (by repeat (first | exact find_head | apply find_tail | apply find_skip)) (by first  | rfl) | exact keeps_self | exact keeps_left | apply keeps_app | apply keeps_mv | apply keeps_skip)))
                              refine d_step (fun _ => hM) ?_
                              refine d_one (i := 14) (by kernel_rfl) rfl ?_
                              try clear hM
                              refine id (w_call hl hh rfl trivial rfl cal17 rfl (post_spec wb W.c (0 + 18) W.td (some ⟨b1, 0, none⟩) W.tc [(b1, C (fl msc W.td ++ j1) 38)] (by rw [← hq1, ← hE1]; exact hW.t) (by rw [← hq1]; exact hct) hW.tl [m] (some ⟨k150, 0, none⟩) 1 [(k150, C (msc m) 38)] (row1b k150 m) (by simp)) (by repeat (first | exact keeps_nil | apply keeps_cons (by repeat (first | exact find_head | apply find_tail | apply find_skip)) (by first  | rfl) | exact keeps_self | exact keeps_left | apply keeps_app | apply keeps_mv | apply keeps_skip)) trivial ?_)
                              clear hl hh a w; intro vc Fc a w hR hl hh
                              obtain ⟨rfl, p6, c6, E6, hR6, rfl⟩ := hR
                              try simp only [List.cons_append, List.nil_append, List.append_assoc, List.append_nil] at hh
                              rw [wc_std W hW.dl p6 _ c6 E6] at hh
                              refine d_step (fun h => absurd h (by decide)) ?_
                              refine d_done (by kernel_rfl) ?_
                              try clear hM
                              have hl2 := hl.nil; clear hl; have hl := hl2; clear hl2
                              refine blk_normal ?_
                              refine then_normal ?_
                              refine c_seq ?_
                              refine c_region ?_
                              refine wl (wl_val hl rfl trivial (r_assign hl rfl) ?_)
                              clear hl a; intro a hl
                              refine w_nil ?_
                              have hl2 := hl.add (t := 6) (hl.nil) rfl; clear hl; have hl := hl2; clear hl2
                              refine then_normal ?_
                              refine wp_ret ?_
                              first
                              | (have hq := hR6; refine f_ret1 (F' := Fx ++ ((wb, C (WoV.c { W with td := postP W.td [m], tp := p6, tc := c6, tE := E6 }) 55) :: (E6 ++ (W.gE ++ (DsF W.ds ++ WoV.GF W Z))))) hl hh rfl rfl (by repeat (first | exact keeps_nil | apply keeps_cons (by repeat (first | exact find_head | apply find_tail | apply find_skip)) (by first  | rfl) | exact keeps_self | exact keeps_left | apply keeps_app | apply keeps_mv | apply keeps_skip)) ?_; exact StepO.same (W' := { W with td := postP W.td [m], tp := p6, tc := c6, tE := E6 }) (td_ok hW hR6 (fun m' h => post_in hm6 m' (.inl h)) (postP_len _ _)) (td_K (Q.jk hJ) (post_in hm6) p6 c6 E6) (hn.cg rfl rfl) hMx rfl)
                              | (refine f_ret1 (F' := Fx ++ ((wb, C W.c 55) :: (W.tE ++ (W.gE ++ (DsF W.ds ++ WoV.GF W Z))))) hl hh rfl rfl (by repeat (first | exact keeps_nil | apply keeps_cons (by repeat (first | exact find_head | apply find_tail | apply find_skip)) (by first  | rfl) | exact keeps_self | exact keeps_left | apply keeps_app | apply keeps_mv | apply keeps_skip)) ?_; exact StepO.same hW (Q.jk hJ) hn hMx rfl)
                            ·
                              try clear hM
                              refine id (w_load hl hh rfl trivial one53 rfl (by repeat (first | exact find_head | apply find_tail | apply find_skip)) (by first | exact hct | exact hcr | exact hch | exact hcl | rfl) ?_)
                              clear hl a; intro a hl
                              try rw [hq1] at hl
                              have hM : Mem [(k4, C [.int .u8 o.k, .int .i64 o.A, .int .i64 o.B, .slice p o.tx.length cap, .int .u8 o.m.k, .int .u8 o.m.d, .int .u32 o.m.e, .int .u32 o.m.b, .bool o.m.y, .int .u32 o.m.r, .int .u32 o.m.s, .string o.m.t, .int .u8 o.v.k, .int .u8 o.v.a, .int .u8 o.v.b, .int .u8 o.v.w, .int .u8 o.v.da, .int .u8 o.v.dl] 45)] w := (memK hh (by repeat (first | exact keeps_nil | apply keeps_cons (by repeat (first | exact find_head | apply find_tail | apply find_skip)) (by first  | rfl) | exact keeps_self | exact keeps_left | apply keeps_app | apply keeps_mv | apply keeps_skip)))
                              refine d_step (fun _ => hM) ?_
                              refine d_take (i := 9) hl rfl (by kernel_rfl) (by kernel_rfl) (by kernel_rfl) (by kernel_rfl) (by kernel_rfl) rfl trivial (fun _ _ _ h => h) hM (fun w hC => r_lenS hl rfl slc53) rfl ?_
                              clear hl a; intro a hl
                              refine d_two (i := 3) (j := 10) (by kernel_rfl) rfl rfl ?_ ?_
                              ·
                                try clear hM
                                refine id (w_load hl hh rfl trivial one53 rfl (by repeat (first | exact find_head | apply find_tail | apply find_skip)) (by first | exact hct | exact hcr | exact hch | exact hcl | rfl) ?_)
                                clear hl a; intro a hl
                                rw [hq1] at hl
                                have hM : Mem [(k4, C [.int .u8 o.k, .int .i64 o.A, .int .i64 o.B, .slice p o.tx.length cap, .int .u8 o.m.k, .int .u8 o.m.d, .int .u32 o.m.e, .int .u32 o.m.b, .bool o.m.y, .int .u32 o.m.r, .int .u32 o.m.s, .string o.m.t, .int .u8 o.v.k, .int .u8 o.v.a, .int .u8 o.v.b, .int .u8 o.v.w, .int .u8 o.v.da, .int .u8 o.v.dl] 45)] w := (memK hh (by repeat (first | exact keeps_nil | apply keeps_cons (by repeat (first | exact find_head | apply find_tail | apply find_skip)) (by first  | rfl) | exact keeps_self | exact keeps_left | apply keeps_app | apply keeps_mv | apply keeps_skip)))
                                refine d_step (fun _ => hM) ?_
                                refine d_one (i := 10) (by kernel_rfl) rfl ?_
                                try clear hM
                                refine id (w_call hl hh rfl trivial rfl cal22 rfl (mod_spec o.A (W.td.length : Int) (by omega) (by omega)) (by repeat (first | exact keeps_nil | apply keeps_cons (by repeat (first | exact find_head | apply find_tail | apply find_skip)) (by first  | rfl) | exact keeps_self | exact keeps_left | apply keeps_app | apply keeps_mv | apply keeps_skip)) trivial ?_)
                                clear hl hh a w; intro vc Fc a w hR hl hh
                                obtain ⟨rfl, rfl⟩ := hR
                                try simp only [List.cons_append, List.nil_append, List.append_assoc, List.append_nil] at hh
                                obtain ⟨i9, hi9, hi8⟩ := mod_nat o.A (show 0 < W.td.length by omega)
                                rw [hi9] at hl
                                obtain ⟨m, hm6⟩ : ∃ m, W.td[i9]? = some m := ⟨_, List.getElem?_eq_getElem hi8⟩
                                have hd1 := fl_at msc_len hm6 j1
                                have hM : Mem [(k4, C [.int .u8 o.k, .int .i64 o.A, .int .i64 o.B, .slice p o.tx.length cap, .int .u8 o.m.k, .int .u8 o.m.d, .int .u32 o.m.e, .int .u32 o.m.b, .bool o.m.y, .int .u32 o.m.r, .int .u32 o.m.s, .string o.m.t, .int .u8 o.v.k, .int .u8 o.v.a, .int .u8 o.v.b, .int .u8 o.v.w, .int .u8 o.v.da, .int .u8 o.v.dl] 45)] w := (memK hh (by repeat (first | exact keeps_nil | apply keeps_cons (by repeat (first | exact find_head | apply find_tail | apply find_skip)) (by first  | rfl) | exact keeps_self | exact keeps_left | apply keeps_app | apply keeps_mv | apply keeps_skip)))
                                refine d_step (fun _ => hM) ?_
                                refine d_take (i := 11) hl rfl (by kernel_rfl) (by kernel_rfl) (by kernel_rfl) (by kernel_rfl) (by kernel_rfl) rfl trivial (fun _ _ _ h => h) hM (fun w hC => r_indexS hl rfl rfl slc53 (by omega) (by omega) (by first | (simp only [Int.reduceToNat]; rfl) | exact toNat_add1 _ | exact toNat_add2 _ _ | exact toNat_emod _ _ | exact Int.toNat_natCast _ | rfl)) rfl ?_
                                clear hl a; intro a hl
                                refine d_one (i := 12) (by kernel_rfl) rfl ?_
                                try clear hM
                                refine id (w_loadA hl hh rfl trivial agg38 rfl (by repeat (first | exact find_head | apply find_tail | apply find_skip)) (by first | exact hd1 | rfl) (by rfl) ?_)
                                clear hl a; intro a hl
                                have hM : Mem [(k4, C [.int .u8 o.k, .int .i64 o.A, .int .i64 o.B, .slice p o.tx.length cap, .int .u8 o.m.k, .int .u8 o.m.d, .int .u32 o.m.e, .int .u32 o.m.b, .bool o.m.y, .int .u32 o.m.r, .int .u32 o.m.s, .string o.m.t, .int .u8 o.v.k, .int .u8 o.v.a, .int .u8 o.v.b, .int .u8 o.v.w, .int .u8 o.v.da, .int .u8 o.v.dl] 45)] w := (memK hh (by repeat (first | exact keeps_nil | apply keeps_cons (by repeat (first | exact find_head | apply find_tail | apply find_skip)) (by first  | rfl) | exact keeps_self | exact keeps_left | apply keeps_app | apply keeps_mv | apply keeps_skip)))
                                refine d_step (fun _ => hM) ?_
                                refine d_one (i := 13) (by kernel_rfl) rfl ?_
                                try clear hM
                                refine id (w_buildSlice hl hh rfl trivial app53 zero38 rfl rfl rfl rfl rfl (fill1 rfl (msc_len _)) ?_)
                                clear hl hh a w; intro k150 a w hl hh
                                have hM : Mem [(k4, C [.int .u8 o.k, .int .i64 o.A, .int .i64 o.B, .slice p o.tx.length cap, .int .u8 o.m.k, .int .u8 o.m.d, .int .u32 o.m.e, .int .u32 o.m.b, .bool o.m.y, .int .u32 o.m.r, .int .u32 o.m.s, .string o.m.t, .int .u8 o.v.k, .int .u8 o.v.a, .int .u8 o.v.b, .int .u8 o.v.w, .int .u8 o.v.da, .int .u8 o.v.dl] 45)] w := (memK hh (by repeat (first | exact keeps_nil | apply keeps_cons (by repeat (first | exact find_head | apply find_tail | apply find_skip)) (by first  | rfl) | exact keeps_self | exact keeps_left | apply keeps_app | apply keeps_mv | apply keeps_skip)))
                                refine d_step (fun _ => hM) ?_
                                refine d_one (i := 14) (by kernel_rfl) rfl ?_
                                try clear hM
                                refine id (w_call hl hh rfl trivial rfl cal17 rfl (post_spec wb W.c (0 + 18) W.td (some ⟨b1, 0, none⟩) W.tc [(b1, C (fl msc W.td ++ j1) 38)] (by rw [← hq1, ← hE1]; exact hW.t) (by rw [← hq1]; exact hct) hW.tl [m] (some ⟨k150, 0, none⟩) 1 [(k150, C (msc m) 38)] (row1b k150 m) (by simp)) (by repeat (first | exact keeps_nil | apply keeps_cons (by repeat (first | exact find_head | apply find_tail | apply find_skip)) (by first  | rfl) | exact keeps_self | exact keeps_left | apply keeps_app | apply keeps_mv | apply keeps_skip)) trivial ?_)
                                clear hl hh a w; intro vc Fc a w hR hl hh
                                obtain ⟨rfl, p6, c6, E6, hR6, rfl⟩ := hR
                                try simp only [List.cons_append, List.nil_append, List.append_assoc, List.append_nil] at hh
                                rw [wc_std W hW.dl p6 _ c6 E6] at hh
                                refine d_step (fun h => absurd h (by decide)) ?_
                                refine d_done (by kernel_rfl) ?_
                                try clear hM
                                have hl2 := hl.nil; clear hl; have hl := hl2; clear hl2
                                refine blk_normal ?_
                                refine then_normal ?_
                                refine c_seq ?_
                                refine c_region ?_
                                refine wl (wl_val hl rfl trivial (r_assign hl rfl) ?_)
                                clear hl a; intro a hl
                                refine w_nil ?_
                                have hl2 := hl.add (t := 6) (hl.nil) rfl; clear hl; have hl := hl2; clear hl2
                                refine then_normal ?_
                                refine wp_ret ?_
                                first
                                | (have hq := hR6; refine f_ret1 (F' := Fx ++ ((wb, C (WoV.c { W with td := postP W.td [m], tp := p6, tc := c6, tE := E6 }) 55) :: (E6 ++ (W.gE ++ (DsF W.ds ++ WoV.GF W Z))))) hl hh rfl rfl (by repeat (first | exact keeps_nil | apply keeps_cons (by repeat (first | exact find_head | apply find_tail | apply find_skip)) (by first  | rfl) | exact keeps_self | exact keeps_left | apply keeps_app | apply keeps_mv | apply keeps_skip)) ?_; exact StepO.same (W' := { W with td := postP W.td [m], tp := p6, tc := c6, tE := E6 }) (td_ok hW hR6 (fun m' h => post_in hm6 m' (.inl h)) (postP_len _ _)) (td_K (Q.jk hJ) (post_in hm6) p6 c6 E6) (hn.cg rfl rfl) hMx rfl)
                                | (refine f_ret1 (F' := Fx ++ ((wb, C W.c 55) :: (W.tE ++ (W.gE ++ (DsF W.ds ++ WoV.GF W Z))))) hl hh rfl rfl (by repeat (first | exact keeps_nil | apply keeps_cons (by repeat (first | exact find_head | apply find_tail | apply find_skip)) (by first  | rfl) | exact keeps_self | exact keeps_left | apply keeps_app | apply keeps_mv | apply keeps_skip)) ?_; exact StepO.same hW (Q.jk hJ) hn hMx rfl)
                              ·
                                try clear hM
                                refine id (w_call hl hh rfl trivial rfl cal22 rfl (mod_spec o.A (W.td.length : Int) (by omega) (by omega)) (by repeat (first | exact keeps_nil | apply keeps_cons (by repeat (first | exact find_head | apply find_tail | apply find_skip)) (by first  | rfl) | exact keeps_self | exact keeps_left | apply keeps_app | apply keeps_mv | apply keeps_skip)) trivial ?_)
                                clear hl hh a w; intro vc Fc a w hR hl hh
                                obtain ⟨rfl, rfl⟩ := hR
                                try simp only [List.cons_append, List.nil_append, List.append_assoc, List.append_nil] at hh
                                obtain ⟨i9, hi9, hi8⟩ := mod_nat o.A (show 0 < W.td.length by omega)
                                rw [hi9] at hl
                                obtain ⟨m, hm6⟩ : ∃ m, W.td[i9]? = some m := ⟨_, List.getElem?_eq_getElem hi8⟩
                                have hd1 := fl_at msc_len hm6 j1
                                have hM : Mem [(k4, C [.int .u8 o.k, .int .i64 o.A, .int .i64 o.B, .slice p o.tx.length cap, .int .u8 o.m.k, .int .u8 o.m.d, .int .u32 o.m.e, .int .u32 o.m.b, .bool o.m.y, .int .u32 o.m.r, .int .u32 o.m.s, .string o.m.t, .int .u8 o.v.k, .int .u8 o.v.a, .int .u8 o.v.b, .int .u8 o.v.w, .int .u8 o.v.da, .int .u8 o.v.dl] 45)] w := (memK hh (by repeat (first | exact keeps_nil | apply keeps_cons (by repeat (first | exact find_head | apply find_tail | apply find_skip)) (by first  | rfl) | exact keeps_self | exact keeps_left | apply keeps_app | apply keeps_mv | apply keeps_skip)))
                                refine d_step (fun _ => hM) ?_
                                refine d_one (i := 3) (by kernel_rfl) rfl ?_
                                try clear hM
                                refine id (w_load hl hh rfl trivial one53 rfl (by repeat (first | exact find_head | apply find_tail | apply find_skip)) (by first | exact hct | exact hcr | exact hch | exact hcl | rfl) ?_)
                                clear hl a; intro a hl
                                rw [hq1] at hl
                                have hM : Mem [(k4, C [.int .u8 o.k, .int .i64 o.A, .int .i64 o.B, .slice p o.tx.length cap, .int .u8 o.m.k, .int .u8 o.m.d, .int .u32 o.m.e, .int .u32 o.m.b, .bool o.m.y, .int .u32 o.m.r, .int .u32 o.m.s, .string o.m.t, .int .u8 o.v.k, .int .u8 o.v.a, .int .u8 o.v.b, .int .u8 o.v.w, .int .u8 o.v.da, .int .u8 o.v.dl] 45)] w := (memK hh (by repeat (first | exact keeps_nil | apply keeps_cons (by repeat (first | exact find_head | apply find_tail | apply find_skip)) (by first  | rfl) | exact keeps_self | exact keeps_left | apply keeps_app | apply keeps_mv | apply keeps_skip)))
                                refine d_step (fun _ => hM) ?_
                                refine d_take (i := 11) hl rfl (by kernel_rfl) (by kernel_rfl) (by kernel_rfl) (by kernel_rfl) (by kernel_rfl) rfl trivial (fun _ _ _ h => h) hM (fun w hC => r_indexS hl rfl rfl slc53 (by omega) (by omega) (by first | (simp only [Int.reduceToNat]; rfl) | exact toNat_add1 _ | exact toNat_add2 _ _ | exact toNat_emod _ _ | exact Int.toNat_natCast _ | rfl)) rfl ?_
                                clear hl a; intro a hl
                                refine d_one (i := 12) (by kernel_rfl) rfl ?_
                                try clear hM
                                refine id (w_loadA hl hh rfl trivial agg38 rfl (by repeat (first | exact find_head | apply find_tail | apply find_skip)) (by first | exact hd1 | rfl) (by rfl) ?_)
                                clear hl a; intro a hl
                                have hM : Mem [(k4, C [.int .u8 o.k, .int .i64 o.A, .int .i64 o.B, .slice p o.tx.length cap, .int .u8 o.m.k, .int .u8 o.m.d, .int .u32 o.m.e, .int .u32 o.m.b, .bool o.m.y, .int .u32 o.m.r, .int .u32 o.m.s, .string o.m.t, .int .u8 o.v.k, .int .u8 o.v.a, .int .u8 o.v.b, .int .u8 o.v.w, .int .u8 o.v.da, .int .u8 o.v.dl] 45)] w := (memK hh (by repeat (first | exact keeps_nil | apply keeps_cons (by repeat (first | exact find_head | apply find_tail | apply find_skip)) (by first  | rfl) | exact keeps_self | exact keeps_left | apply keeps_app | apply keeps_mv | apply keeps_skip)))
                                refine d_step (fun _ => hM) ?_
                                refine d_one (i := 13) (by kernel_rfl) rfl ?_
                                try clear hM
                                refine id (w_buildSlice hl hh rfl trivial app53 zero38 rfl rfl rfl rfl rfl (fill1 rfl (msc_len _)) ?_)
                                clear hl hh a w; intro k150 a w hl hh
                                have hM : Mem [(k4, C [.int .u8 o.k, .int .i64 o.A, .int .i64 o.B, .slice p o.tx.length cap, .int .u8 o.m.k, .int .u8 o.m.d, .int .u32 o.m.e, .int .u32 o.m.b, .bool o.m.y, .int .u32 o.m.r, .int .u32 o.m.s, .string o.m.t, .int .u8 o.v.k, .int .u8 o.v.a, .int .u8 o.v.b, .int .u8 o.v.w, .int .u8 o.v.da, .int .u8 o.v.dl] 45)] w := (memK hh (by repeat (first | exact keeps_nil | apply keeps_cons (by repeat (first | exact find_head | apply find_tail | apply find_skip)) (by first  | rfl) | exact keeps_self | exact keeps_left | apply keeps_app | apply keeps_mv | apply keeps_skip)))
                                refine d_step (fun _ => hM) ?_
                                refine d_one (i := 14) (by kernel_rfl) rfl ?_
                                try clear hM
                                refine id (w_call hl hh rfl trivial rfl cal17 rfl (post_spec wb W.c (0 + 18) W.td (some ⟨b1, 0, none⟩) W.tc [(b1, C (fl msc W.td ++ j1) 38)] (by rw [← hq1, ← hE1]; exact hW.t) (by rw [← hq1]; exact hct) hW.tl [m] (some ⟨k150, 0, none⟩) 1 [(k150, C (msc m) 38)] (row1b k150 m) (by simp)) (by repeat (first | exact keeps_nil | apply keeps_cons (by repeat (first | exact find_head | apply find_tail | apply find_skip)) (by first  | rfl) | exact keeps_self | exact keeps_left | apply keeps_app | apply keeps_mv | apply keeps_skip)) trivial ?_)
                                clear hl hh a w; intro vc Fc a w hR hl hh
                                obtain ⟨rfl, p6, c6, E6, hR6, rfl⟩ := hR
                                try simp only [List.cons_append, List.nil_append, List.append_assoc, List.append_nil] at hh
                                rw [wc_std W hW.dl p6 _ c6 E6] at hh
                                refine d_step (fun h => absurd h (by decide)) ?_
                                refine d_done (by kernel_rfl) ?_
                                try clear hM
                                have hl2 := hl.nil; clear hl; have hl := hl2; clear hl2
                                refine blk_normal ?_
                                refine then_normal ?_
                                refine c_seq ?_
                                refine c_region ?_
                                refine wl (wl_val hl rfl trivial (r_assign hl rfl) ?_)
                                clear hl a; intro a hl
                                refine w_nil ?_
                                have hl2 := hl.add (t := 6) (hl.nil) rfl; clear hl; have hl := hl2; clear hl2
                                refine then_normal ?_
                                refine wp_ret ?_
                                first
                                | (have hq := hR6; refine f_ret1 (F' := Fx ++ ((wb, C (WoV.c { W with td := postP W.td [m], tp := p6, tc := c6, tE := E6 }) 55) :: (E6 ++ (W.gE ++ (DsF W.ds ++ WoV.GF W Z))))) hl hh rfl rfl (by repeat (first | exact keeps_nil | apply keeps_cons (by repeat (first | exact find_head | apply find_tail | apply find_skip)) (by first  | rfl) | exact keeps_self | exact keeps_left | apply keeps_app | apply keeps_mv | apply keeps_skip)) ?_; exact StepO.same (W' := { W with td := postP W.td [m], tp := p6, tc := c6, tE := E6 }) (td_ok hW hR6 (fun m' h => post_in hm6 m' (.inl h)) (postP_len _ _)) (td_K (Q.jk hJ) (post_in hm6) p6 c6 E6) (hn.cg rfl rfl) hMx rfl)
                                | (refine f_ret1 (F' := Fx ++ ((wb, C W.c 55) :: (W.tE ++ (W.gE ++ (DsF W.ds ++ WoV.GF W Z))))) hl hh rfl rfl (by repeat (first | exact keeps_nil | apply keeps_cons (by repeat (first | exact find_head | apply find_tail | apply find_skip)) (by first  | rfl) | exact keeps_self | exact keeps_left | apply keeps_app | apply keeps_mv | apply keeps_skip)) ?_; exact StepO.same hW (Q.jk hJ) hn hMx rfl)
                          · intro hc15
                            try simp only [decide_eq_true_eq, decide_eq_false_iff_not, Bool.not_eq_true', Bool.not_eq_false', Bool.not_eq_true, Bool.not_eq_false, Bool.and_eq_true, Bool.or_eq_true, Bool.and_eq_false_iff, Bool.or_eq_false_iff, Bool.not_not, ne_eq, Int.not_lt, Int.not_le, Decidable.not_not, beq_iff_eq, bne_iff_ne] at hc15
                            refine wp_skip ?_
                            refine blk_normal ?_
                            refine then_normal ?_
                            refine c_seq ?_
                            refine c_region ?_
                            refine wl (wl_val hl rfl trivial (r_assign hl rfl) ?_)
                            clear hl a; intro a hl
                            refine w_nil ?_
                            have hl2 := hl.add (t := 6) (hl.nil) rfl; clear hl; have hl := hl2; clear hl2
                            refine then_normal ?_
                            refine wp_ret ?_
                            first
                            | (have hq := hR6; refine f_ret1 (F' := Fx ++ ((wb, C (WoV.c { W with td := postP W.td [m], tp := p6, tc := c6, tE := E6 }) 55) :: (E6 ++ (W.gE ++ (DsF W.ds ++ WoV.GF W Z))))) hl hh rfl rfl (by repeat (first | exact keeps_nil | apply keeps_cons (by repeat (first | exact find_head | apply find_tail | apply find_skip)) (by first  | rfl) | exact keeps_self | exact keeps_left | apply keeps_app | apply keeps_mv | apply keeps_skip)) ?_; exact StepO.same (W' := { W with td := postP W.td [m], tp := p6, tc := c6, tE := E6 }) (td_ok hW hR6 (fun m' h => post_in hm6 m' (.inl h)) (postP_len _ _)) (td_K (Q.jk hJ) (post_in hm6) p6 c6 E6) (hn.cg rfl rfl) hMx rfl)
                            | (refine f_ret1 (F' := Fx ++ ((wb, C W.c 55) :: (W.tE ++ (W.gE ++ (DsF W.ds ++ WoV.GF W Z))))) hl hh rfl rfl (by repeat (first | exact keeps_nil | apply keeps_cons (by repeat (first | exact find_head | apply find_tail | apply find_skip)) (by first  | rfl) | exact keeps_self | exact keeps_left | apply keeps_app | apply keeps_mv | apply keeps_skip)) ?_; exact StepO.same hW (Q.jk hJ) hn hMx rfl)
                        · intro hc14
                          try simp only [decide_eq_true_eq, decide_eq_false_iff_not, Bool.not_eq_true', Bool.not_eq_false', Bool.not_eq_true, Bool.not_eq_false, Bool.and_eq_true, Bool.or_eq_true, Bool.and_eq_false_iff, Bool.or_eq_false_iff, Bool.not_not, ne_eq, Int.not_lt, Int.not_le, Decidable.not_not, beq_iff_eq, bne_iff_ne] at hc14
                          exfalso; first | contradiction | omega | (rw [hb] at hc0; simp at hc0)

set_option maxHeartbeats 8000000 in
theorem step_dbl1 {lb wb : Nat} (L : LawM lb wb) (Q : LawJ L) (Z : List (Nat × Obj)) (W : WoV) (hW : W.ok Z) (n : Nat) (hn9 : n + 200 < 1000000000) (x : L.X) (Fx : List (Nat × Obj)) (hMx : L.M Z x Fx) (hJ : Q.J (W.pl [] []) x) (hn : WI n (W.pl [] [])) (o : OpP) (p : Option Addr) (cap : Nat) (ho : OpOk Z o p cap) (hk : o.k = 9) (hb : oddP o.B = true) : Sp Tryz.prog 12 #[.pointer (some ⟨wb, 0, none⟩), .agg ⟨opC o p cap⟩, Lw L.T lb] (Fx ++ WoV.F wb W Z) (fun v F' => StepO Q Z n v F') := by
  refine f_enter (args := [.pointer (some ⟨wb, 0, none⟩), .agg ⟨[.int .u8 o.k, .int .i64 o.A, .int .i64 o.B, .slice p o.tx.length cap, .int .u8 o.m.k, .int .u8 o.m.d, .int .u32 o.m.e, .int .u32 o.m.b, .bool o.m.y, .int .u32 o.m.r, .int .u32 o.m.s, .string o.m.t, .int .u8 o.v.k, .int .u8 o.v.a, .int .u8 o.v.b, .int .u8 o.v.w, .int .u8 o.v.da, .int .u8 o.v.dl]⟩, .iface L.T (.pointer (some ⟨lb, 0, none⟩))]) Tryz.func12 rfl Tryz.ntmps12 rfl ?_
  intro w0 w a hpre hl hh
  generalize hDD : List.map Prod.fst (Fx ++ WoV.F wb W Z) = D at hh ⊢
  simp only [WoV.F] at hh
  have hct := wc_td W hW.dl
  have hcr := wc_tg W hW.dl
  have hch := wc_hn W hW.dl
  have hcl := wc_led W
  have hwl := wc_len W hW.dl
  have ho1 := ho.k
  have ho2 := ho.A
  have ho3 := ho.B
  have htl := hW.tl
  have hrl := hW.rl
  
  simp only [slotsFrom, Nat.reduceAdd] at hl
  refine c_seq ?_
  refine c_region ?_
  refine wl (w_box hl hh rfl trivial rfl rfl ?_)
  clear hl hh a w; intro k4 a w hl hh
  refine wl (wl_val hl rfl trivial (r_assign hl rfl) ?_)
  clear hl a; intro a hl
  refine w_nil ?_
  have hl2 := hl.add (t := 0) (hl.add (t := 2) (hl.add (t := 4) (hl.nil) rfl) rfl) rfl; clear hl; have hl := hl2; clear hl2
  refine then_normal ?_
  refine c_seq ?_
  refine c_region ?_
  refine wl (wl_val hl rfl trivial (r_move hl rfl) ?_)
  clear hl a; intro a hl
  refine wl (wl_val hl rfl trivial (r_nilCheck hl rfl) ?_)
  clear hl a; intro a hl
  refine wl (wl_val hl rfl trivial (r_field hl rfl fld55_3) ?_)
  clear hl a; intro a hl
  refine wl (wl_val hl rfl trivial (r_assign hl rfl) ?_)
  clear hl a; intro a hl
  refine w_nil ?_
  have hl2 := hl.add (t := 0) (hl.add (t := 2) (hl.add (t := 4) (hl.add (t := 7) (hl.nil) rfl) rfl) rfl) rfl; clear hl; have hl := hl2; clear hl2
  refine then_normal ?_
  refine c_seq ?_
  refine c_seq ?_
  refine c_region ?_
  refine wl (wl_val hl rfl trivial (r_field hl rfl fld45_2) ?_)
  clear hl a; intro a hl
  refine wl (w_load hl hh rfl trivial one3 rfl (by repeat (first | exact find_head | apply find_tail | apply find_skip)) (by first | exact hct | exact hcr | exact hch | exact hcl | rfl) ?_)
  clear hl a; intro a hl
  refine wl (w_call hl hh rfl trivial rfl cal18 rfl (odd_spec _ (by omega)) (by repeat (first | exact keeps_nil | apply keeps_cons (by repeat (first | exact find_head | apply find_tail | apply find_skip)) (by first  | rfl) | exact keeps_self | exact keeps_left | apply keeps_app | apply keeps_mv | apply keeps_skip)) trivial ?_)
  clear hl hh a w; intro vc Fc a w hR hl hh
  obtain ⟨rfl, rfl⟩ := hR
  try simp only [List.cons_append, List.nil_append, List.append_assoc, List.append_nil] at hh
  refine w_nil ?_
  have hl2 := hl.add (t := 0) (hl.add (t := 2) (hl.add (t := 4) (hl.add (t := 7) (hl.add (t := 13) (hl.nil) rfl) rfl) rfl) rfl) rfl; clear hl; have hl := hl2; clear hl2
  refine then_normal ?_
  refine c_cond hl rfl ?_ ?_
  · intro hc0
    try simp only [decide_eq_true_eq, decide_eq_false_iff_not, Bool.not_eq_true', Bool.not_eq_false', Bool.not_eq_true, Bool.not_eq_false, Bool.and_eq_true, Bool.or_eq_true, Bool.and_eq_false_iff, Bool.or_eq_false_iff, Bool.not_not, ne_eq, Int.not_lt, Int.not_le, Decidable.not_not, beq_iff_eq, bne_iff_ne] at hc0
    refine c_region ?_
    refine wl (wl_val hl rfl trivial (r_move hl rfl) ?_)
    clear hl a; intro a hl
    refine wl (wl_val hl rfl trivial (r_nilCheck hl rfl) ?_)
    clear hl a; intro a hl
    refine wl (wl_val hl rfl trivial (r_field hl rfl fld55_4) ?_)
    clear hl a; intro a hl
    refine wl (wl_val hl rfl trivial (r_assign hl rfl) ?_)
    clear hl a; intro a hl
    refine w_nil ?_
    have hl2 := hl.add (t := 0) (hl.add (t := 2) (hl.add (t := 4) (hl.add (t := 7) (hl.nil) rfl) rfl) rfl) rfl; clear hl; have hl := hl2; clear hl2
    refine then_normal ?_
    refine c_seq ?_
    refine c_seq ?_
    refine c_region ?_
    refine wl (wl_val hl rfl trivial (r_field hl rfl fld45_0) ?_)
    clear hl a; intro a hl
    refine wl (w_load hl hh rfl trivial one33 rfl (by repeat (first | exact find_head | apply find_tail | apply find_skip)) (by first | exact hct | exact hcr | exact hch | exact hcl | rfl) ?_)
    clear hl a; intro a hl
    refine w_nil ?_
    have hl2 := hl.add (t := 0) (hl.add (t := 2) (hl.add (t := 4) (hl.add (t := 7) (hl.add (t := 18) (hl.nil) rfl) rfl) rfl) rfl) rfl; clear hl; have hl := hl2; clear hl2
    refine then_normal ?_
    refine wp_block ?_
    refine c_seq ?_
    refine c_region ?_
    refine wl (wl_val hl rfl trivial (r_eql hl rfl rfl) ?_)
    clear hl a; intro a hl
    refine wl (wl_val hl rfl trivial (r_assign hl rfl) ?_)
    clear hl a; intro a hl
    refine w_nil ?_
    have hl2 := hl.add (t := 0) (hl.add (t := 2) (hl.add (t := 4) (hl.add (t := 7) (hl.add (t := 18) (hl.add (t := 19) (hl.nil) rfl) rfl) rfl) rfl) rfl) rfl; clear hl; have hl := hl2; clear hl2
    refine then_normal ?_
    refine c_cond hl rfl ?_ ?_
    · intro hc1
      try simp only [decide_eq_true_eq, decide_eq_false_iff_not, Bool.not_eq_true', Bool.not_eq_false', Bool.not_eq_true, Bool.not_eq_false, Bool.and_eq_true, Bool.or_eq_true, Bool.and_eq_false_iff, Bool.or_eq_false_iff, Bool.not_not, ne_eq, Int.not_lt, Int.not_le, Decidable.not_not, beq_iff_eq, bne_iff_ne] at hc1
      exfalso; first | contradiction | omega | (rw [hb] at hc0; simp at hc0)
    · intro hc1
      try simp only [decide_eq_true_eq, decide_eq_false_iff_not, Bool.not_eq_true', Bool.not_eq_false', Bool.not_eq_true, Bool.not_eq_false, Bool.and_eq_true, Bool.or_eq_true, Bool.and_eq_false_iff, Bool.or_eq_false_iff, Bool.not_not, ne_eq, Int.not_lt, Int.not_le, Decidable.not_not, beq_iff_eq, bne_iff_ne] at hc1
      refine c_seq ?_
      refine c_seq ?_
      refine c_region ?_
      refine wl (wl_val hl rfl trivial (r_eql hl rfl rfl) ?_)
      clear hl a; intro a hl
      refine wl (wl_val hl rfl trivial (r_assign hl rfl) ?_)
      clear hl a; intro a hl
      refine w_nil ?_
      have hl2 := hl.add (t := 0) (hl.add (t := 2) (hl.add (t := 4) (hl.add (t := 7) (hl.add (t := 18) (hl.add (t := 27) (hl.nil) rfl) rfl) rfl) rfl) rfl) rfl; clear hl; have hl := hl2; clear hl2
      refine then_normal ?_
      refine c_cond hl rfl ?_ ?_
      · intro hc2
        try simp only [decide_eq_true_eq, decide_eq_false_iff_not, Bool.not_eq_true', Bool.not_eq_false', Bool.not_eq_true, Bool.not_eq_false, Bool.and_eq_true, Bool.or_eq_true, Bool.and_eq_false_iff, Bool.or_eq_false_iff, Bool.not_not, ne_eq, Int.not_lt, Int.not_le, Decidable.not_not, beq_iff_eq, bne_iff_ne] at hc2
        exfalso; first | contradiction | omega | (rw [hb] at hc0; simp at hc0)
      · intro hc2
        try simp only [decide_eq_true_eq, decide_eq_false_iff_not, Bool.not_eq_true', Bool.not_eq_false', Bool.not_eq_true, Bool.not_eq_false, Bool.and_eq_true, Bool.or_eq_true, Bool.and_eq_false_iff, Bool.or_eq_false_iff, Bool.not_not, ne_eq, Int.not_lt, Int.not_le, Decidable.not_not, beq_iff_eq, bne_iff_ne] at hc2
        refine c_region ?_
        refine wl (wl_val hl rfl trivial (r_eql hl rfl rfl) ?_)
        clear hl a; intro a hl
        refine wl (wl_val hl rfl trivial (r_assign hl rfl) ?_)
        clear hl a; intro a hl
        refine w_nil ?_
        have hl2 := hl.add (t := 0) (hl.add (t := 2) (hl.add (t := 4) (hl.add (t := 7) (hl.add (t := 18) (hl.add (t := 27) (hl.nil) rfl) rfl) rfl) rfl) rfl) rfl; clear hl; have hl := hl2; clear hl2
        refine then_normal ?_
        refine c_cond hl rfl ?_ ?_
        · intro hc3
          try simp only [decide_eq_true_eq, decide_eq_false_iff_not, Bool.not_eq_true', Bool.not_eq_false', Bool.not_eq_true, Bool.not_eq_false, Bool.and_eq_true, Bool.or_eq_true, Bool.and_eq_false_iff, Bool.or_eq_false_iff, Bool.not_not, ne_eq, Int.not_lt, Int.not_le, Decidable.not_not, beq_iff_eq, bne_iff_ne] at hc3
          exfalso; first | contradiction | omega | (rw [hb] at hc0; simp at hc0)
        · intro hc3
          try simp only [decide_eq_true_eq, decide_eq_false_iff_not, Bool.not_eq_true', Bool.not_eq_false', Bool.not_eq_true, Bool.not_eq_false, Bool.and_eq_true, Bool.or_eq_true, Bool.and_eq_false_iff, Bool.or_eq_false_iff, Bool.not_not, ne_eq, Int.not_lt, Int.not_le, Decidable.not_not, beq_iff_eq, bne_iff_ne] at hc3
          refine c_seq ?_
          refine c_seq ?_
          refine c_region ?_
          refine wl (wl_val hl rfl trivial (r_eql hl rfl rfl) ?_)
          clear hl a; intro a hl
          refine wl (wl_val hl rfl trivial (r_assign hl rfl) ?_)
          clear hl a; intro a hl
          refine w_nil ?_
          have hl2 := hl.add (t := 0) (hl.add (t := 2) (hl.add (t := 4) (hl.add (t := 7) (hl.add (t := 18) (hl.add (t := 39) (hl.nil) rfl) rfl) rfl) rfl) rfl) rfl; clear hl; have hl := hl2; clear hl2
          refine then_normal ?_
          refine c_cond hl rfl ?_ ?_
          · intro hc4
            try simp only [decide_eq_true_eq, decide_eq_false_iff_not, Bool.not_eq_true', Bool.not_eq_false', Bool.not_eq_true, Bool.not_eq_false, Bool.and_eq_true, Bool.or_eq_true, Bool.and_eq_false_iff, Bool.or_eq_false_iff, Bool.not_not, ne_eq, Int.not_lt, Int.not_le, Decidable.not_not, beq_iff_eq, bne_iff_ne] at hc4
            exfalso; first | contradiction | omega | (rw [hb] at hc0; simp at hc0)
          · intro hc4
            try simp only [decide_eq_true_eq, decide_eq_false_iff_not, Bool.not_eq_true', Bool.not_eq_false', Bool.not_eq_true, Bool.not_eq_false, Bool.and_eq_true, Bool.or_eq_true, Bool.and_eq_false_iff, Bool.or_eq_false_iff, Bool.not_not, ne_eq, Int.not_lt, Int.not_le, Decidable.not_not, beq_iff_eq, bne_iff_ne] at hc4
            refine c_region ?_
            refine wl (wl_val hl rfl trivial (r_eql hl rfl rfl) ?_)
            clear hl a; intro a hl
            refine wl (wl_val hl rfl trivial (r_assign hl rfl) ?_)
            clear hl a; intro a hl
            refine w_nil ?_
            have hl2 := hl.add (t := 0) (hl.add (t := 2) (hl.add (t := 4) (hl.add (t := 7) (hl.add (t := 18) (hl.add (t := 39) (hl.nil) rfl) rfl) rfl) rfl) rfl) rfl; clear hl; have hl := hl2; clear hl2
            refine then_normal ?_
            refine c_cond hl rfl ?_ ?_
            · intro hc5
              try simp only [decide_eq_true_eq, decide_eq_false_iff_not, Bool.not_eq_true', Bool.not_eq_false', Bool.not_eq_true, Bool.not_eq_false, Bool.and_eq_true, Bool.or_eq_true, Bool.and_eq_false_iff, Bool.or_eq_false_iff, Bool.not_not, ne_eq, Int.not_lt, Int.not_le, Decidable.not_not, beq_iff_eq, bne_iff_ne] at hc5
              exfalso; first | contradiction | omega | (rw [hb] at hc0; simp at hc0)
            · intro hc5
              try simp only [decide_eq_true_eq, decide_eq_false_iff_not, Bool.not_eq_true', Bool.not_eq_false', Bool.not_eq_true, Bool.not_eq_false, Bool.and_eq_true, Bool.or_eq_true, Bool.and_eq_false_iff, Bool.or_eq_false_iff, Bool.not_not, ne_eq, Int.not_lt, Int.not_le, Decidable.not_not, beq_iff_eq, bne_iff_ne] at hc5
              refine c_seq ?_
              refine c_region ?_
              refine wl (wl_val hl rfl trivial (r_eql hl rfl rfl) ?_)
              clear hl a; intro a hl
              refine wl (wl_val hl rfl trivial (r_assign hl rfl) ?_)
              clear hl a; intro a hl
              refine w_nil ?_
              have hl2 := hl.add (t := 0) (hl.add (t := 2) (hl.add (t := 4) (hl.add (t := 7) (hl.add (t := 18) (hl.add (t := 50) (hl.nil) rfl) rfl) rfl) rfl) rfl) rfl; clear hl; have hl := hl2; clear hl2
              refine then_normal ?_
              refine c_cond hl rfl ?_ ?_
              · intro hc6
                try simp only [decide_eq_true_eq, decide_eq_false_iff_not, Bool.not_eq_true', Bool.not_eq_false', Bool.not_eq_true, Bool.not_eq_false, Bool.and_eq_true, Bool.or_eq_true, Bool.and_eq_false_iff, Bool.or_eq_false_iff, Bool.not_not, ne_eq, Int.not_lt, Int.not_le, Decidable.not_not, beq_iff_eq, bne_iff_ne] at hc6
                exfalso; first | contradiction | omega | (rw [hb] at hc0; simp at hc0)
              · intro hc6
                try simp only [decide_eq_true_eq, decide_eq_false_iff_not, Bool.not_eq_true', Bool.not_eq_false', Bool.not_eq_true, Bool.not_eq_false, Bool.and_eq_true, Bool.or_eq_true, Bool.and_eq_false_iff, Bool.or_eq_false_iff, Bool.not_not, ne_eq, Int.not_lt, Int.not_le, Decidable.not_not, beq_iff_eq, bne_iff_ne] at hc6
                refine c_seq ?_
                refine c_region ?_
                refine wl (wl_val hl rfl trivial (r_eql hl rfl rfl) ?_)
                clear hl a; intro a hl
                refine wl (wl_val hl rfl trivial (r_assign hl rfl) ?_)
                clear hl a; intro a hl
                refine w_nil ?_
                have hl2 := hl.add (t := 0) (hl.add (t := 2) (hl.add (t := 4) (hl.add (t := 7) (hl.add (t := 18) (hl.add (t := 62) (hl.nil) rfl) rfl) rfl) rfl) rfl) rfl; clear hl; have hl := hl2; clear hl2
                refine then_normal ?_
                refine c_cond hl rfl ?_ ?_
                · intro hc7
                  try simp only [decide_eq_true_eq, decide_eq_false_iff_not, Bool.not_eq_true', Bool.not_eq_false', Bool.not_eq_true, Bool.not_eq_false, Bool.and_eq_true, Bool.or_eq_true, Bool.and_eq_false_iff, Bool.or_eq_false_iff, Bool.not_not, ne_eq, Int.not_lt, Int.not_le, Decidable.not_not, beq_iff_eq, bne_iff_ne] at hc7
                  exfalso; first | contradiction | omega | (rw [hb] at hc0; simp at hc0)
                · intro hc7
                  try simp only [decide_eq_true_eq, decide_eq_false_iff_not, Bool.not_eq_true', Bool.not_eq_false', Bool.not_eq_true, Bool.not_eq_false, Bool.and_eq_true, Bool.or_eq_true, Bool.and_eq_false_iff, Bool.or_eq_false_iff, Bool.not_not, ne_eq, Int.not_lt, Int.not_le, Decidable.not_not, beq_iff_eq, bne_iff_ne] at hc7
                  refine c_seq ?_
                  refine c_region ?_
                  refine wl (wl_val hl rfl trivial (r_eql hl rfl rfl) ?_)
                  clear hl a; intro a hl
                  refine wl (wl_val hl rfl trivial (r_assign hl rfl) ?_)
                  clear hl a; intro a hl
                  refine w_nil ?_
                  have hl2 := hl.add (t := 0) (hl.add (t := 2) (hl.add (t := 4) (hl.add (t := 7) (hl.add (t := 18) (hl.add (t := 68) (hl.nil) rfl) rfl) rfl) rfl) rfl) rfl; clear hl; have hl := hl2; clear hl2
                  refine then_normal ?_
                  refine c_cond hl rfl ?_ ?_
                  · intro hc8
                    try simp only [decide_eq_true_eq, decide_eq_false_iff_not, Bool.not_eq_true', Bool.not_eq_false', Bool.not_eq_true, Bool.not_eq_false, Bool.and_eq_true, Bool.or_eq_true, Bool.and_eq_false_iff, Bool.or_eq_false_iff, Bool.not_not, ne_eq, Int.not_lt, Int.not_le, Decidable.not_not, beq_iff_eq, bne_iff_ne] at hc8
                    exfalso; first | contradiction | omega | (rw [hb] at hc0; simp at hc0)
                  · intro hc8
                    try simp only [decide_eq_true_eq, decide_eq_false_iff_not, Bool.not_eq_true', Bool.not_eq_false', Bool.not_eq_true, Bool.not_eq_false, Bool.and_eq_true, Bool.or_eq_true, Bool.and_eq_false_iff, Bool.or_eq_false_iff, Bool.not_not, ne_eq, Int.not_lt, Int.not_le, Decidable.not_not, beq_iff_eq, bne_iff_ne] at hc8
                    refine c_seq ?_
                    refine c_region ?_
                    refine wl (wl_val hl rfl trivial (r_eql hl rfl rfl) ?_)
                    clear hl a; intro a hl
                    refine wl (wl_val hl rfl trivial (r_assign hl rfl) ?_)
                    clear hl a; intro a hl
                    refine w_nil ?_
                    have hl2 := hl.add (t := 0) (hl.add (t := 2) (hl.add (t := 4) (hl.add (t := 7) (hl.add (t := 18) (hl.add (t := 90) (hl.nil) rfl) rfl) rfl) rfl) rfl) rfl; clear hl; have hl := hl2; clear hl2
                    refine then_normal ?_
                    refine c_cond hl rfl ?_ ?_
                    · intro hc10
                      try simp only [decide_eq_true_eq, decide_eq_false_iff_not, Bool.not_eq_true', Bool.not_eq_false', Bool.not_eq_true, Bool.not_eq_false, Bool.and_eq_true, Bool.or_eq_true, Bool.and_eq_false_iff, Bool.or_eq_false_iff, Bool.not_not, ne_eq, Int.not_lt, Int.not_le, Decidable.not_not, beq_iff_eq, bne_iff_ne] at hc10
                      exfalso; first | contradiction | omega | (rw [hb] at hc0; simp at hc0)
                    · intro hc10
                      try simp only [decide_eq_true_eq, decide_eq_false_iff_not, Bool.not_eq_true', Bool.not_eq_false', Bool.not_eq_true, Bool.not_eq_false, Bool.and_eq_true, Bool.or_eq_true, Bool.and_eq_false_iff, Bool.or_eq_false_iff, Bool.not_not, ne_eq, Int.not_lt, Int.not_le, Decidable.not_not, beq_iff_eq, bne_iff_ne] at hc10
                      refine c_seq ?_
                      refine c_region ?_
                      refine wl (wl_val hl rfl trivial (r_eql hl rfl rfl) ?_)
                      clear hl a; intro a hl
                      refine wl (wl_val hl rfl trivial (r_assign hl rfl) ?_)
                      clear hl a; intro a hl
                      refine w_nil ?_
                      have hl2 := hl.add (t := 0) (hl.add (t := 2) (hl.add (t := 4) (hl.add (t := 7) (hl.add (t := 18) (hl.add (t := 114) (hl.nil) rfl) rfl) rfl) rfl) rfl) rfl; clear hl; have hl := hl2; clear hl2
                      refine then_normal ?_
                      refine c_cond hl rfl ?_ ?_
                      · intro hc12
                        try simp only [decide_eq_true_eq, decide_eq_false_iff_not, Bool.not_eq_true', Bool.not_eq_false', Bool.not_eq_true, Bool.not_eq_false, Bool.and_eq_true, Bool.or_eq_true, Bool.and_eq_false_iff, Bool.or_eq_false_iff, Bool.not_not, ne_eq, Int.not_lt, Int.not_le, Decidable.not_not, beq_iff_eq, bne_iff_ne] at hc12
                        exfalso; first | contradiction | omega | (rw [hb] at hc0; simp at hc0)
                      · intro hc12
                        try simp only [decide_eq_true_eq, decide_eq_false_iff_not, Bool.not_eq_true', Bool.not_eq_false', Bool.not_eq_true, Bool.not_eq_false, Bool.and_eq_true, Bool.or_eq_true, Bool.and_eq_false_iff, Bool.or_eq_false_iff, Bool.not_not, ne_eq, Int.not_lt, Int.not_le, Decidable.not_not, beq_iff_eq, bne_iff_ne] at hc12
                        refine c_seq ?_
                        refine c_region ?_
                        refine wl (wl_val hl rfl trivial (r_eql hl rfl rfl) ?_)
                        clear hl a; intro a hl
                        refine wl (wl_val hl rfl trivial (r_assign hl rfl) ?_)
                        clear hl a; intro a hl
                        refine w_nil ?_
                        have hl2 := hl.add (t := 0) (hl.add (t := 2) (hl.add (t := 4) (hl.add (t := 7) (hl.add (t := 18) (hl.add (t := 130) (hl.nil) rfl) rfl) rfl) rfl) rfl) rfl; clear hl; have hl := hl2; clear hl2
                        refine then_normal ?_
                        refine c_cond hl rfl ?_ ?_
                        · intro hc14
                          try simp only [decide_eq_true_eq, decide_eq_false_iff_not, Bool.not_eq_true', Bool.not_eq_false', Bool.not_eq_true, Bool.not_eq_false, Bool.and_eq_true, Bool.or_eq_true, Bool.and_eq_false_iff, Bool.or_eq_false_iff, Bool.not_not, ne_eq, Int.not_lt, Int.not_le, Decidable.not_not, beq_iff_eq, bne_iff_ne] at hc14
                          refine c_seq ?_
                          refine c_region ?_
                          refine wl (wl_val hl rfl trivial (r_move hl rfl) ?_)
                          clear hl a; intro a hl
                          refine wl (wl_val hl rfl trivial (r_nilCheck hl rfl) ?_)
                          clear hl a; intro a hl
                          refine wl (w_load hl hh rfl trivial one53 rfl (by repeat (first | exact find_head | apply find_tail | apply find_skip)) (by first | exact hct | exact hcr | exact hch | exact hcl | rfl) ?_)
                          clear hl a; intro a hl
                          refine wl (wl_val hl rfl trivial (r_lenS hl rfl slc53) ?_)
                          clear hl a; intro a hl
                          refine wl (wl_val hl rfl trivial (r_gtr hl rfl rfl) ?_)
                          clear hl a; intro a hl
                          refine w_nil ?_
                          have hl2 := hl.add (t := 4) (hl.add (t := 7) (hl.add (t := 136) (hl.nil) rfl) rfl) rfl; clear hl; have hl := hl2; clear hl2
                          refine then_normal ?_
                          refine c_cond hl rfl ?_ ?_
                          · intro hc15
                            try simp only [decide_eq_true_eq, decide_eq_false_iff_not, Bool.not_eq_true', Bool.not_eq_false', Bool.not_eq_true, Bool.not_eq_false, Bool.and_eq_true, Bool.or_eq_true, Bool.and_eq_false_iff, Bool.or_eq_false_iff, Bool.not_not, ne_eq, Int.not_lt, Int.not_le, Decidable.not_not, beq_iff_eq, bne_iff_ne] at hc15
                            obtain ⟨b1, j1, hq1, hjl1, hjc1, hE1⟩ := row_pos hW.r (by omega)
                            rw [hE1] at hh
                            try simp only [List.cons_append, List.nil_append, List.append_assoc, List.append_nil] at hh
                            refine c_draw [(k4, C [.int .u8 o.k, .int .i64 o.A, .int .i64 o.B, .slice p o.tx.length cap, .int .u8 o.m.k, .int .u8 o.m.d, .int .u32 o.m.e, .int .u32 o.m.b, .bool o.m.y, .int .u32 o.m.r, .int .u32 o.m.s, .string o.m.t, .int .u8 o.v.k, .int .u8 o.v.a, .int .u8 o.v.b, .int .u8 o.v.w, .int .u8 o.v.da, .int .u8 o.v.dl] 45)] [14] mixed hh ?_
                            clear hh w; intro w hh
                            have hM : Mem [(k4, C [.int .u8 o.k, .int .i64 o.A, .int .i64 o.B, .slice p o.tx.length cap, .int .u8 o.m.k, .int .u8 o.m.d, .int .u32 o.m.e, .int .u32 o.m.b, .bool o.m.y, .int .u32 o.m.r, .int .u32 o.m.s, .string o.m.t, .int .u8 o.v.k, .int .u8 o.v.a, .int .u8 o.v.b, .int .u8 o.v.w, .int .u8 o.v.da, .int .u8 o.v.dl] 45)] w := (memK hh (by repeat (first | exact keeps_nil | apply keeps_cons (by repeat (first | exact find_head | apply find_tail | apply find_skip)) (by first  | rfl) | exact keeps_self | exact keeps_left | apply keeps_app | apply keeps_mv | apply keeps_skip)))
                            refine d_take (i := 0) hl rfl (by kernel_rfl) (by kernel_rfl) (by kernel_rfl) (by kernel_rfl) (by kernel_rfl) rfl trivial (fun _ _ _ h => h) hM (fun w hC => r_move hl rfl) rfl ?_
                            clear hl a; intro a hl
                            refine d_take (i := 1) hl rfl (by kernel_rfl) (by kernel_rfl) (by kernel_rfl) (by kernel_rfl) (by kernel_rfl) rfl trivial (fun _ _ _ h => h) hM (fun w hC => r_move hl rfl) rfl ?_
                            clear hl a; intro a hl
                            refine d_take (i := 2) hl rfl (by kernel_rfl) (by kernel_rfl) (by kernel_rfl) (by kernel_rfl) (by kernel_rfl) rfl trivial (fun _ _ _ h => h) hM (fun w hC => r_nilCheck hl rfl) rfl ?_
                            clear hl a; intro a hl
                            refine d_take (i := 4) hl rfl (by kernel_rfl) (by kernel_rfl) (by kernel_rfl) (by kernel_rfl) (by kernel_rfl) rfl trivial (fun _ _ _ h => h) hM (fun w hC => r_field hl rfl fld45_1) rfl ?_
                            clear hl a; intro a hl
                            refine d_take (i := 5) hl rfl (by kernel_rfl) (by kernel_rfl) (by kernel_rfl) (by kernel_rfl) (by kernel_rfl) rfl trivial (fun _ _ _ h => h) hM (fun w hC => r_loadC hl rfl one3 hC (by repeat (first | exact find_head | apply find_tail | apply find_skip)) (by first | exact hct | exact hcr | exact hch | exact hcl | rfl)) rfl ?_
                            clear hl a; intro a hl
                            refine d_take (i := 6) hl rfl (by kernel_rfl) (by kernel_rfl) (by kernel_rfl) (by kernel_rfl) (by kernel_rfl) rfl trivial (fun _ _ _ h => h) hM (fun w hC => r_move hl rfl) rfl ?_
                            clear hl a; intro a hl
                            refine d_take (i := 7) hl rfl (by kernel_rfl) (by kernel_rfl) (by kernel_rfl) (by kernel_rfl) (by kernel_rfl) rfl trivial (fun _ _ _ h => h) hM (fun w hC => r_nilCheck hl rfl) rfl ?_
                            clear hl a; intro a hl
                            refine d_two (i := 3) (j := 8) (by kernel_rfl) rfl rfl ?_ ?_
                            ·
                              try clear hM
                              refine id (w_load hl hh rfl trivial one53 rfl (by repeat (first | exact find_head | apply find_tail | apply find_skip)) (by first | exact hct | exact hcr | exact hch | exact hcl | rfl) ?_)
                              clear hl a; intro a hl
                              rw [hq1] at hl
                              have hM : Mem [(k4, C [.int .u8 o.k, .int .i64 o.A, .int .i64 o.B, .slice p o.tx.length cap, .int .u8 o.m.k, .int .u8 o.m.d, .int .u32 o.m.e, .int .u32 o.m.b, .bool o.m.y, .int .u32 o.m.r, .int .u32 o.m.s, .string o.m.t, .int .u8 o.v.k, .int .u8 o.v.a, .int .u8 o.v.b, .int .u8 o.v.w, .int .u8 o.v.da, .int .u8 o.v.dl] 45)] w := (memK hh (by repeat (first | exact keeps_nil | apply keeps_cons (by repeat (first | exact find_head | apply find_tail | apply find_skip)) (by first  | rfl) | exact keeps_self | exact keeps_left | apply keeps_app | apply keeps_mv | apply keeps_skip)))
                              refine d_step (fun _ => hM) ?_
                              refine d_one (i := 8) (by kernel_rfl) rfl ?_
                              try clear hM
                              refine id (w_load hl hh rfl trivial one53 rfl (by repeat (first | exact find_head | apply find_tail | apply find_skip)) (by first | exact hct | exact hcr | exact hch | exact hcl | rfl) ?_)
                              clear hl a; intro a hl
                              try rw [hq1] at hl
                              have hM : Mem [(k4, C [.int .u8 o.k, .int .i64 o.A, .int .i64 o.B, .slice p o.tx.length cap, .int .u8 o.m.k, .int .u8 o.m.d, .int .u32 o.m.e, .int .u32 o.m.b, .bool o.m.y, .int .u32 o.m.r, .int .u32 o.m.s, .string o.m.t, .int .u8 o.v.k, .int .u8 o.v.a, .int .u8 o.v.b, .int .u8 o.v.w, .int .u8 o.v.da, .int .u8 o.v.dl] 45)] w := (memK hh (by repeat (first | exact keeps_nil | apply keeps_cons (by repeat (first | exact find_head | apply find_tail | apply find_skip)) (by first  | rfl) | exact keeps_self | exact keeps_left | apply keeps_app | apply keeps_mv | apply keeps_skip)))
                              refine d_step (fun _ => hM) ?_
                              refine d_take (i := 9) hl rfl (by kernel_rfl) (by kernel_rfl) (by kernel_rfl) (by kernel_rfl) (by kernel_rfl) rfl trivial (fun _ _ _ h => h) hM (fun w hC => r_lenS hl rfl slc53) rfl ?_
                              clear hl a; intro a hl
                              refine d_one (i := 10) (by kernel_rfl) rfl ?_
                              try clear hM
                              refine id (w_call hl hh rfl trivial rfl cal22 rfl (mod_spec o.A (W.tg.length : Int) (by omega) (by omega)) (by repeat (first | exact keeps_nil | apply keeps_cons (by repeat (first | exact find_head | apply find_tail | apply find_skip)) (by first  | rfl) | exact keeps_self | exact keeps_left | apply keeps_app | apply keeps_mv | apply keeps_skip)) trivial ?_)
                              clear hl hh a w; intro vc Fc a w hR hl hh
                              obtain ⟨rfl, rfl⟩ := hR
                              try simp only [List.cons_append, List.nil_append, List.append_assoc, List.append_nil] at hh
                              obtain ⟨i9, hi9, hi8⟩ := mod_nat o.A (show 0 < W.tg.length by omega)
                              rw [hi9] at hl
                              obtain ⟨m, hm6⟩ : ∃ m, W.tg[i9]? = some m := ⟨_, List.getElem?_eq_getElem hi8⟩
                              have hd1 := fl_at msc_len hm6 j1
                              have hM : Mem [(k4, C [.int .u8 o.k, .int .i64 o.A, .int .i64 o.B, .slice p o.tx.length cap, .int .u8 o.m.k, .int .u8 o.m.d, .int .u32 o.m.e, .int .u32 o.m.b, .bool o.m.y, .int .u32 o.m.r, .int .u32 o.m.s, .string o.m.t, .int .u8 o.v.k, .int .u8 o.v.a, .int .u8 o.v.b, .int .u8 o.v.w, .int .u8 o.v.da, .int .u8 o.v.dl] 45)] w := (memK hh (by repeat (first | exact keeps_nil | apply keeps_cons (by repeat (first | exact find_head | apply find_tail | apply find_skip)) (by first  | rfl) | exact keeps_self | exact keeps_left | apply keeps_app | apply keeps_mv | apply keeps_skip)))
                              refine d_step (fun _ => hM) ?_
                              refine d_take (i := 11) hl rfl (by kernel_rfl) (by kernel_rfl) (by kernel_rfl) (by kernel_rfl) (by kernel_rfl) rfl trivial (fun _ _ _ h => h) hM (fun w hC => r_indexS hl rfl rfl slc53 (by omega) (by omega) (by first | (simp only [Int.reduceToNat]; rfl) | exact toNat_add1 _ | exact toNat_add2 _ _ | exact toNat_emod _ _ | exact Int.toNat_natCast _ | rfl)) rfl ?_
                              clear hl a; intro a hl
                              refine d_one (i := 12) (by kernel_rfl) rfl ?_
                              try clear hM
                              refine id (w_loadA hl hh rfl trivial agg38 rfl (by repeat (first | exact find_head | apply find_tail | apply find_skip)) (by first | exact hd1 | rfl) (by rfl) ?_)
                              clear hl a; intro a hl
                              have hM : Mem [(k4, C [.int .u8 o.k, .int .i64 o.A, .int .i64 o.B, .slice p o.tx.length cap, .int .u8 o.m.k, .int .u8 o.m.d, .int .u32 o.m.e, .int .u32 o.m.b, .bool o.m.y, .int .u32 o.m.r, .int .u32 o.m.s, .string o.m.t, .int .u8 o.v.k, .int .u8 o.v.a, .int .u8 o.v.b, .int .u8 o.v.w, .int .u8 o.v.da, .int .u8 o.v.dl] 45)] w := (memK hh (by repeat (first | exact keeps_nil | apply keeps_cons (by repeat (first | exact find_head | apply find_tail | apply find_skip)) (by first  | rfl) | exact keeps_self | exact keeps_left | apply keeps_app | apply keeps_mv | apply keeps_skip)))
                              refine d_step (fun _ => hM) ?_
                              refine d_one (i := 13) (by kernel_rfl) rfl ?_
                              try clear hM
                              refine id (w_buildSlice hl hh rfl trivial app53 zero38 rfl rfl rfl rfl rfl (fill1 rfl (msc_len _)) ?_)
                              clear hl hh a w; intro k150 a w hl hh
                              have hM : Mem [(k4, C [.int .u8 o.k, .int .i64 o.A, .int .i64 o.B, .slice p o.tx.length cap, .int .u8 o.m.k, .int .u8 o.m.d, .int .u32 o.m.e, .int .u32 o.m.b, .bool o.m.y, .int .u32 o.m.r, .int .u32 o.m.s, .string o.m.t, .int .u8 o.v.k, .int .u8 o.v.a, .int .u8 o.v.b, .int .u8 o.v.w, .int .u8 o.v.da, .int .u8 o.v.dl] 45)] w := (memK hh (by repeat (first | exact keeps_nil | apply keeps_cons (by repeat (first | exact find_head | apply find_tail | apply find_skip)) (by first  | rfl) | exact keeps_self | exact keeps_left | apply keeps_app | apply keeps_mv | apply keeps_skip)))
                              refine d_step (fun _ => hM) ?_
                              refine d_one (i := 14) (by kernel_rfl) rfl ?_
                              try clear hM
                              refine id (w_call hl hh rfl trivial rfl cal17 rfl (post_spec wb W.c (0 + 19) W.tg (some ⟨b1, 0, none⟩) W.gc [(b1, C (fl msc W.tg ++ j1) 38)] (by rw [← hq1, ← hE1]; exact hW.r) (by rw [← hq1]; exact hcr) hW.rl [m] (some ⟨k150, 0, none⟩) 1 [(k150, C (msc m) 38)] (row1b k150 m) (by simp)) (by repeat (first | exact keeps_nil | apply keeps_cons (by repeat (first | exact find_head | apply find_tail | apply find_skip)) (by first  | rfl) | exact keeps_self | exact keeps_left | apply keeps_app | apply keeps_mv | apply keeps_skip)) trivial ?_)
                              clear hl hh a w; intro vc Fc a w hR hl hh
                              obtain ⟨rfl, p6, c6, E6, hR6, rfl⟩ := hR
                              try simp only [List.cons_append, List.nil_append, List.append_assoc, List.append_nil] at hh
                              rw [wc_stg W hW.dl p6 _ c6 E6] at hh
                              refine d_step (fun h => absurd h (by decide)) ?_
                              refine d_done (by kernel_rfl) ?_
                              try clear hM
                              have hl2 := hl.nil; clear hl; have hl := hl2; clear hl2
                              refine blk_normal ?_
                              refine then_normal ?_
                              refine c_seq ?_
                              refine c_region ?_
                              refine wl (wl_val hl rfl trivial (r_assign hl rfl) ?_)
                              clear hl a; intro a hl
                              refine w_nil ?_
                              have hl2 := hl.add (t := 6) (hl.nil) rfl; clear hl; have hl := hl2; clear hl2
                              refine then_normal ?_
                              refine wp_ret ?_
                              first
                              | (have hq := hR6; refine f_ret1 (F' := Fx ++ ((wb, C (WoV.c { W with tg := postP W.tg [m], gp := p6, gc := c6, gE := E6 }) 55) :: (W.tE ++ (E6 ++ (DsF W.ds ++ WoV.GF W Z))))) hl hh rfl rfl (by repeat (first | exact keeps_nil | apply keeps_cons (by repeat (first | exact find_head | apply find_tail | apply find_skip)) (by first  | rfl) | exact keeps_self | exact keeps_left | apply keeps_app | apply keeps_mv | apply keeps_skip)) ?_; exact StepO.same (W' := { W with tg := postP W.tg [m], gp := p6, gc := c6, gE := E6 }) (tg_ok hW hR6 (fun m' h => post_in hm6 m' (.inl h)) (postP_len _ _)) (tg_K (Q.jk hJ) (post_in hm6) p6 c6 E6) (hn.cg rfl rfl) hMx rfl)
                              | (refine f_ret1 (F' := Fx ++ ((wb, C W.c 55) :: (W.tE ++ (W.gE ++ (DsF W.ds ++ WoV.GF W Z))))) hl hh rfl rfl (by repeat (first | exact keeps_nil | apply keeps_cons (by repeat (first | exact find_head | apply find_tail | apply find_skip)) (by first  | rfl) | exact keeps_self | exact keeps_left | apply keeps_app | apply keeps_mv | apply keeps_skip)) ?_; exact StepO.same hW (Q.jk hJ) hn hMx rfl)
                            ·
                              try clear hM
                              refine id (w_load hl hh rfl trivial one53 rfl (by repeat (first | exact find_head | apply find_tail | apply find_skip)) (by first | exact hct | exact hcr | exact hch | exact hcl | rfl) ?_)
                              clear hl a; intro a hl
                              try rw [hq1] at hl
                              have hM : Mem [(k4, C [.int .u8 o.k, .int .i64 o.A, .int .i64 o.B, .slice p o.tx.length cap, .int .u8 o.m.k, .int .u8 o.m.d, .int .u32 o.m.e, .int .u32 o.m.b, .bool o.m.y, .int .u32 o.m.r, .int .u32 o.m.s, .string o.m.t, .int .u8 o.v.k, .int .u8 o.v.a, .int .u8 o.v.b, .int .u8 o.v.w, .int .u8 o.v.da, .int .u8 o.v.dl] 45)] w := (memK hh (by repeat (first | exact keeps_nil | apply keeps_cons (by repeat (first | exact find_head | apply find_tail | apply find_skip)) (by first  | rfl) | exact keeps_self | exact keeps_left | apply keeps_app | apply keeps_mv | apply keeps_skip)))
                              refine d_step (fun _ => hM) ?_
                              refine d_take (i := 9) hl rfl (by kernel_rfl) (by kernel_rfl) (by kernel_rfl) (by kernel_rfl) (by kernel_rfl) rfl trivial (fun _ _ _ h => h) hM (fun w hC => r_lenS hl rfl slc53) rfl ?_
                              clear hl a; intro a hl
                              refine d_two (i := 3) (j := 10) (by kernel_rfl) rfl rfl ?_ ?_
                              ·
                                try clear hM
                                refine id (w_load hl hh rfl trivial one53 rfl (by repeat (first | exact find_head | apply find_tail | apply find_skip)) (by first | exact hct | exact hcr | exact hch | exact hcl | rfl) ?_)
                                clear hl a; intro a hl
                                rw [hq1] at hl
                                have hM : Mem [(k4, C [.int .u8 o.k, .int .i64 o.A, .int .i64 o.B, .slice p o.tx.length cap, .int .u8 o.m.k, .int .u8 o.m.d, .int .u32 o.m.e, .int .u32 o.m.b, .bool o.m.y, .int .u32 o.m.r, .int .u32 o.m.s, .string o.m.t, .int .u8 o.v.k, .int .u8 o.v.a, .int .u8 o.v.b, .int .u8 o.v.w, .int .u8 o.v.da, .int .u8 o.v.dl] 45)] w := (memK hh (by repeat (first | exact keeps_nil | apply keeps_cons (by repeat (first | exact find_head | apply find_tail | apply find_skip)) (by first  | rfl) | exact keeps_self | exact keeps_left | apply keeps_app | apply keeps_mv | apply keeps_skip)))
                                refine d_step (fun _ => hM) ?_
                                refine d_one (i := 10) (by kernel_rfl) rfl ?_
                                try clear hM
                                refine id (w_call hl hh rfl trivial rfl cal22 rfl (mod_spec o.A (W.tg.length : Int) (by omega) (by omega)) (by repeat (first | exact keeps_nil | apply keeps_cons (by repeat (first | exact find_head | apply find_tail | apply find_skip)) (by first  | rfl) | exact keeps_self | exact keeps_left | apply keeps_app | apply keeps_mv | apply keeps_skip)) trivial ?_)
                                clear hl hh a w; intro vc Fc a w hR hl hh
                                obtain ⟨rfl, rfl⟩ := hR
                                try simp only [List.cons_append, List.nil_append, List.append_assoc, List.append_nil] at hh
                                obtain ⟨i9, hi9, hi8⟩ := mod_nat o.A (show 0 < W.tg.length by omega)
                                rw [hi9] at hl
                                obtain ⟨m, hm6⟩ : ∃ m, W.tg[i9]? = some m := ⟨_, List.getElem?_eq_getElem hi8⟩
                                have hd1 := fl_at msc_len hm6 j1
                                have hM : Mem [(k4, C [.int .u8 o.k, .int .i64 o.A, .int .i64 o.B, .slice p o.tx.length cap, .int .u8 o.m.k, .int .u8 o.m.d, .int .u32 o.m.e, .int .u32 o.m.b, .bool o.m.y, .int .u32 o.m.r, .int .u32 o.m.s, .string o.m.t, .int .u8 o.v.k, .int .u8 o.v.a, .int .u8 o.v.b, .int .u8 o.v.w, .int .u8 o.v.da, .int .u8 o.v.dl] 45)] w := (memK hh (by repeat (first | exact keeps_nil | apply keeps_cons (by repeat (first | exact find_head | apply find_tail | apply find_skip)) (by first  | rfl) | exact keeps_self | exact keeps_left | apply keeps_app | apply keeps_mv | apply keeps_skip)))
                                refine d_step (fun _ => hM) ?_
                                refine d_take (i := 11) hl rfl (by kernel_rfl) (by kernel_rfl) (by kernel_rfl) (by kernel_rfl) (by kernel_rfl) rfl trivial (fun _ _ _ h => h) hM (fun w hC => r_indexS hl rfl rfl slc53 (by omega) (by omega) (by first | (simp only [Int.reduceToNat]; rfl) | exact toNat_add1 _ | exact toNat_add2 _ _ | exact toNat_emod _ _ | exact Int.toNat_natCast _ | rfl)) rfl ?_
                                clear hl a; intro a hl
                                refine d_one (i := 12) (by kernel_rfl) rfl ?_
                                try clear hM
                                refine id (w_loadA hl hh rfl trivial agg38 rfl (by repeat (first | exact find_head | apply find_tail | apply find_skip)) (by first | exact hd1 | rfl) (by rfl) ?_)
                                clear hl a; intro a hl
                                have hM : Mem [(k4, C [.int .u8 o.k, .int .i64 o.A, .int .i64 o.B, .slice p o.tx.length cap, .int .u8 o.m.k, .int .u8 o.m.d, .int .u32 o.m.e, .int .u32 o.m.b, .bool o.m.y, .int .u32 o.m.r, .int .u32 o.m.s, .string o.m.t, .int .u8 o.v.k, .int .u8 o.v.a, .int .u8 o.v.b, .int .u8 o.v.w, .int .u8 o.v.da, .int .u8 o.v.dl] 45)] w := (memK hh (by repeat (first | exact keeps_nil | apply keeps_cons (by repeat (first | exact find_head | apply find_tail | apply find_skip)) (by first  | rfl) | exact keeps_self | exact keeps_left | apply keeps_app | apply keeps_mv | apply keeps_skip)))
                                refine d_step (fun _ => hM) ?_
                                refine d_one (i := 13) (by kernel_rfl) rfl ?_
                                try clear hM
                                refine id (w_buildSlice hl hh rfl trivial app53 zero38 rfl rfl rfl rfl rfl (fill1 rfl (msc_len _)) ?_)
                                clear hl hh a w; intro k150 a w hl hh
                                have hM : Mem [(k4, C [.int .u8 o.k, .int .i64 o.A, .int .i64 o.B, .slice p o.tx.length cap, .int .u8 o.m.k, .int .u8 o.m.d, .int .u32 o.m.e, .int .u32 o.m.b, .bool o.m.y, .int .u32 o.m.r, .int .u32 o.m.s, .string o.m.t, .int .u8 o.v.k, .int .u8 o.v.a, .int .u8 o.v.b, .int .u8 o.v.w, .int .u8 o.v.da, .int .u8 o.v.dl] 45)] w := (memK hh (by repeat (first | exact keeps_nil | apply keeps_cons (by repeat (first | exact find_head | apply find_tail | apply find_skip)) (by first  | rfl) | exact keeps_self | exact keeps_left | apply keeps_app | apply keeps_mv | apply keeps_skip)))
                                refine d_step (fun _ => hM) ?_
                                refine d_one (i := 14) (by kernel_rfl) rfl ?_
                                try clear hM
                                refine id (w_call hl hh rfl trivial rfl cal17 rfl (post_spec wb W.c (0 + 19) W.tg (some ⟨b1, 0, none⟩) W.gc [(b1, C (fl msc W.tg ++ j1) 38)] (by rw [← hq1, ← hE1]; exact hW.r) (by rw [← hq1]; exact hcr) hW.rl [m] (some ⟨k150, 0, none⟩) 1 [(k150, C (msc m) 38)] (row1b k150 m) (by simp)) (by repeat (first | exact keeps_nil | apply keeps_cons (by repeat (first | exact find_head | apply find_tail | apply find_skip)) (by first  | rfl) | exact keeps_self | exact keeps_left | apply keeps_app | apply keeps_mv | apply keeps_skip)) trivial ?_)
                                clear hl hh a w; intro vc Fc a w hR hl hh
                                obtain ⟨rfl, p6, c6, E6, hR6, rfl⟩ := hR
                                try simp only [List.cons_append, List.nil_append, List.append_assoc, List.append_nil] at hh
                                rw [wc_stg W hW.dl p6 _ c6 E6] at hh
                                refine d_step (fun h => absurd h (by decide)) ?_
                                refine d_done (by kernel_rfl) ?_
                                try clear hM
                                have hl2 := hl.nil; clear hl; have hl := hl2; clear hl2
                                refine blk_normal ?_
                                refine then_normal ?_
                                refine c_seq ?_
                                refine c_region ?_
                                refine wl (wl_val hl rfl trivial (r_assign hl rfl) ?_)
                                clear hl a; intro a hl
                                refine w_nil ?_
                                have hl2 := hl.add (t := 6) (hl.nil) rfl; clear hl; have hl := hl2; clear hl2
                                refine then_normal ?_
                                refine wp_ret ?_
                                first
                                | (have hq := hR6; refine f_ret1 (F' := Fx ++ ((wb, C (WoV.c { W with tg := postP W.tg [m], gp := p6, gc := c6, gE := E6 }) 55) :: (W.tE ++ (E6 ++ (DsF W.ds ++ WoV.GF W Z))))) hl hh rfl rfl (by repeat (first | exact keeps_nil | apply keeps_cons (by repeat (first | exact find_head | apply find_tail | apply find_skip)) (by first  | rfl) | exact keeps_self | exact keeps_left | apply keeps_app | apply keeps_mv | apply keeps_skip)) ?_; exact StepO.same (W' := { W with tg := postP W.tg [m], gp := p6, gc := c6, gE := E6 }) (tg_ok hW hR6 (fun m' h => post_in hm6 m' (.inl h)) (postP_len _ _)) (tg_K (Q.jk hJ) (post_in hm6) p6 c6 E6) (hn.cg rfl rfl) hMx rfl)
                                | (refine f_ret1 (F' := Fx ++ ((wb, C W.c 55) :: (W.tE ++ (W.gE ++ (DsF W.ds ++ WoV.GF W Z))))) hl hh rfl rfl (by repeat (first | exact keeps_nil | apply keeps_cons (by repeat (first | exact find_head | apply find_tail | apply find_skip)) (by first  | rfl) | exact keeps_self | exact keeps_left | apply keeps_app | apply keeps_mv | apply keeps_skip)) ?_; exact StepO.same hW (Q.jk hJ) hn hMx rfl)
                              ·
                                try clear hM
                                refine id (w_call hl hh rfl trivial rfl cal22 rfl (mod_spec o.A (W.tg.length : Int) (by omega) (by omega)) (by repeat (first | exact keeps_nil | apply keeps_cons (by repeat (first | exact find_head | apply find_tail | apply find_skip)) (by first  | rfl) | exact keeps_self | exact keeps_left | apply keeps_app | apply keeps_mv | apply keeps_skip)) trivial ?_)
                                clear hl hh a w; intro vc Fc a w hR hl hh
                                obtain ⟨rfl, rfl⟩ := hR
                                try simp only [List.cons_append, List.nil_append, List.append_assoc, List.append_nil] at hh
                                obtain ⟨i9, hi9, hi8⟩ := mod_nat o.A (show 0 < W.tg.length by omega)
                                rw [hi9] at hl
                                obtain ⟨m, hm6⟩ : ∃ m, W.tg[i9]? = some m := ⟨_, List.getElem?_eq_getElem hi8⟩
                                have hd1 := fl_at msc_len hm6 j1
                                have hM : Mem [(k4, C [.int .u8 o.k, .int .i64 o.A, .int .i64 o.B, .slice p o.tx.length cap, .int .u8 o.m.k, .int .u8 o.m.d, .int .u32 o.m.e, .int .u32 o.m.b, .bool o.m.y, .int .u32 o.m.r, .int .u32 o.m.s, .string o.m.t, .int .u8 o.v.k, .int .u8 o.v.a, .int .u8 o.v.b, .int .u8 o.v.w, .int .u8 o.v.da, .int .u8 o.v.dl] 45)] w := (memK hh (by repeat (first | exact keeps_nil | apply keeps_cons (by repeat (first | exact find_head | apply find_tail | apply find_skip)) (by first  | rfl) | exact keeps_self | exact keeps_left | apply keeps_app | apply keeps_mv | apply keeps_skip)))
                                refine d_step (fun _ => hM) ?_
                                refine d_one (i := 3) (by kernel_rfl) rfl ?_
                                try clear hM
                                refine id (w_load hl hh rfl trivial one53 rfl (by repeat (first | exact find_head | apply find_tail | apply find_skip)) (by first | exact hct | exact hcr | exact hch | exact hcl | rfl) ?_)
                                clear hl a; intro a hl
                                rw [hq1] at hl
                                have hM : Mem [(k4, C [.int .u8 o.k, .int .i64 o.A, .int .i64 o.B, .slice p o.tx.length cap, .int .u8 o.m.k, .int .u8 o.m.d, .int .u32 o.m.e, .int .u32 o.m.b, .bool o.m.y, .int .u32 o.m.r, .int .u32 o.m.s, .string o.m.t, .int .u8 o.v.k, .int .u8 o.v.a, .int .u8 o.v.b, .int .u8 o.v.w, .int .u8 o.v.da, .int .u8 o.v.dl] 45)] w := (memK hh (by repeat (first | exact keeps_nil | apply keeps_cons (by repeat (first | exact find_head | apply find_tail | apply find_skip)) (by first  | rfl) | exact keeps_self | exact keeps_left | apply keeps_app | apply keeps_mv | apply keeps_skip)))
                                refine d_step (fun _ => hM) ?_
                                refine d_take (i := 11) hl rfl (by kernel_rfl) (by kernel_rfl) (by kernel_rfl) (by kernel_rfl) (by kernel_rfl) rfl trivial (fun _ _ _ h => h) hM (fun w hC => r_indexS hl rfl rfl slc53 (by omega) (by omega) (by first | (simp only [Int.reduceToNat]; rfl) | exact toNat_add1 _ | exact toNat_add2 _ _ | exact toNat_emod _ _ | exact Int.toNat_natCast _ | rfl)) rfl ?_
                                clear hl a; intro a hl
                                refine d_one (i := 12) (by kernel_rfl) rfl ?_
                                try clear hM
                                refine id (w_loadA hl hh rfl trivial agg38 rfl (by repeat (first | exact find_head | apply find_tail | apply find_skip)) (by first | exact hd1 | rfl) (by rfl) ?_)
                                clear hl a; intro a hl
                                have hM : Mem [(k4, C [.int .u8 o.k, .int .i64 o.A, .int .i64 o.B, .slice p o.tx.length cap, .int .u8 o.m.k, .int .u8 o.m.d, .int .u32 o.m.e, .int .u32 o.m.b, .bool o.m.y, .int .u32 o.m.r, .int .u32 o.m.s, .string o.m.t, .int .u8 o.v.k, .int .u8 o.v.a, .int .u8 o.v.b, .int .u8 o.v.w, .int .u8 o.v.da, .int .u8 o.v.dl] 45)] w := (memK hh (by repeat (first | exact keeps_nil | apply keeps_cons (by repeat (first | exact find_head | apply find_tail | apply find_skip)) (by first  | rfl) | exact keeps_self | exact keeps_left | apply keeps_app | apply keeps_mv | apply keeps_skip)))
                                refine d_step (fun _ => hM) ?_
                                refine d_one (i := 13) (by kernel_rfl) rfl ?_
                                try clear hM
                                refine id (w_buildSlice hl hh rfl trivial app53 zero38 rfl rfl rfl rfl rfl (fill1 rfl (msc_len _)) ?_)
                                clear hl hh a w; intro k150 a w hl hh
                                have hM : Mem [(k4, C [.int .u8 o.k, .int .i64 o.A, .int .i64 o.B, .slice p o.tx.length cap, .int .u8 o.m.k, .int .u8 o.m.d, .int .u32 o.m.e, .int .u32 o.m.b, .bool o.m.y, .int .u32 o.m.r, .int .u32 o.m.s, .string o.m.t, .int .u8 o.v.k, .int .u8 o.v.a, .int .u8 o.v.b, .int .u8 o.v.w, .int .u8 o.v.da, .int .u8 o.v.dl] 45)] w := (memK hh (by repeat (first | exact keeps_nil | apply keeps_cons (by repeat (first | exact find_head | apply find_tail | apply find_skip)) (by first  | rfl) | exact keeps_self | exact keeps_left | apply keeps_app | apply keeps_mv | apply keeps_skip)))
                                refine d_step (fun _ => hM) ?_
                                refine d_one (i := 14) (by kernel_rfl) rfl ?_
                                try clear hM
                                refine id (w_call hl hh rfl trivial rfl cal17 rfl (post_spec wb W.c (0 + 19) W.tg (some ⟨b1, 0, none⟩) W.gc [(b1, C (fl msc W.tg ++ j1) 38)] (by rw [← hq1, ← hE1]; exact hW.r) (by rw [← hq1]; exact hcr) hW.rl [m] (some ⟨k150, 0, none⟩) 1 [(k150, C (msc m) 38)] (row1b k150 m) (by simp)) (by repeat (first | exact keeps_nil | apply keeps_cons (by repeat (first | exact find_head | apply find_tail | apply find_skip)) (by first  | rfl) | exact keeps_self | exact keeps_left | apply keeps_app | apply keeps_mv | apply keeps_skip)) trivial ?_)
                                clear hl hh a w; intro vc Fc a w hR hl hh
                                obtain ⟨rfl, p6, c6, E6, hR6, rfl⟩ := hR
                                try simp only [List.cons_append, List.nil_append, List.append_assoc, List.append_nil] at hh
                                rw [wc_stg W hW.dl p6 _ c6 E6] at hh
                                refine d_step (fun h => absurd h (by decide)) ?_
                                refine d_done (by kernel_rfl) ?_
                                try clear hM
                                have hl2 := hl.nil; clear hl; have hl := hl2; clear hl2
                                refine blk_normal ?_
                                refine then_normal ?_
                                refine c_seq ?_
                                refine c_region ?_
                                refine wl (wl_val hl rfl trivial (r_assign hl rfl) ?_)
                                clear hl a; intro a hl
                                refine w_nil ?_
                                have hl2 := hl.add (t := 6) (hl.nil) rfl; clear hl; have hl := hl2; clear hl2
                                refine then_normal ?_
                                refine wp_ret ?_
                                first
                                | (have hq := hR6; refine f_ret1 (F' := Fx ++ ((wb, C (WoV.c { W with tg := postP W.tg [m], gp := p6, gc := c6, gE := E6 }) 55) :: (W.tE ++ (E6 ++ (DsF W.ds ++ WoV.GF W Z))))) hl hh rfl rfl (by repeat (first | exact keeps_nil | apply keeps_cons (by repeat (first | exact find_head | apply find_tail | apply find_skip)) (by first  | rfl) | exact keeps_self | exact keeps_left | apply keeps_app | apply keeps_mv | apply keeps_skip)) ?_; exact StepO.same (W' := { W with tg := postP W.tg [m], gp := p6, gc := c6, gE := E6 }) (tg_ok hW hR6 (fun m' h => post_in hm6 m' (.inl h)) (postP_len _ _)) (tg_K (Q.jk hJ) (post_in hm6) p6 c6 E6) (hn.cg rfl rfl) hMx rfl)
                                | (refine f_ret1 (F' := Fx ++ ((wb, C W.c 55) :: (W.tE ++ (W.gE ++ (DsF W.ds ++ WoV.GF W Z))))) hl hh rfl rfl (by repeat (first | exact keeps_nil | apply keeps_cons (by repeat (first | exact find_head | apply find_tail | apply find_skip)) (by first  | rfl) | exact keeps_self | exact keeps_left | apply keeps_app | apply keeps_mv | apply keeps_skip)) ?_; exact StepO.same hW (Q.jk hJ) hn hMx rfl)
                          · intro hc15
                            try simp only [decide_eq_true_eq, decide_eq_false_iff_not, Bool.not_eq_true', Bool.not_eq_false', Bool.not_eq_true, Bool.not_eq_false, Bool.and_eq_true, Bool.or_eq_true, Bool.and_eq_false_iff, Bool.or_eq_false_iff, Bool.not_not, ne_eq, Int.not_lt, Int.not_le, Decidable.not_not, beq_iff_eq, bne_iff_ne] at hc15
                            refine wp_skip ?_
                            refine blk_normal ?_
                            refine then_normal ?_
                            refine c_seq ?_
                            refine c_region ?_
                            refine wl (wl_val hl rfl trivial (r_assign hl rfl) ?_)
                            clear hl a; intro a hl
                            refine w_nil ?_
                            have hl2 := hl.add (t := 6) (hl.nil) rfl; clear hl; have hl := hl2; clear hl2
                            refine then_normal ?_
                            refine wp_ret ?_
                            first
                            | (have hq := hR6; refine f_ret1 (F' := Fx ++ ((wb, C (WoV.c { W with tg := postP W.tg [m], gp := p6, gc := c6, gE := E6 }) 55) :: (W.tE ++ (E6 ++ (DsF W.ds ++ WoV.GF W Z))))) hl hh rfl rfl (by repeat (first | exact keeps_nil | apply keeps_cons (by repeat (first | exact find_head | apply find_tail | apply find_skip)) (by first  | rfl) | exact keeps_self | exact keeps_left | apply keeps_app | apply keeps_mv | apply keeps_skip)) ?_; exact StepO.same (W' := { W with tg := postP W.tg [m], gp := p6, gc := c6, gE := E6 }) (tg_ok hW hR6 (fun m' h => post_in hm6 m' (.inl h)) (postP_len _ _)) (tg_K (Q.jk hJ) (post_in hm6) p6 c6 E6) (hn.cg rfl rfl) hMx rfl)
                            | (refine f_ret1 (F' := Fx ++ ((wb, C W.c 55) :: (W.tE ++ (W.gE ++ (DsF W.ds ++ WoV.GF W Z))))) hl hh rfl rfl (by repeat (first | exact keeps_nil | apply keeps_cons (by repeat (first | exact find_head | apply find_tail | apply find_skip)) (by first  | rfl) | exact keeps_self | exact keeps_left | apply keeps_app | apply keeps_mv | apply keeps_skip)) ?_; exact StepO.same hW (Q.jk hJ) hn hMx rfl)
                        · intro hc14
                          try simp only [decide_eq_true_eq, decide_eq_false_iff_not, Bool.not_eq_true', Bool.not_eq_false', Bool.not_eq_true, Bool.not_eq_false, Bool.and_eq_true, Bool.or_eq_true, Bool.and_eq_false_iff, Bool.or_eq_false_iff, Bool.not_not, ne_eq, Int.not_lt, Int.not_le, Decidable.not_not, beq_iff_eq, bne_iff_ne] at hc14
                          exfalso; first | contradiction | omega | (rw [hb] at hc0; simp at hc0)
  · intro hc0
    try simp only [decide_eq_true_eq, decide_eq_false_iff_not, Bool.not_eq_true', Bool.not_eq_false', Bool.not_eq_true, Bool.not_eq_false, Bool.and_eq_true, Bool.or_eq_true, Bool.and_eq_false_iff, Bool.or_eq_false_iff, Bool.not_not, ne_eq, Int.not_lt, Int.not_le, Decidable.not_not, beq_iff_eq, bne_iff_ne] at hc0
    exfalso; first | contradiction | omega | (rw [hb] at hc0; simp at hc0)

set_option maxHeartbeats 8000000 in
theorem step_stub {lb wb : Nat} (L : LawM lb wb) (Q : LawJ L) (Z : List (Nat × Obj)) (W : WoV) (hW : W.ok Z) (n : Nat) (hn9 : n + 200 < 1000000000) (x : L.X) (Fx : List (Nat × Obj)) (hMx : L.M Z x Fx) (hJ : Q.J (W.pl [] []) x) (hn : WI n (W.pl [] [])) (o : OpP) (p : Option Addr) (cap : Nat) (ho : OpOk Z o p cap) (hk : o.k = 13) : Sp Tryz.prog 12 #[.pointer (some ⟨wb, 0, none⟩), .agg ⟨opC o p cap⟩, Lw L.T lb] (Fx ++ WoV.F wb W Z) (fun v F' => StepO Q Z n v F') := by
  refine f_enter (args := [.pointer (some ⟨wb, 0, none⟩), .agg ⟨[.int .u8 o.k, .int .i64 o.A, .int .i64 o.B, .slice p o.tx.length cap, .int .u8 o.m.k, .int .u8 o.m.d, .int .u32 o.m.e, .int .u32 o.m.b, .bool o.m.y, .int .u32 o.m.r, .int .u32 o.m.s, .string o.m.t, .int .u8 o.v.k, .int .u8 o.v.a, .int .u8 o.v.b, .int .u8 o.v.w, .int .u8 o.v.da, .int .u8 o.v.dl]⟩, .iface L.T (.pointer (some ⟨lb, 0, none⟩))]) Tryz.func12 rfl Tryz.ntmps12 rfl ?_
  intro w0 w a hpre hl hh
  generalize hDD : List.map Prod.fst (Fx ++ WoV.F wb W Z) = D at hh ⊢
  simp only [WoV.F] at hh
  have hct := wc_td W hW.dl
  have hcr := wc_tg W hW.dl
  have hch := wc_hn W hW.dl
  have hcl := wc_led W
  have hwl := wc_len W hW.dl
  have ho1 := ho.k
  have ho2 := ho.A
  have ho3 := ho.B
  have htl := hW.tl
  have hrl := hW.rl
  
  simp only [slotsFrom, Nat.reduceAdd] at hl
  refine c_seq ?_
  refine c_region ?_
  refine wl (w_box hl hh rfl trivial rfl rfl ?_)
  clear hl hh a w; intro k4 a w hl hh
  refine wl (wl_val hl rfl trivial (r_assign hl rfl) ?_)
  clear hl a; intro a hl
  refine w_nil ?_
  have hl2 := hl.add (t := 0) (hl.add (t := 2) (hl.add (t := 4) (hl.nil) rfl) rfl) rfl; clear hl; have hl := hl2; clear hl2
  refine then_normal ?_
  refine c_seq ?_
  refine c_region ?_
  refine wl (wl_val hl rfl trivial (r_move hl rfl) ?_)
  clear hl a; intro a hl
  refine wl (wl_val hl rfl trivial (r_nilCheck hl rfl) ?_)
  clear hl a; intro a hl
  refine wl (wl_val hl rfl trivial (r_field hl rfl fld55_3) ?_)
  clear hl a; intro a hl
  refine wl (wl_val hl rfl trivial (r_assign hl rfl) ?_)
  clear hl a; intro a hl
  refine w_nil ?_
  have hl2 := hl.add (t := 0) (hl.add (t := 2) (hl.add (t := 4) (hl.add (t := 7) (hl.nil) rfl) rfl) rfl) rfl; clear hl; have hl := hl2; clear hl2
  refine then_normal ?_
  refine c_seq ?_
  refine c_seq ?_
  refine c_region ?_
  refine wl (wl_val hl rfl trivial (r_field hl rfl fld45_2) ?_)
  clear hl a; intro a hl
  refine wl (w_load hl hh rfl trivial one3 rfl (by repeat (first | exact find_head | apply find_tail | apply find_skip)) (by first | exact hct | exact hcr | exact hch | exact hcl | exact wc_dev W hW.dl hx9 | rfl) ?_)
  clear hl a; intro a hl
  refine wl (w_call hl hh rfl trivial rfl cal18 rfl (odd_spec _ (by omega)) (by repeat (first | exact keeps_nil | apply keeps_cons (by repeat (first | exact find_head | apply find_tail | apply find_skip)) (by first  | rfl) | exact keeps_self | exact keeps_left | apply keeps_app | apply keeps_mv | apply keeps_skip)) trivial ?_)
  clear hl hh a w; intro vc Fc a w hR hl hh
  obtain ⟨rfl, rfl⟩ := hR
  try simp only [List.cons_append, List.nil_append, List.append_assoc, List.append_nil] at hh
  refine w_nil ?_
  have hl2 := hl.add (t := 0) (hl.add (t := 2) (hl.add (t := 4) (hl.add (t := 7) (hl.add (t := 13) (hl.nil) rfl) rfl) rfl) rfl) rfl; clear hl; have hl := hl2; clear hl2
  refine then_normal ?_
  refine c_cond hl rfl ?_ ?_
  · intro hc0
    try simp only [decide_eq_true_eq, decide_eq_false_iff_not, Bool.not_eq_true', Bool.not_eq_false', Bool.not_eq_true, Bool.not_eq_false, Bool.and_eq_true, Bool.or_eq_true, Bool.and_eq_false_iff, Bool.or_eq_false_iff, Bool.not_not, ne_eq, Int.not_lt, Int.not_le, Decidable.not_not, beq_iff_eq, bne_iff_ne] at hc0
    refine c_region ?_
    refine wl (wl_val hl rfl trivial (r_move hl rfl) ?_)
    clear hl a; intro a hl
    refine wl (wl_val hl rfl trivial (r_nilCheck hl rfl) ?_)
    clear hl a; intro a hl
    refine wl (wl_val hl rfl trivial (r_field hl rfl fld55_4) ?_)
    clear hl a; intro a hl
    refine wl (wl_val hl rfl trivial (r_assign hl rfl) ?_)
    clear hl a; intro a hl
    refine w_nil ?_
    have hl2 := hl.add (t := 0) (hl.add (t := 2) (hl.add (t := 4) (hl.add (t := 7) (hl.nil) rfl) rfl) rfl) rfl; clear hl; have hl := hl2; clear hl2
    refine then_normal ?_
    refine c_seq ?_
    refine c_seq ?_
    refine c_region ?_
    refine wl (wl_val hl rfl trivial (r_field hl rfl fld45_0) ?_)
    clear hl a; intro a hl
    refine wl (w_load hl hh rfl trivial one33 rfl (by repeat (first | exact find_head | apply find_tail | apply find_skip)) (by first | exact hct | exact hcr | exact hch | exact hcl | exact wc_dev W hW.dl hx9 | rfl) ?_)
    clear hl a; intro a hl
    refine w_nil ?_
    have hl2 := hl.add (t := 0) (hl.add (t := 2) (hl.add (t := 4) (hl.add (t := 7) (hl.add (t := 18) (hl.nil) rfl) rfl) rfl) rfl) rfl; clear hl; have hl := hl2; clear hl2
    refine then_normal ?_
    refine wp_block ?_
    refine c_seq ?_
    refine c_region ?_
    refine wl (wl_val hl rfl trivial (r_eql hl rfl rfl) ?_)
    clear hl a; intro a hl
    refine wl (wl_val hl rfl trivial (r_assign hl rfl) ?_)
    clear hl a; intro a hl
    refine w_nil ?_
    have hl2 := hl.add (t := 0) (hl.add (t := 2) (hl.add (t := 4) (hl.add (t := 7) (hl.add (t := 18) (hl.add (t := 19) (hl.nil) rfl) rfl) rfl) rfl) rfl) rfl; clear hl; have hl := hl2; clear hl2
    refine then_normal ?_
    refine c_cond hl rfl ?_ ?_
    · intro hc1
      try simp only [decide_eq_true_eq, decide_eq_false_iff_not, Bool.not_eq_true', Bool.not_eq_false', Bool.not_eq_true, Bool.not_eq_false, Bool.and_eq_true, Bool.or_eq_true, Bool.and_eq_false_iff, Bool.or_eq_false_iff, Bool.not_not, ne_eq, Int.not_lt, Int.not_le, Decidable.not_not, beq_iff_eq, bne_iff_ne] at hc1
      exfalso; first | contradiction | omega
    · intro hc1
      try simp only [decide_eq_true_eq, decide_eq_false_iff_not, Bool.not_eq_true', Bool.not_eq_false', Bool.not_eq_true, Bool.not_eq_false, Bool.and_eq_true, Bool.or_eq_true, Bool.and_eq_false_iff, Bool.or_eq_false_iff, Bool.not_not, ne_eq, Int.not_lt, Int.not_le, Decidable.not_not, beq_iff_eq, bne_iff_ne] at hc1
      refine c_seq ?_
      refine c_seq ?_
      refine c_region ?_
      refine wl (wl_val hl rfl trivial (r_eql hl rfl rfl) ?_)
      clear hl a; intro a hl
      refine wl (wl_val hl rfl trivial (r_assign hl rfl) ?_)
      clear hl a; intro a hl
      refine w_nil ?_
      have hl2 := hl.add (t := 0) (hl.add (t := 2) (hl.add (t := 4) (hl.add (t := 7) (hl.add (t := 18) (hl.add (t := 27) (hl.nil) rfl) rfl) rfl) rfl) rfl) rfl; clear hl; have hl := hl2; clear hl2
      refine then_normal ?_
      refine c_cond hl rfl ?_ ?_
      · intro hc2
        try simp only [decide_eq_true_eq, decide_eq_false_iff_not, Bool.not_eq_true', Bool.not_eq_false', Bool.not_eq_true, Bool.not_eq_false, Bool.and_eq_true, Bool.or_eq_true, Bool.and_eq_false_iff, Bool.or_eq_false_iff, Bool.not_not, ne_eq, Int.not_lt, Int.not_le, Decidable.not_not, beq_iff_eq, bne_iff_ne] at hc2
        exfalso; first | contradiction | omega
      · intro hc2
        try simp only [decide_eq_true_eq, decide_eq_false_iff_not, Bool.not_eq_true', Bool.not_eq_false', Bool.not_eq_true, Bool.not_eq_false, Bool.and_eq_true, Bool.or_eq_true, Bool.and_eq_false_iff, Bool.or_eq_false_iff, Bool.not_not, ne_eq, Int.not_lt, Int.not_le, Decidable.not_not, beq_iff_eq, bne_iff_ne] at hc2
        refine c_region ?_
        refine wl (wl_val hl rfl trivial (r_eql hl rfl rfl) ?_)
        clear hl a; intro a hl
        refine wl (wl_val hl rfl trivial (r_assign hl rfl) ?_)
        clear hl a; intro a hl
        refine w_nil ?_
        have hl2 := hl.add (t := 0) (hl.add (t := 2) (hl.add (t := 4) (hl.add (t := 7) (hl.add (t := 18) (hl.add (t := 27) (hl.nil) rfl) rfl) rfl) rfl) rfl) rfl; clear hl; have hl := hl2; clear hl2
        refine then_normal ?_
        refine c_cond hl rfl ?_ ?_
        · intro hc3
          try simp only [decide_eq_true_eq, decide_eq_false_iff_not, Bool.not_eq_true', Bool.not_eq_false', Bool.not_eq_true, Bool.not_eq_false, Bool.and_eq_true, Bool.or_eq_true, Bool.and_eq_false_iff, Bool.or_eq_false_iff, Bool.not_not, ne_eq, Int.not_lt, Int.not_le, Decidable.not_not, beq_iff_eq, bne_iff_ne] at hc3
          exfalso; first | contradiction | omega
        · intro hc3
          try simp only [decide_eq_true_eq, decide_eq_false_iff_not, Bool.not_eq_true', Bool.not_eq_false', Bool.not_eq_true, Bool.not_eq_false, Bool.and_eq_true, Bool.or_eq_true, Bool.and_eq_false_iff, Bool.or_eq_false_iff, Bool.not_not, ne_eq, Int.not_lt, Int.not_le, Decidable.not_not, beq_iff_eq, bne_iff_ne] at hc3
          refine c_seq ?_
          refine c_seq ?_
          refine c_region ?_
          refine wl (wl_val hl rfl trivial (r_eql hl rfl rfl) ?_)
          clear hl a; intro a hl
          refine wl (wl_val hl rfl trivial (r_assign hl rfl) ?_)
          clear hl a; intro a hl
          refine w_nil ?_
          have hl2 := hl.add (t := 0) (hl.add (t := 2) (hl.add (t := 4) (hl.add (t := 7) (hl.add (t := 18) (hl.add (t := 39) (hl.nil) rfl) rfl) rfl) rfl) rfl) rfl; clear hl; have hl := hl2; clear hl2
          refine then_normal ?_
          refine c_cond hl rfl ?_ ?_
          · intro hc4
            try simp only [decide_eq_true_eq, decide_eq_false_iff_not, Bool.not_eq_true', Bool.not_eq_false', Bool.not_eq_true, Bool.not_eq_false, Bool.and_eq_true, Bool.or_eq_true, Bool.and_eq_false_iff, Bool.or_eq_false_iff, Bool.not_not, ne_eq, Int.not_lt, Int.not_le, Decidable.not_not, beq_iff_eq, bne_iff_ne] at hc4
            exfalso; first | contradiction | omega
          · intro hc4
            try simp only [decide_eq_true_eq, decide_eq_false_iff_not, Bool.not_eq_true', Bool.not_eq_false', Bool.not_eq_true, Bool.not_eq_false, Bool.and_eq_true, Bool.or_eq_true, Bool.and_eq_false_iff, Bool.or_eq_false_iff, Bool.not_not, ne_eq, Int.not_lt, Int.not_le, Decidable.not_not, beq_iff_eq, bne_iff_ne] at hc4
            refine c_region ?_
            refine wl (wl_val hl rfl trivial (r_eql hl rfl rfl) ?_)
            clear hl a; intro a hl
            refine wl (wl_val hl rfl trivial (r_assign hl rfl) ?_)
            clear hl a; intro a hl
            refine w_nil ?_
            have hl2 := hl.add (t := 0) (hl.add (t := 2) (hl.add (t := 4) (hl.add (t := 7) (hl.add (t := 18) (hl.add (t := 39) (hl.nil) rfl) rfl) rfl) rfl) rfl) rfl; clear hl; have hl := hl2; clear hl2
            refine then_normal ?_
            refine c_cond hl rfl ?_ ?_
            · intro hc5
              try simp only [decide_eq_true_eq, decide_eq_false_iff_not, Bool.not_eq_true', Bool.not_eq_false', Bool.not_eq_true, Bool.not_eq_false, Bool.and_eq_true, Bool.or_eq_true, Bool.and_eq_false_iff, Bool.or_eq_false_iff, Bool.not_not, ne_eq, Int.not_lt, Int.not_le, Decidable.not_not, beq_iff_eq, bne_iff_ne] at hc5
              exfalso; first | contradiction | omega
            · intro hc5
              try simp only [decide_eq_true_eq, decide_eq_false_iff_not, Bool.not_eq_true', Bool.not_eq_false', Bool.not_eq_true, Bool.not_eq_false, Bool.and_eq_true, Bool.or_eq_true, Bool.and_eq_false_iff, Bool.or_eq_false_iff, Bool.not_not, ne_eq, Int.not_lt, Int.not_le, Decidable.not_not, beq_iff_eq, bne_iff_ne] at hc5
              refine c_seq ?_
              refine c_region ?_
              refine wl (wl_val hl rfl trivial (r_eql hl rfl rfl) ?_)
              clear hl a; intro a hl
              refine wl (wl_val hl rfl trivial (r_assign hl rfl) ?_)
              clear hl a; intro a hl
              refine w_nil ?_
              have hl2 := hl.add (t := 0) (hl.add (t := 2) (hl.add (t := 4) (hl.add (t := 7) (hl.add (t := 18) (hl.add (t := 50) (hl.nil) rfl) rfl) rfl) rfl) rfl) rfl; clear hl; have hl := hl2; clear hl2
              refine then_normal ?_
              refine c_cond hl rfl ?_ ?_
              · intro hc6
                try simp only [decide_eq_true_eq, decide_eq_false_iff_not, Bool.not_eq_true', Bool.not_eq_false', Bool.not_eq_true, Bool.not_eq_false, Bool.and_eq_true, Bool.or_eq_true, Bool.and_eq_false_iff, Bool.or_eq_false_iff, Bool.not_not, ne_eq, Int.not_lt, Int.not_le, Decidable.not_not, beq_iff_eq, bne_iff_ne] at hc6
                exfalso; first | contradiction | omega
              · intro hc6
                try simp only [decide_eq_true_eq, decide_eq_false_iff_not, Bool.not_eq_true', Bool.not_eq_false', Bool.not_eq_true, Bool.not_eq_false, Bool.and_eq_true, Bool.or_eq_true, Bool.and_eq_false_iff, Bool.or_eq_false_iff, Bool.not_not, ne_eq, Int.not_lt, Int.not_le, Decidable.not_not, beq_iff_eq, bne_iff_ne] at hc6
                refine c_seq ?_
                refine c_region ?_
                refine wl (wl_val hl rfl trivial (r_eql hl rfl rfl) ?_)
                clear hl a; intro a hl
                refine wl (wl_val hl rfl trivial (r_assign hl rfl) ?_)
                clear hl a; intro a hl
                refine w_nil ?_
                have hl2 := hl.add (t := 0) (hl.add (t := 2) (hl.add (t := 4) (hl.add (t := 7) (hl.add (t := 18) (hl.add (t := 62) (hl.nil) rfl) rfl) rfl) rfl) rfl) rfl; clear hl; have hl := hl2; clear hl2
                refine then_normal ?_
                refine c_cond hl rfl ?_ ?_
                · intro hc7
                  try simp only [decide_eq_true_eq, decide_eq_false_iff_not, Bool.not_eq_true', Bool.not_eq_false', Bool.not_eq_true, Bool.not_eq_false, Bool.and_eq_true, Bool.or_eq_true, Bool.and_eq_false_iff, Bool.or_eq_false_iff, Bool.not_not, ne_eq, Int.not_lt, Int.not_le, Decidable.not_not, beq_iff_eq, bne_iff_ne] at hc7
                  exfalso; first | contradiction | omega
                · intro hc7
                  try simp only [decide_eq_true_eq, decide_eq_false_iff_not, Bool.not_eq_true', Bool.not_eq_false', Bool.not_eq_true, Bool.not_eq_false, Bool.and_eq_true, Bool.or_eq_true, Bool.and_eq_false_iff, Bool.or_eq_false_iff, Bool.not_not, ne_eq, Int.not_lt, Int.not_le, Decidable.not_not, beq_iff_eq, bne_iff_ne] at hc7
                  refine c_seq ?_
                  refine c_region ?_
                  refine wl (wl_val hl rfl trivial (r_eql hl rfl rfl) ?_)
                  clear hl a; intro a hl
                  refine wl (wl_val hl rfl trivial (r_assign hl rfl) ?_)
                  clear hl a; intro a hl
                  refine w_nil ?_
                  have hl2 := hl.add (t := 0) (hl.add (t := 2) (hl.add (t := 4) (hl.add (t := 7) (hl.add (t := 18) (hl.add (t := 68) (hl.nil) rfl) rfl) rfl) rfl) rfl) rfl; clear hl; have hl := hl2; clear hl2
                  refine then_normal ?_
                  refine c_cond hl rfl ?_ ?_
                  · intro hc8
                    try simp only [decide_eq_true_eq, decide_eq_false_iff_not, Bool.not_eq_true', Bool.not_eq_false', Bool.not_eq_true, Bool.not_eq_false, Bool.and_eq_true, Bool.or_eq_true, Bool.and_eq_false_iff, Bool.or_eq_false_iff, Bool.not_not, ne_eq, Int.not_lt, Int.not_le, Decidable.not_not, beq_iff_eq, bne_iff_ne] at hc8
                    exfalso; first | contradiction | omega
                  · intro hc8
                    try simp only [decide_eq_true_eq, decide_eq_false_iff_not, Bool.not_eq_true', Bool.not_eq_false', Bool.not_eq_true, Bool.not_eq_false, Bool.and_eq_true, Bool.or_eq_true, Bool.and_eq_false_iff, Bool.or_eq_false_iff, Bool.not_not, ne_eq, Int.not_lt, Int.not_le, Decidable.not_not, beq_iff_eq, bne_iff_ne] at hc8
                    refine c_seq ?_
                    refine c_region ?_
                    refine wl (wl_val hl rfl trivial (r_eql hl rfl rfl) ?_)
                    clear hl a; intro a hl
                    refine wl (wl_val hl rfl trivial (r_assign hl rfl) ?_)
                    clear hl a; intro a hl
                    refine w_nil ?_
                    have hl2 := hl.add (t := 0) (hl.add (t := 2) (hl.add (t := 4) (hl.add (t := 7) (hl.add (t := 18) (hl.add (t := 90) (hl.nil) rfl) rfl) rfl) rfl) rfl) rfl; clear hl; have hl := hl2; clear hl2
                    refine then_normal ?_
                    refine c_cond hl rfl ?_ ?_
                    · intro hc10
                      try simp only [decide_eq_true_eq, decide_eq_false_iff_not, Bool.not_eq_true', Bool.not_eq_false', Bool.not_eq_true, Bool.not_eq_false, Bool.and_eq_true, Bool.or_eq_true, Bool.and_eq_false_iff, Bool.or_eq_false_iff, Bool.not_not, ne_eq, Int.not_lt, Int.not_le, Decidable.not_not, beq_iff_eq, bne_iff_ne] at hc10
                      exfalso; first | contradiction | omega
                    · intro hc10
                      try simp only [decide_eq_true_eq, decide_eq_false_iff_not, Bool.not_eq_true', Bool.not_eq_false', Bool.not_eq_true, Bool.not_eq_false, Bool.and_eq_true, Bool.or_eq_true, Bool.and_eq_false_iff, Bool.or_eq_false_iff, Bool.not_not, ne_eq, Int.not_lt, Int.not_le, Decidable.not_not, beq_iff_eq, bne_iff_ne] at hc10
                      refine c_seq ?_
                      refine c_region ?_
                      refine wl (wl_val hl rfl trivial (r_eql hl rfl rfl) ?_)
                      clear hl a; intro a hl
                      refine wl (wl_val hl rfl trivial (r_assign hl rfl) ?_)
                      clear hl a; intro a hl
                      refine w_nil ?_
                      have hl2 := hl.add (t := 0) (hl.add (t := 2) (hl.add (t := 4) (hl.add (t := 7) (hl.add (t := 18) (hl.add (t := 114) (hl.nil) rfl) rfl) rfl) rfl) rfl) rfl; clear hl; have hl := hl2; clear hl2
                      refine then_normal ?_
                      refine c_cond hl rfl ?_ ?_
                      · intro hc12
                        try simp only [decide_eq_true_eq, decide_eq_false_iff_not, Bool.not_eq_true', Bool.not_eq_false', Bool.not_eq_true, Bool.not_eq_false, Bool.and_eq_true, Bool.or_eq_true, Bool.and_eq_false_iff, Bool.or_eq_false_iff, Bool.not_not, ne_eq, Int.not_lt, Int.not_le, Decidable.not_not, beq_iff_eq, bne_iff_ne] at hc12
                        exfalso; first | contradiction | omega
                      · intro hc12
                        try simp only [decide_eq_true_eq, decide_eq_false_iff_not, Bool.not_eq_true', Bool.not_eq_false', Bool.not_eq_true, Bool.not_eq_false, Bool.and_eq_true, Bool.or_eq_true, Bool.and_eq_false_iff, Bool.or_eq_false_iff, Bool.not_not, ne_eq, Int.not_lt, Int.not_le, Decidable.not_not, beq_iff_eq, bne_iff_ne] at hc12
                        refine c_seq ?_
                        refine c_region ?_
                        refine wl (wl_val hl rfl trivial (r_eql hl rfl rfl) ?_)
                        clear hl a; intro a hl
                        refine wl (wl_val hl rfl trivial (r_assign hl rfl) ?_)
                        clear hl a; intro a hl
                        refine w_nil ?_
                        have hl2 := hl.add (t := 0) (hl.add (t := 2) (hl.add (t := 4) (hl.add (t := 7) (hl.add (t := 18) (hl.add (t := 130) (hl.nil) rfl) rfl) rfl) rfl) rfl) rfl; clear hl; have hl := hl2; clear hl2
                        refine then_normal ?_
                        refine c_cond hl rfl ?_ ?_
                        · intro hc14
                          try simp only [decide_eq_true_eq, decide_eq_false_iff_not, Bool.not_eq_true', Bool.not_eq_false', Bool.not_eq_true, Bool.not_eq_false, Bool.and_eq_true, Bool.or_eq_true, Bool.and_eq_false_iff, Bool.or_eq_false_iff, Bool.not_not, ne_eq, Int.not_lt, Int.not_le, Decidable.not_not, beq_iff_eq, bne_iff_ne] at hc14
                          exfalso; first | contradiction | omega
                        · intro hc14
                          try simp only [decide_eq_true_eq, decide_eq_false_iff_not, Bool.not_eq_true', Bool.not_eq_false', Bool.not_eq_true, Bool.not_eq_false, Bool.and_eq_true, Bool.or_eq_true, Bool.and_eq_false_iff, Bool.or_eq_false_iff, Bool.not_not, ne_eq, Int.not_lt, Int.not_le, Decidable.not_not, beq_iff_eq, bne_iff_ne] at hc14
                          refine c_seq ?_
                          refine c_region ?_
                          refine wl (wl_val hl rfl trivial (r_eql hl rfl rfl) ?_)
                          clear hl a; intro a hl
                          refine wl (wl_val hl rfl trivial (r_assign hl rfl) ?_)
                          clear hl a; intro a hl
                          refine w_nil ?_
                          have hl2 := hl.add (t := 0) (hl.add (t := 2) (hl.add (t := 4) (hl.add (t := 18) (hl.add (t := 152) (hl.nil) rfl) rfl) rfl) rfl) rfl; clear hl; have hl := hl2; clear hl2
                          refine then_normal ?_
                          refine c_cond hl rfl ?_ ?_
                          · intro hc16
                            try simp only [decide_eq_true_eq, decide_eq_false_iff_not, Bool.not_eq_true', Bool.not_eq_false', Bool.not_eq_true, Bool.not_eq_false, Bool.and_eq_true, Bool.or_eq_true, Bool.and_eq_false_iff, Bool.or_eq_false_iff, Bool.not_not, ne_eq, Int.not_lt, Int.not_le, Decidable.not_not, beq_iff_eq, bne_iff_ne] at hc16
                            exfalso; first | contradiction | omega
                          · intro hc16
                            try simp only [decide_eq_true_eq, decide_eq_false_iff_not, Bool.not_eq_true', Bool.not_eq_false', Bool.not_eq_true, Bool.not_eq_false, Bool.and_eq_true, Bool.or_eq_true, Bool.and_eq_false_iff, Bool.or_eq_false_iff, Bool.not_not, ne_eq, Int.not_lt, Int.not_le, Decidable.not_not, beq_iff_eq, bne_iff_ne] at hc16
                            refine c_seq ?_
                            refine c_region ?_
                            refine wl (wl_val hl rfl trivial (r_eql hl rfl rfl) ?_)
                            clear hl a; intro a hl
                            refine wl (wl_val hl rfl trivial (r_assign hl rfl) ?_)
                            clear hl a; intro a hl
                            refine w_nil ?_
                            have hl2 := hl.add (t := 0) (hl.add (t := 2) (hl.add (t := 4) (hl.add (t := 18) (hl.add (t := 157) (hl.nil) rfl) rfl) rfl) rfl) rfl; clear hl; have hl := hl2; clear hl2
                            refine then_normal ?_
                            refine c_cond hl rfl ?_ ?_
                            · intro hc17
                              try simp only [decide_eq_true_eq, decide_eq_false_iff_not, Bool.not_eq_true', Bool.not_eq_false', Bool.not_eq_true, Bool.not_eq_false, Bool.and_eq_true, Bool.or_eq_true, Bool.and_eq_false_iff, Bool.or_eq_false_iff, Bool.not_not, ne_eq, Int.not_lt, Int.not_le, Decidable.not_not, beq_iff_eq, bne_iff_ne] at hc17
                              exfalso; first | contradiction | omega
                            · intro hc17
                              try simp only [decide_eq_true_eq, decide_eq_false_iff_not, Bool.not_eq_true', Bool.not_eq_false', Bool.not_eq_true, Bool.not_eq_false, Bool.and_eq_true, Bool.or_eq_true, Bool.and_eq_false_iff, Bool.or_eq_false_iff, Bool.not_not, ne_eq, Int.not_lt, Int.not_le, Decidable.not_not, beq_iff_eq, bne_iff_ne] at hc17
                              refine c_seq ?_
                              refine c_region ?_
                              refine wl (wl_val hl rfl trivial (r_eql hl rfl rfl) ?_)
                              clear hl a; intro a hl
                              refine wl (wl_val hl rfl trivial (r_assign hl rfl) ?_)
                              clear hl a; intro a hl
                              refine w_nil ?_
                              have hl2 := hl.add (t := 0) (hl.add (t := 2) (hl.add (t := 4) (hl.add (t := 18) (hl.add (t := 170) (hl.nil) rfl) rfl) rfl) rfl) rfl; clear hl; have hl := hl2; clear hl2
                              refine then_normal ?_
                              refine c_cond hl rfl ?_ ?_
                              · intro hc19
                                try simp only [decide_eq_true_eq, decide_eq_false_iff_not, Bool.not_eq_true', Bool.not_eq_false', Bool.not_eq_true, Bool.not_eq_false, Bool.and_eq_true, Bool.or_eq_true, Bool.and_eq_false_iff, Bool.or_eq_false_iff, Bool.not_not, ne_eq, Int.not_lt, Int.not_le, Decidable.not_not, beq_iff_eq, bne_iff_ne] at hc19
                                refine c_draw [(k4, C [.int .u8 o.k, .int .i64 o.A, .int .i64 o.B, .slice p o.tx.length cap, .int .u8 o.m.k, .int .u8 o.m.d, .int .u32 o.m.e, .int .u32 o.m.b, .bool o.m.y, .int .u32 o.m.r, .int .u32 o.m.s, .string o.m.t, .int .u8 o.v.k, .int .u8 o.v.a, .int .u8 o.v.b, .int .u8 o.v.w, .int .u8 o.v.da, .int .u8 o.v.dl] 45)] [11, 12, 13] mixed hh ?_
                                clear hh w; intro w hh
                                have hM : Mem [(k4, C [.int .u8 o.k, .int .i64 o.A, .int .i64 o.B, .slice p o.tx.length cap, .int .u8 o.m.k, .int .u8 o.m.d, .int .u32 o.m.e, .int .u32 o.m.b, .bool o.m.y, .int .u32 o.m.r, .int .u32 o.m.s, .string o.m.t, .int .u8 o.v.k, .int .u8 o.v.a, .int .u8 o.v.b, .int .u8 o.v.w, .int .u8 o.v.da, .int .u8 o.v.dl] 45)] w := (memK hh (by repeat (first | exact keeps_nil | apply keeps_cons (by repeat (first | exact find_head | apply find_tail | apply find_skip)) (by first  | rfl) | exact keeps_self | exact keeps_left | apply keeps_app | apply keeps_mv | apply keeps_skip)))
                                refine d_take (i := 0) hl rfl (by kernel_rfl) (by kernel_rfl) (by kernel_rfl) (by kernel_rfl) (by kernel_rfl) rfl trivial (fun _ _ _ h => h) hM (fun w hC => r_move hl rfl) rfl ?_
                                clear hl a; intro a hl
                                refine d_take (i := 1) hl rfl (by kernel_rfl) (by kernel_rfl) (by kernel_rfl) (by kernel_rfl) (by kernel_rfl) rfl trivial (fun _ _ _ h => h) hM (fun w hC => r_field hl rfl fld45_1) rfl ?_
                                clear hl a; intro a hl
                                refine d_take (i := 2) hl rfl (by kernel_rfl) (by kernel_rfl) (by kernel_rfl) (by kernel_rfl) (by kernel_rfl) rfl trivial (fun _ _ _ h => h) hM (fun w hC => r_loadC hl rfl one3 hC (by repeat (first | exact find_head | apply find_tail | apply find_skip)) (by first | exact hct | exact hcr | exact hch | exact hcl | exact wc_dev W hW.dl hx9 | rfl)) rfl ?_
                                clear hl a; intro a hl
                                refine d_take (i := 4) hl rfl (by kernel_rfl) (by kernel_rfl) (by kernel_rfl) (by kernel_rfl) (by kernel_rfl) rfl trivial (fun _ _ _ h => h) hM (fun w hC => r_nilCheck hl rfl) rfl ?_
                                clear hl a; intro a hl
                                refine d_take (i := 5) hl rfl (by kernel_rfl) (by kernel_rfl) (by kernel_rfl) (by kernel_rfl) (by kernel_rfl) rfl trivial (fun _ _ _ h => h) hM (fun w hC => r_field hl rfl fld55_2) rfl ?_
                                clear hl a; intro a hl
                                refine d_take (i := 8) hl rfl (by kernel_rfl) (by kernel_rfl) (by kernel_rfl) (by kernel_rfl) (by kernel_rfl) rfl trivial (fun _ _ _ h => h) hM (fun w hC => r_field hl rfl fld45_2) rfl ?_
                                clear hl a; intro a hl
                                refine d_take (i := 9) hl rfl (by kernel_rfl) (by kernel_rfl) (by kernel_rfl) (by kernel_rfl) (by kernel_rfl) rfl trivial (fun _ _ _ h => h) hM (fun w hC => r_loadC hl rfl one3 hC (by repeat (first | exact find_head | apply find_tail | apply find_skip)) (by first | exact hct | exact hcr | exact hch | exact hcl | exact wc_dev W hW.dl hx9 | rfl)) rfl ?_
                                clear hl a; intro a hl
                                refine d_one (i := 3) (by kernel_rfl) rfl ?_
                                try clear hM
                                refine id (w_call hl hh rfl trivial rfl cal22 rfl (mod_spec o.A (16 : Int) (by omega) (by omega)) (by repeat (first | exact keeps_nil | apply keeps_cons (by repeat (first | exact find_head | apply find_tail | apply find_skip)) (by first  | rfl) | exact keeps_self | exact keeps_left | apply keeps_app | apply keeps_mv | apply keeps_skip)) trivial ?_)
                                clear hl hh a w; intro vc Fc a w hR hl hh
                                obtain ⟨rfl, rfl⟩ := hR
                                try simp only [List.cons_append, List.nil_append, List.append_assoc, List.append_nil] at hh
                                obtain ⟨i9, hi9, hi8⟩ := mod_nat o.A (show 0 < 16 by omega)
                                rw [show ((16 : Nat) : Int) = 16 from rfl] at hi9
                                rw [hi9] at hl
                                obtain ⟨⟨db, d⟩, hx9⟩ : ∃ y, W.ds[i9]? = some y := ⟨_, List.getElem?_eq_getElem (by rw [hW.dl]; exact hi8)⟩
                                have hi7 : i9 < W.ds.length := by rw [hW.dl]; exact hi8
                                rw [dsF_split hx9] at hh
                                simp only [DeV.F, DeV.c, List.cons_append, List.nil_append, List.append_assoc] at hh
                                have hM : Mem [(k4, C [.int .u8 o.k, .int .i64 o.A, .int .i64 o.B, .slice p o.tx.length cap, .int .u8 o.m.k, .int .u8 o.m.d, .int .u32 o.m.e, .int .u32 o.m.b, .bool o.m.y, .int .u32 o.m.r, .int .u32 o.m.s, .string o.m.t, .int .u8 o.v.k, .int .u8 o.v.a, .int .u8 o.v.b, .int .u8 o.v.w, .int .u8 o.v.da, .int .u8 o.v.dl] 45)] w := (memK hh (by repeat (first | exact keeps_nil | apply keeps_cons (by repeat (first | exact find_head | apply find_tail | apply find_skip)) (by first  | rfl) | exact keeps_self | exact keeps_left | apply keeps_app | apply keeps_mv | apply keeps_skip)))
                                refine d_step (fun _ => hM) ?_
                                refine d_take (i := 6) hl rfl (by kernel_rfl) (by kernel_rfl) (by kernel_rfl) (by kernel_rfl) (by kernel_rfl) rfl trivial (fun _ _ _ h => h) hM (fun w hC => r_indexA hl rfl rfl arr52 (by omega) (by omega) (by first | (simp only [Int.reduceToNat]; rfl) | exact toNat_add1 _ | exact toNat_add2 _ _ | exact toNat_emod _ _ | exact Int.toNat_natCast _ | rfl)) rfl ?_
                                clear hl a; intro a hl
                                refine d_two (i := 7) (j := 10) (by kernel_rfl) rfl rfl ?_ ?_
                                ·
                                  try clear hM
                                  refine id (w_load hl hh rfl trivial one51 rfl (by repeat (first | exact find_head | apply find_tail | apply find_skip)) (by first | exact hct | exact hcr | exact hch | exact hcl | exact wc_dev W hW.dl hx9 | rfl) ?_)
                                  clear hl a; intro a hl
                                  have hM : Mem [(k4, C [.int .u8 o.k, .int .i64 o.A, .int .i64 o.B, .slice p o.tx.length cap, .int .u8 o.m.k, .int .u8 o.m.d, .int .u32 o.m.e, .int .u32 o.m.b, .bool o.m.y, .int .u32 o.m.r, .int .u32 o.m.s, .string o.m.t, .int .u8 o.v.k, .int .u8 o.v.a, .int .u8 o.v.b, .int .u8 o.v.w, .int .u8 o.v.da, .int .u8 o.v.dl] 45)] w := (memK hh (by repeat (first | exact keeps_nil | apply keeps_cons (by repeat (first | exact find_head | apply find_tail | apply find_skip)) (by first  | rfl) | exact keeps_self | exact keeps_left | apply keeps_app | apply keeps_mv | apply keeps_skip)))
                                  refine d_step (fun _ => hM) ?_
                                  refine d_one (i := 10) (by kernel_rfl) rfl ?_
                                  try clear hM
                                  refine id (w_call hl hh rfl trivial rfl cal18 rfl (odd_spec _ (by omega)) (by repeat (first | exact keeps_nil | apply keeps_cons (by repeat (first | exact find_head | apply find_tail | apply find_skip)) (by first  | rfl) | exact keeps_self | exact keeps_left | apply keeps_app | apply keeps_mv | apply keeps_skip)) trivial ?_)
                                  clear hl hh a w; intro vc Fc a w hR hl hh
                                  obtain ⟨rfl, rfl⟩ := hR
                                  try simp only [List.cons_append, List.nil_append, List.append_assoc, List.append_nil] at hh
                                  have hM : Mem [(k4, C [.int .u8 o.k, .int .i64 o.A, .int .i64 o.B, .slice p o.tx.length cap, .int .u8 o.m.k, .int .u8 o.m.d, .int .u32 o.m.e, .int .u32 o.m.b, .bool o.m.y, .int .u32 o.m.r, .int .u32 o.m.s, .string o.m.t, .int .u8 o.v.k, .int .u8 o.v.a, .int .u8 o.v.b, .int .u8 o.v.w, .int .u8 o.v.da, .int .u8 o.v.dl] 45)] w := (memK hh (by repeat (first | exact keeps_nil | apply keeps_cons (by repeat (first | exact find_head | apply find_tail | apply find_skip)) (by first  | rfl) | exact keeps_self | exact keeps_left | apply keeps_app | apply keeps_mv | apply keeps_skip)))
                                  refine d_step (fun _ => hM) ?_
                                  refine d_takeL (i := 11) hl rfl (by kernel_rfl) (by kernel_rfl) (by kernel_rfl) (by kernel_rfl) (by kernel_rfl) rfl trivial (fun _ _ _ h => h) (fun w => r_nilCheck hl rfl) rfl ?_
                                  clear hl a; intro a hl
                                  refine d_takeL (i := 12) hl rfl (by kernel_rfl) (by kernel_rfl) (by kernel_rfl) (by kernel_rfl) (by kernel_rfl) rfl trivial (fun _ _ _ h => h) (fun w => r_field hl rfl fld94_7) rfl ?_
                                  clear hl a; intro a hl
                                  refine d_one (i := 13) (by kernel_rfl) rfl ?_
                                  try clear hM
                                  refine id (w_store hl hh trivial one4 rfl rfl (by repeat (first | exact find_head | apply find_tail | apply find_skip)) (by first | (simp; done) | (simp; omega)) (by first | rfl | assumption | (apply Row.one; assumption)) (by first | (simp only [setL, List.getElem?_cons_zero, List.getElem?_cons_succ, Value.cells, List.take_zero, List.take_succ_cons, List.take_nil, List.drop_zero, List.drop_succ_cons, List.drop_nil, List.length_cons, List.length_nil, List.cons_append, List.nil_append, List.append_nil, Nat.zero_add, Nat.add_zero, Nat.reduceAdd, Nat.reduceBEq, Nat.reduceEqDiff, Nat.ble, BEq.rfl, Bool.and_true, Bool.and_self, cond_true, beq_self_eq_true]; rfl)) ?_)
                                  clear hh w; intro w hh
                                  refine d_step (fun h => absurd h (by decide)) ?_
                                  refine d_done (by kernel_rfl) ?_
                                  try clear hM
                                  have hl2 := hl.nil; clear hl; have hl := hl2; clear hl2
                                  refine blk_normal ?_
                                  refine then_normal ?_
                                  refine c_seq ?_
                                  refine c_region ?_
                                  refine wl (wl_val hl rfl trivial (r_assign hl rfl) ?_)
                                  clear hl a; intro a hl
                                  refine w_nil ?_
                                  have hl2 := hl.add (t := 6) (hl.nil) rfl; clear hl; have hl := hl2; clear hl2
                                  refine then_normal ?_
                                  refine wp_ret ?_
                                  refine f_ret1 (F' := Fx ++ ((wb, C (WoV.c W) 55) :: (W.tE ++ (W.gE ++ ((DsF (W.ds.take i9) ++ ((db, C (DeV.c { d with sb := oddP o.B }) 94) :: ((d.mb, MO (kInt .u32) d.fm) :: DsF (W.ds.drop (i9 + 1))))) ++ WoV.GF W Z))))) hl hh rfl rfl (by repeat (first | exact keeps_nil | apply keeps_cons (by repeat (first | exact find_head | apply find_tail | apply find_skip)) (by first  | rfl) | exact keeps_self | exact keeps_left | apply keeps_app | apply keeps_mv | apply keeps_skip)) ?_
                                  refine StepO.same (W' := { W with ds := W.ds.set i9 (db, { d with sb := oddP o.B }) }) (stub_ok hW hx9 _) (stub_K hx9 _ (Q.jk hJ)) (hn.cg rfl rfl) hMx ?_
                                  unfold WoV.F
                                  rw [show WoV.c { W with ds := W.ds.set i9 (db, { d with sb := oddP o.B }) } = W.c from wc_same rfl rfl (dsC_set hx9) rfl, dsF_set hi7]
                                  simp only [DeV.F, List.cons_append, List.nil_append, List.append_assoc]
                                  rfl
                                ·
                                  try clear hM
                                  refine id (w_call hl hh rfl trivial rfl cal18 rfl (odd_spec _ (by omega)) (by repeat (first | exact keeps_nil | apply keeps_cons (by repeat (first | exact find_head | apply find_tail | apply find_skip)) (by first  | rfl) | exact keeps_self | exact keeps_left | apply keeps_app | apply keeps_mv | apply keeps_skip)) trivial ?_)
                                  clear hl hh a w; intro vc Fc a w hR hl hh
                                  obtain ⟨rfl, rfl⟩ := hR
                                  try simp only [List.cons_append, List.nil_append, List.append_assoc, List.append_nil] at hh
                                  have hM : Mem [(k4, C [.int .u8 o.k, .int .i64 o.A, .int .i64 o.B, .slice p o.tx.length cap, .int .u8 o.m.k, .int .u8 o.m.d, .int .u32 o.m.e, .int .u32 o.m.b, .bool o.m.y, .int .u32 o.m.r, .int .u32 o.m.s, .string o.m.t, .int .u8 o.v.k, .int .u8 o.v.a, .int .u8 o.v.b, .int .u8 o.v.w, .int .u8 o.v.da, .int .u8 o.v.dl] 45)] w := (memK hh (by repeat (first | exact keeps_nil | apply keeps_cons (by repeat (first | exact find_head | apply find_tail | apply find_skip)) (by first  | rfl) | exact keeps_self | exact keeps_left | apply keeps_app | apply keeps_mv | apply keeps_skip)))
                                  refine d_step (fun _ => hM) ?_
                                  refine d_one (i := 7) (by kernel_rfl) rfl ?_
                                  try clear hM
                                  refine id (w_load hl hh rfl trivial one51 rfl (by repeat (first | exact find_head | apply find_tail | apply find_skip)) (by first | exact hct | exact hcr | exact hch | exact hcl | exact wc_dev W hW.dl hx9 | rfl) ?_)
                                  clear hl a; intro a hl
                                  have hM : Mem [(k4, C [.int .u8 o.k, .int .i64 o.A, .int .i64 o.B, .slice p o.tx.length cap, .int .u8 o.m.k, .int .u8 o.m.d, .int .u32 o.m.e, .int .u32 o.m.b, .bool o.m.y, .int .u32 o.m.r, .int .u32 o.m.s, .string o.m.t, .int .u8 o.v.k, .int .u8 o.v.a, .int .u8 o.v.b, .int .u8 o.v.w, .int .u8 o.v.da, .int .u8 o.v.dl] 45)] w := (memK hh (by repeat (first | exact keeps_nil | apply keeps_cons (by repeat (first | exact find_head | apply find_tail | apply find_skip)) (by first  | rfl) | exact keeps_self | exact keeps_left | apply keeps_app | apply keeps_mv | apply keeps_skip)))
                                  refine d_step (fun _ => hM) ?_
                                  refine d_takeL (i := 11) hl rfl (by kernel_rfl) (by kernel_rfl) (by kernel_rfl) (by kernel_rfl) (by kernel_rfl) rfl trivial (fun _ _ _ h => h) (fun w => r_nilCheck hl rfl) rfl ?_
                                  clear hl a; intro a hl
                                  refine d_takeL (i := 12) hl rfl (by kernel_rfl) (by kernel_rfl) (by kernel_rfl) (by kernel_rfl) (by kernel_rfl) rfl trivial (fun _ _ _ h => h) (fun w => r_field hl rfl fld94_7) rfl ?_
                                  clear hl a; intro a hl
                                  refine d_one (i := 13) (by kernel_rfl) rfl ?_
                                  try clear hM
                                  refine id (w_store hl hh trivial one4 rfl rfl (by repeat (first | exact find_head | apply find_tail | apply find_skip)) (by first | (simp; done) | (simp; omega)) (by first | rfl | assumption | (apply Row.one; assumption)) (by first | (simp only [setL, List.getElem?_cons_zero, List.getElem?_cons_succ, Value.cells, List.take_zero, List.take_succ_cons, List.take_nil, List.drop_zero, List.drop_succ_cons, List.drop_nil, List.length_cons, List.length_nil, List.cons_append, List.nil_append, List.append_nil, Nat.zero_add, Nat.add_zero, Nat.reduceAdd, Nat.reduceBEq, Nat.reduceEqDiff, Nat.ble, BEq.rfl, Bool.and_true, Bool.and_self, cond_true, beq_self_eq_true]; rfl)) ?_)
                                  clear hh w; intro w hh
                                  refine d_step (fun h => absurd h (by decide)) ?_
                                  refine d_done (by kernel_rfl) ?_
                                  try clear hM
                                  have hl2 := hl.nil; clear hl; have hl := hl2; clear hl2
                                  refine blk_normal ?_
                                  refine then_normal ?_
                                  refine c_seq ?_
                                  refine c_region ?_
                                  refine wl (wl_val hl rfl trivial (r_assign hl rfl) ?_)
                                  clear hl a; intro a hl
                                  refine w_nil ?_
                                  have hl2 := hl.add (t := 6) (hl.nil) rfl; clear hl; have hl := hl2; clear hl2
                                  refine then_normal ?_
                                  refine wp_ret ?_
                                  refine f_ret1 (F' := Fx ++ ((wb, C (WoV.c W) 55) :: (W.tE ++ (W.gE ++ ((DsF (W.ds.take i9) ++ ((db, C (DeV.c { d with sb := oddP o.B }) 94) :: ((d.mb, MO (kInt .u32) d.fm) :: DsF (W.ds.drop (i9 + 1))))) ++ WoV.GF W Z))))) hl hh rfl rfl (by repeat (first | exact keeps_nil | apply keeps_cons (by repeat (first | exact find_head | apply find_tail | apply find_skip)) (by first  | rfl) | exact keeps_self | exact keeps_left | apply keeps_app | apply keeps_mv | apply keeps_skip)) ?_
                                  refine StepO.same (W' := { W with ds := W.ds.set i9 (db, { d with sb := oddP o.B }) }) (stub_ok hW hx9 _) (stub_K hx9 _ (Q.jk hJ)) (hn.cg rfl rfl) hMx ?_
                                  unfold WoV.F
                                  rw [show WoV.c { W with ds := W.ds.set i9 (db, { d with sb := oddP o.B }) } = W.c from wc_same rfl rfl (dsC_set hx9) rfl, dsF_set hi7]
                                  simp only [DeV.F, List.cons_append, List.nil_append, List.append_assoc]
                                  rfl
                              · intro hc19
                                try simp only [decide_eq_true_eq, decide_eq_false_iff_not, Bool.not_eq_true', Bool.not_eq_false', Bool.not_eq_true, Bool.not_eq_false, Bool.and_eq_true, Bool.or_eq_true, Bool.and_eq_false_iff, Bool.or_eq_false_iff, Bool.not_not, ne_eq, Int.not_lt, Int.not_le, Decidable.not_not, beq_iff_eq, bne_iff_ne] at hc19
                                exfalso; first | contradiction | omega
  · intro hc0
    try simp only [decide_eq_true_eq, decide_eq_false_iff_not, Bool.not_eq_true', Bool.not_eq_false', Bool.not_eq_true, Bool.not_eq_false, Bool.and_eq_true, Bool.or_eq_true, Bool.and_eq_false_iff, Bool.or_eq_false_iff, Bool.not_not, ne_eq, Int.not_lt, Int.not_le, Decidable.not_not, beq_iff_eq, bne_iff_ne] at hc0
    refine wp_skip ?_
    refine then_normal ?_
    refine c_seq ?_
    refine c_seq ?_
    refine c_region ?_
    refine wl (wl_val hl rfl trivial (r_field hl rfl fld45_0) ?_)
    clear hl a; intro a hl
    refine wl (w_load hl hh rfl trivial one33 rfl (by repeat (first | exact find_head | apply find_tail | apply find_skip)) (by first | exact hct | exact hcr | exact hch | exact hcl | exact wc_dev W hW.dl hx9 | rfl) ?_)
    clear hl a; intro a hl
    refine w_nil ?_
    have hl2 := hl.add (t := 0) (hl.add (t := 2) (hl.add (t := 4) (hl.add (t := 7) (hl.add (t := 18) (hl.nil) rfl) rfl) rfl) rfl) rfl; clear hl; have hl := hl2; clear hl2
    refine then_normal ?_
    refine wp_block ?_
    refine c_seq ?_
    refine c_region ?_
    refine wl (wl_val hl rfl trivial (r_eql hl rfl rfl) ?_)
    clear hl a; intro a hl
    refine wl (wl_val hl rfl trivial (r_assign hl rfl) ?_)
    clear hl a; intro a hl
    refine w_nil ?_
    have hl2 := hl.add (t := 0) (hl.add (t := 2) (hl.add (t := 4) (hl.add (t := 7) (hl.add (t := 18) (hl.add (t := 19) (hl.nil) rfl) rfl) rfl) rfl) rfl) rfl; clear hl; have hl := hl2; clear hl2
    refine then_normal ?_
    refine c_cond hl rfl ?_ ?_
    · intro hc1
      try simp only [decide_eq_true_eq, decide_eq_false_iff_not, Bool.not_eq_true', Bool.not_eq_false', Bool.not_eq_true, Bool.not_eq_false, Bool.and_eq_true, Bool.or_eq_true, Bool.and_eq_false_iff, Bool.or_eq_false_iff, Bool.not_not, ne_eq, Int.not_lt, Int.not_le, Decidable.not_not, beq_iff_eq, bne_iff_ne] at hc1
      exfalso; first | contradiction | omega
    · intro hc1
      try simp only [decide_eq_true_eq, decide_eq_false_iff_not, Bool.not_eq_true', Bool.not_eq_false', Bool.not_eq_true, Bool.not_eq_false, Bool.and_eq_true, Bool.or_eq_true, Bool.and_eq_false_iff, Bool.or_eq_false_iff, Bool.not_not, ne_eq, Int.not_lt, Int.not_le, Decidable.not_not, beq_iff_eq, bne_iff_ne] at hc1
      refine c_seq ?_
      refine c_seq ?_
      refine c_region ?_
      refine wl (wl_val hl rfl trivial (r_eql hl rfl rfl) ?_)
      clear hl a; intro a hl
      refine wl (wl_val hl rfl trivial (r_assign hl rfl) ?_)
      clear hl a; intro a hl
      refine w_nil ?_
      have hl2 := hl.add (t := 0) (hl.add (t := 2) (hl.add (t := 4) (hl.add (t := 7) (hl.add (t := 18) (hl.add (t := 27) (hl.nil) rfl) rfl) rfl) rfl) rfl) rfl; clear hl; have hl := hl2; clear hl2
      refine then_normal ?_
      refine c_cond hl rfl ?_ ?_
      · intro hc2
        try simp only [decide_eq_true_eq, decide_eq_false_iff_not, Bool.not_eq_true', Bool.not_eq_false', Bool.not_eq_true, Bool.not_eq_false, Bool.and_eq_true, Bool.or_eq_true, Bool.and_eq_false_iff, Bool.or_eq_false_iff, Bool.not_not, ne_eq, Int.not_lt, Int.not_le, Decidable.not_not, beq_iff_eq, bne_iff_ne] at hc2
        exfalso; first | contradiction | omega
      · intro hc2
        try simp only [decide_eq_true_eq, decide_eq_false_iff_not, Bool.not_eq_true', Bool.not_eq_false', Bool.not_eq_true, Bool.not_eq_false, Bool.and_eq_true, Bool.or_eq_true, Bool.and_eq_false_iff, Bool.or_eq_false_iff, Bool.not_not, ne_eq, Int.not_lt, Int.not_le, Decidable.not_not, beq_iff_eq, bne_iff_ne] at hc2
        refine c_region ?_
        refine wl (wl_val hl rfl trivial (r_eql hl rfl rfl) ?_)
        clear hl a; intro a hl
        refine wl (wl_val hl rfl trivial (r_assign hl rfl) ?_)
        clear hl a; intro a hl
        refine w_nil ?_
        have hl2 := hl.add (t := 0) (hl.add (t := 2) (hl.add (t := 4) (hl.add (t := 7) (hl.add (t := 18) (hl.add (t := 27) (hl.nil) rfl) rfl) rfl) rfl) rfl) rfl; clear hl; have hl := hl2; clear hl2
        refine then_normal ?_
        refine c_cond hl rfl ?_ ?_
        · intro hc3
          try simp only [decide_eq_true_eq, decide_eq_false_iff_not, Bool.not_eq_true', Bool.not_eq_false', Bool.not_eq_true, Bool.not_eq_false, Bool.and_eq_true, Bool.or_eq_true, Bool.and_eq_false_iff, Bool.or_eq_false_iff, Bool.not_not, ne_eq, Int.not_lt, Int.not_le, Decidable.not_not, beq_iff_eq, bne_iff_ne] at hc3
          exfalso; first | contradiction | omega
        · intro hc3
          try simp only [decide_eq_true_eq, decide_eq_false_iff_not, Bool.not_eq_true', Bool.not_eq_false', Bool.not_eq_true, Bool.not_eq_false, Bool.and_eq_true, Bool.or_eq_true, Bool.and_eq_false_iff, Bool.or_eq_false_iff, Bool.not_not, ne_eq, Int.not_lt, Int.not_le, Decidable.not_not, beq_iff_eq, bne_iff_ne] at hc3
          refine c_seq ?_
          refine c_seq ?_
          refine c_region ?_
          refine wl (wl_val hl rfl trivial (r_eql hl rfl rfl) ?_)
          clear hl a; intro a hl
          refine wl (wl_val hl rfl trivial (r_assign hl rfl) ?_)
          clear hl a; intro a hl
          refine w_nil ?_
          have hl2 := hl.add (t := 0) (hl.add (t := 2) (hl.add (t := 4) (hl.add (t := 7) (hl.add (t := 18) (hl.add (t := 39) (hl.nil) rfl) rfl) rfl) rfl) rfl) rfl; clear hl; have hl := hl2; clear hl2
          refine then_normal ?_
          refine c_cond hl rfl ?_ ?_
          · intro hc4
            try simp only [decide_eq_true_eq, decide_eq_false_iff_not, Bool.not_eq_true', Bool.not_eq_false', Bool.not_eq_true, Bool.not_eq_false, Bool.and_eq_true, Bool.or_eq_true, Bool.and_eq_false_iff, Bool.or_eq_false_iff, Bool.not_not, ne_eq, Int.not_lt, Int.not_le, Decidable.not_not, beq_iff_eq, bne_iff_ne] at hc4
            exfalso; first | contradiction | omega
          · intro hc4
            try simp only [decide_eq_true_eq, decide_eq_false_iff_not, Bool.not_eq_true', Bool.not_eq_false', Bool.not_eq_true, Bool.not_eq_false, Bool.and_eq_true, Bool.or_eq_true, Bool.and_eq_false_iff, Bool.or_eq_false_iff, Bool.not_not, ne_eq, Int.not_lt, Int.not_le, Decidable.not_not, beq_iff_eq, bne_iff_ne] at hc4
            refine c_region ?_
            refine wl (wl_val hl rfl trivial (r_eql hl rfl rfl) ?_)
            clear hl a; intro a hl
            refine wl (wl_val hl rfl trivial (r_assign hl rfl) ?_)
            clear hl a; intro a hl
            refine w_nil ?_
            have hl2 := hl.add (t := 0) (hl.add (t := 2) (hl.add (t := 4) (hl.add (t := 7) (hl.add (t := 18) (hl.add (t := 39) (hl.nil) rfl) rfl) rfl) rfl) rfl) rfl; clear hl; have hl := hl2; clear hl2
            refine then_normal ?_
            refine c_cond hl rfl ?_ ?_
            · intro hc5
              try simp only [decide_eq_true_eq, decide_eq_false_iff_not, Bool.not_eq_true', Bool.not_eq_false', Bool.not_eq_true, Bool.not_eq_false, Bool.and_eq_true, Bool.or_eq_true, Bool.and_eq_false_iff, Bool.or_eq_false_iff, Bool.not_not, ne_eq, Int.not_lt, Int.not_le, Decidable.not_not, beq_iff_eq, bne_iff_ne] at hc5
              exfalso; first | contradiction | omega
            · intro hc5
              try simp only [decide_eq_true_eq, decide_eq_false_iff_not, Bool.not_eq_true', Bool.not_eq_false', Bool.not_eq_true, Bool.not_eq_false, Bool.and_eq_true, Bool.or_eq_true, Bool.and_eq_false_iff, Bool.or_eq_false_iff, Bool.not_not, ne_eq, Int.not_lt, Int.not_le, Decidable.not_not, beq_iff_eq, bne_iff_ne] at hc5
              refine c_seq ?_
              refine c_region ?_
              refine wl (wl_val hl rfl trivial (r_eql hl rfl rfl) ?_)
              clear hl a; intro a hl
              refine wl (wl_val hl rfl trivial (r_assign hl rfl) ?_)
              clear hl a; intro a hl
              refine w_nil ?_
              have hl2 := hl.add (t := 0) (hl.add (t := 2) (hl.add (t := 4) (hl.add (t := 7) (hl.add (t := 18) (hl.add (t := 50) (hl.nil) rfl) rfl) rfl) rfl) rfl) rfl; clear hl; have hl := hl2; clear hl2
              refine then_normal ?_
              refine c_cond hl rfl ?_ ?_
              · intro hc6
                try simp only [decide_eq_true_eq, decide_eq_false_iff_not, Bool.not_eq_true', Bool.not_eq_false', Bool.not_eq_true, Bool.not_eq_false, Bool.and_eq_true, Bool.or_eq_true, Bool.and_eq_false_iff, Bool.or_eq_false_iff, Bool.not_not, ne_eq, Int.not_lt, Int.not_le, Decidable.not_not, beq_iff_eq, bne_iff_ne] at hc6
                exfalso; first | contradiction | omega
              · intro hc6
                try simp only [decide_eq_true_eq, decide_eq_false_iff_not, Bool.not_eq_true', Bool.not_eq_false', Bool.not_eq_true, Bool.not_eq_false, Bool.and_eq_true, Bool.or_eq_true, Bool.and_eq_false_iff, Bool.or_eq_false_iff, Bool.not_not, ne_eq, Int.not_lt, Int.not_le, Decidable.not_not, beq_iff_eq, bne_iff_ne] at hc6
                refine c_seq ?_
                refine c_region ?_
                refine wl (wl_val hl rfl trivial (r_eql hl rfl rfl) ?_)
                clear hl a; intro a hl
                refine wl (wl_val hl rfl trivial (r_assign hl rfl) ?_)
                clear hl a; intro a hl
                refine w_nil ?_
                have hl2 := hl.add (t := 0) (hl.add (t := 2) (hl.add (t := 4) (hl.add (t := 7) (hl.add (t := 18) (hl.add (t := 62) (hl.nil) rfl) rfl) rfl) rfl) rfl) rfl; clear hl; have hl := hl2; clear hl2
                refine then_normal ?_
                refine c_cond hl rfl ?_ ?_
                · intro hc7
                  try simp only [decide_eq_true_eq, decide_eq_false_iff_not, Bool.not_eq_true', Bool.not_eq_false', Bool.not_eq_true, Bool.not_eq_false, Bool.and_eq_true, Bool.or_eq_true, Bool.and_eq_false_iff, Bool.or_eq_false_iff, Bool.not_not, ne_eq, Int.not_lt, Int.not_le, Decidable.not_not, beq_iff_eq, bne_iff_ne] at hc7
                  exfalso; first | contradiction | omega
                · intro hc7
                  try simp only [decide_eq_true_eq, decide_eq_false_iff_not, Bool.not_eq_true', Bool.not_eq_false', Bool.not_eq_true, Bool.not_eq_false, Bool.and_eq_true, Bool.or_eq_true, Bool.and_eq_false_iff, Bool.or_eq_false_iff, Bool.not_not, ne_eq, Int.not_lt, Int.not_le, Decidable.not_not, beq_iff_eq, bne_iff_ne] at hc7
                  refine c_seq ?_
                  refine c_region ?_
                  refine wl (wl_val hl rfl trivial (r_eql hl rfl rfl) ?_)
                  clear hl a; intro a hl
                  refine wl (wl_val hl rfl trivial (r_assign hl rfl) ?_)
                  clear hl a; intro a hl
                  refine w_nil ?_
                  have hl2 := hl.add (t := 0) (hl.add (t := 2) (hl.add (t := 4) (hl.add (t := 7) (hl.add (t := 18) (hl.add (t := 68) (hl.nil) rfl) rfl) rfl) rfl) rfl) rfl; clear hl; have hl := hl2; clear hl2
                  refine then_normal ?_
                  refine c_cond hl rfl ?_ ?_
                  · intro hc8
                    try simp only [decide_eq_true_eq, decide_eq_false_iff_not, Bool.not_eq_true', Bool.not_eq_false', Bool.not_eq_true, Bool.not_eq_false, Bool.and_eq_true, Bool.or_eq_true, Bool.and_eq_false_iff, Bool.or_eq_false_iff, Bool.not_not, ne_eq, Int.not_lt, Int.not_le, Decidable.not_not, beq_iff_eq, bne_iff_ne] at hc8
                    exfalso; first | contradiction | omega
                  · intro hc8
                    try simp only [decide_eq_true_eq, decide_eq_false_iff_not, Bool.not_eq_true', Bool.not_eq_false', Bool.not_eq_true, Bool.not_eq_false, Bool.and_eq_true, Bool.or_eq_true, Bool.and_eq_false_iff, Bool.or_eq_false_iff, Bool.not_not, ne_eq, Int.not_lt, Int.not_le, Decidable.not_not, beq_iff_eq, bne_iff_ne] at hc8
                    refine c_seq ?_
                    refine c_region ?_
                    refine wl (wl_val hl rfl trivial (r_eql hl rfl rfl) ?_)
                    clear hl a; intro a hl
                    refine wl (wl_val hl rfl trivial (r_assign hl rfl) ?_)
                    clear hl a; intro a hl
                    refine w_nil ?_
                    have hl2 := hl.add (t := 0) (hl.add (t := 2) (hl.add (t := 4) (hl.add (t := 7) (hl.add (t := 18) (hl.add (t := 90) (hl.nil) rfl) rfl) rfl) rfl) rfl) rfl; clear hl; have hl := hl2; clear hl2
                    refine then_normal ?_
                    refine c_cond hl rfl ?_ ?_
                    · intro hc10
                      try simp only [decide_eq_true_eq, decide_eq_false_iff_not, Bool.not_eq_true', Bool.not_eq_false', Bool.not_eq_true, Bool.not_eq_false, Bool.and_eq_true, Bool.or_eq_true, Bool.and_eq_false_iff, Bool.or_eq_false_iff, Bool.not_not, ne_eq, Int.not_lt, Int.not_le, Decidable.not_not, beq_iff_eq, bne_iff_ne] at hc10
                      exfalso; first | contradiction | omega
                    · intro hc10
                      try simp only [decide_eq_true_eq, decide_eq_false_iff_not, Bool.not_eq_true', Bool.not_eq_false', Bool.not_eq_true, Bool.not_eq_false, Bool.and_eq_true, Bool.or_eq_true, Bool.and_eq_false_iff, Bool.or_eq_false_iff, Bool.not_not, ne_eq, Int.not_lt, Int.not_le, Decidable.not_not, beq_iff_eq, bne_iff_ne] at hc10
                      refine c_seq ?_
                      refine c_region ?_
                      refine wl (wl_val hl rfl trivial (r_eql hl rfl rfl) ?_)
                      clear hl a; intro a hl
                      refine wl (wl_val hl rfl trivial (r_assign hl rfl) ?_)
                      clear hl a; intro a hl
                      refine w_nil ?_
                      have hl2 := hl.add (t := 0) (hl.add (t := 2) (hl.add (t := 4) (hl.add (t := 7) (hl.add (t := 18) (hl.add (t := 114) (hl.nil) rfl) rfl) rfl) rfl) rfl) rfl; clear hl; have hl := hl2; clear hl2
                      refine then_normal ?_
                      refine c_cond hl rfl ?_ ?_
                      · intro hc12
                        try simp only [decide_eq_true_eq, decide_eq_false_iff_not, Bool.not_eq_true', Bool.not_eq_false', Bool.not_eq_true, Bool.not_eq_false, Bool.and_eq_true, Bool.or_eq_true, Bool.and_eq_false_iff, Bool.or_eq_false_iff, Bool.not_not, ne_eq, Int.not_lt, Int.not_le, Decidable.not_not, beq_iff_eq, bne_iff_ne] at hc12
                        exfalso; first | contradiction | omega
                      · intro hc12
                        try simp only [decide_eq_true_eq, decide_eq_false_iff_not, Bool.not_eq_true', Bool.not_eq_false', Bool.not_eq_true, Bool.not_eq_false, Bool.and_eq_true, Bool.or_eq_true, Bool.and_eq_false_iff, Bool.or_eq_false_iff, Bool.not_not, ne_eq, Int.not_lt, Int.not_le, Decidable.not_not, beq_iff_eq, bne_iff_ne] at hc12
                        refine c_seq ?_
                        refine c_region ?_
                        refine wl (wl_val hl rfl trivial (r_eql hl rfl rfl) ?_)
                        clear hl a; intro a hl
                        refine wl (wl_val hl rfl trivial (r_assign hl rfl) ?_)
                        clear hl a; intro a hl
                        refine w_nil ?_
                        have hl2 := hl.add (t := 0) (hl.add (t := 2) (hl.add (t := 4) (hl.add (t := 7) (hl.add (t := 18) (hl.add (t := 130) (hl.nil) rfl) rfl) rfl) rfl) rfl) rfl; clear hl; have hl := hl2; clear hl2
                        refine then_normal ?_
                        refine c_cond hl rfl ?_ ?_
                        · intro hc14
                          try simp only [decide_eq_true_eq, decide_eq_false_iff_not, Bool.not_eq_true', Bool.not_eq_false', Bool.not_eq_true, Bool.not_eq_false, Bool.and_eq_true, Bool.or_eq_true, Bool.and_eq_false_iff, Bool.or_eq_false_iff, Bool.not_not, ne_eq, Int.not_lt, Int.not_le, Decidable.not_not, beq_iff_eq, bne_iff_ne] at hc14
                          exfalso; first | contradiction | omega
                        · intro hc14
                          try simp only [decide_eq_true_eq, decide_eq_false_iff_not, Bool.not_eq_true', Bool.not_eq_false', Bool.not_eq_true, Bool.not_eq_false, Bool.and_eq_true, Bool.or_eq_true, Bool.and_eq_false_iff, Bool.or_eq_false_iff, Bool.not_not, ne_eq, Int.not_lt, Int.not_le, Decidable.not_not, beq_iff_eq, bne_iff_ne] at hc14
                          refine c_seq ?_
                          refine c_region ?_
                          refine wl (wl_val hl rfl trivial (r_eql hl rfl rfl) ?_)
                          clear hl a; intro a hl
                          refine wl (wl_val hl rfl trivial (r_assign hl rfl) ?_)
                          clear hl a; intro a hl
                          refine w_nil ?_
                          have hl2 := hl.add (t := 0) (hl.add (t := 2) (hl.add (t := 4) (hl.add (t := 18) (hl.add (t := 152) (hl.nil) rfl) rfl) rfl) rfl) rfl; clear hl; have hl := hl2; clear hl2
                          refine then_normal ?_
                          refine c_cond hl rfl ?_ ?_
                          · intro hc16
                            try simp only [decide_eq_true_eq, decide_eq_false_iff_not, Bool.not_eq_true', Bool.not_eq_false', Bool.not_eq_true, Bool.not_eq_false, Bool.and_eq_true, Bool.or_eq_true, Bool.and_eq_false_iff, Bool.or_eq_false_iff, Bool.not_not, ne_eq, Int.not_lt, Int.not_le, Decidable.not_not, beq_iff_eq, bne_iff_ne] at hc16
                            exfalso; first | contradiction | omega
                          · intro hc16
                            try simp only [decide_eq_true_eq, decide_eq_false_iff_not, Bool.not_eq_true', Bool.not_eq_false', Bool.not_eq_true, Bool.not_eq_false, Bool.and_eq_true, Bool.or_eq_true, Bool.and_eq_false_iff, Bool.or_eq_false_iff, Bool.not_not, ne_eq, Int.not_lt, Int.not_le, Decidable.not_not, beq_iff_eq, bne_iff_ne] at hc16
                            refine c_seq ?_
                            refine c_region ?_
                            refine wl (wl_val hl rfl trivial (r_eql hl rfl rfl) ?_)
                            clear hl a; intro a hl
                            refine wl (wl_val hl rfl trivial (r_assign hl rfl) ?_)
                            clear hl a; intro a hl
                            refine w_nil ?_
                            have hl2 := hl.add (t := 0) (hl.add (t := 2) (hl.add (t := 4) (hl.add (t := 18) (hl.add (t := 157) (hl.nil) rfl) rfl) rfl) rfl) rfl; clear hl; have hl := hl2; clear hl2
                            refine then_normal ?_
                            refine c_cond hl rfl ?_ ?_
                            · intro hc17
                              try simp only [decide_eq_true_eq, decide_eq_false_iff_not, Bool.not_eq_true', Bool.not_eq_false', Bool.not_eq_true, Bool.not_eq_false, Bool.and_eq_true, Bool.or_eq_true, Bool.and_eq_false_iff, Bool.or_eq_false_iff, Bool.not_not, ne_eq, Int.not_lt, Int.not_le, Decidable.not_not, beq_iff_eq, bne_iff_ne] at hc17
                              exfalso; first | contradiction | omega
                            · intro hc17
                              try simp only [decide_eq_true_eq, decide_eq_false_iff_not, Bool.not_eq_true', Bool.not_eq_false', Bool.not_eq_true, Bool.not_eq_false, Bool.and_eq_true, Bool.or_eq_true, Bool.and_eq_false_iff, Bool.or_eq_false_iff, Bool.not_not, ne_eq, Int.not_lt, Int.not_le, Decidable.not_not, beq_iff_eq, bne_iff_ne] at hc17
                              refine c_seq ?_
                              refine c_region ?_
                              refine wl (wl_val hl rfl trivial (r_eql hl rfl rfl) ?_)
                              clear hl a; intro a hl
                              refine wl (wl_val hl rfl trivial (r_assign hl rfl) ?_)
                              clear hl a; intro a hl
                              refine w_nil ?_
                              have hl2 := hl.add (t := 0) (hl.add (t := 2) (hl.add (t := 4) (hl.add (t := 18) (hl.add (t := 170) (hl.nil) rfl) rfl) rfl) rfl) rfl; clear hl; have hl := hl2; clear hl2
                              refine then_normal ?_
                              refine c_cond hl rfl ?_ ?_
                              · intro hc19
                                try simp only [decide_eq_true_eq, decide_eq_false_iff_not, Bool.not_eq_true', Bool.not_eq_false', Bool.not_eq_true, Bool.not_eq_false, Bool.and_eq_true, Bool.or_eq_true, Bool.and_eq_false_iff, Bool.or_eq_false_iff, Bool.not_not, ne_eq, Int.not_lt, Int.not_le, Decidable.not_not, beq_iff_eq, bne_iff_ne] at hc19
                                refine c_draw [(k4, C [.int .u8 o.k, .int .i64 o.A, .int .i64 o.B, .slice p o.tx.length cap, .int .u8 o.m.k, .int .u8 o.m.d, .int .u32 o.m.e, .int .u32 o.m.b, .bool o.m.y, .int .u32 o.m.r, .int .u32 o.m.s, .string o.m.t, .int .u8 o.v.k, .int .u8 o.v.a, .int .u8 o.v.b, .int .u8 o.v.w, .int .u8 o.v.da, .int .u8 o.v.dl] 45)] [11, 12, 13] mixed hh ?_
                                clear hh w; intro w hh
                                have hM : Mem [(k4, C [.int .u8 o.k, .int .i64 o.A, .int .i64 o.B, .slice p o.tx.length cap, .int .u8 o.m.k, .int .u8 o.m.d, .int .u32 o.m.e, .int .u32 o.m.b, .bool o.m.y, .int .u32 o.m.r, .int .u32 o.m.s, .string o.m.t, .int .u8 o.v.k, .int .u8 o.v.a, .int .u8 o.v.b, .int .u8 o.v.w, .int .u8 o.v.da, .int .u8 o.v.dl] 45)] w := (memK hh (by repeat (first | exact keeps_nil | apply keeps_cons (by repeat (first | exact find_head | apply find_tail | apply find_skip)) (by first  | rfl) | exact keeps_self | exact keeps_left | apply keeps_app | apply keeps_mv | apply keeps_skip)))
                                refine d_take (i := 0) hl rfl (by kernel_rfl) (by kernel_rfl) (by kernel_rfl) (by kernel_rfl) (by kernel_rfl) rfl trivial (fun _ _ _ h => h) hM (fun w hC => r_move hl rfl) rfl ?_
                                clear hl a; intro a hl
                                refine d_take (i := 1) hl rfl (by kernel_rfl) (by kernel_rfl) (by kernel_rfl) (by kernel_rfl) (by kernel_rfl) rfl trivial (fun _ _ _ h => h) hM (fun w hC => r_field hl rfl fld45_1) rfl ?_
                                clear hl a; intro a hl
                                refine d_take (i := 2) hl rfl (by kernel_rfl) (by kernel_rfl) (by kernel_rfl) (by kernel_rfl) (by kernel_rfl) rfl trivial (fun _ _ _ h => h) hM (fun w hC => r_loadC hl rfl one3 hC (by repeat (first | exact find_head | apply find_tail | apply find_skip)) (by first | exact hct | exact hcr | exact hch | exact hcl | exact wc_dev W hW.dl hx9 | rfl)) rfl ?_
                                clear hl a; intro a hl
                                refine d_take (i := 4) hl rfl (by kernel_rfl) (by kernel_rfl) (by kernel_rfl) (by kernel_rfl) (by kernel_rfl) rfl trivial (fun _ _ _ h => h) hM (fun w hC => r_nilCheck hl rfl) rfl ?_
                                clear hl a; intro a hl
                                refine d_take (i := 5) hl rfl (by kernel_rfl) (by kernel_rfl) (by kernel_rfl) (by kernel_rfl) (by kernel_rfl) rfl trivial (fun _ _ _ h => h) hM (fun w hC => r_field hl rfl fld55_2) rfl ?_
                                clear hl a; intro a hl
                                refine d_take (i := 8) hl rfl (by kernel_rfl) (by kernel_rfl) (by kernel_rfl) (by kernel_rfl) (by kernel_rfl) rfl trivial (fun _ _ _ h => h) hM (fun w hC => r_field hl rfl fld45_2) rfl ?_
                                clear hl a; intro a hl
                                refine d_take (i := 9) hl rfl (by kernel_rfl) (by kernel_rfl) (by kernel_rfl) (by kernel_rfl) (by kernel_rfl) rfl trivial (fun _ _ _ h => h) hM (fun w hC => r_loadC hl rfl one3 hC (by repeat (first | exact find_head | apply find_tail | apply find_skip)) (by first | exact hct | exact hcr | exact hch | exact hcl | exact wc_dev W hW.dl hx9 | rfl)) rfl ?_
                                clear hl a; intro a hl
                                refine d_one (i := 3) (by kernel_rfl) rfl ?_
                                try clear hM
                                refine id (w_call hl hh rfl trivial rfl cal22 rfl (mod_spec o.A (16 : Int) (by omega) (by omega)) (by repeat (first | exact keeps_nil | apply keeps_cons (by repeat (first | exact find_head | apply find_tail | apply find_skip)) (by first  | rfl) | exact keeps_self | exact keeps_left | apply keeps_app | apply keeps_mv | apply keeps_skip)) trivial ?_)
                                clear hl hh a w; intro vc Fc a w hR hl hh
                                obtain ⟨rfl, rfl⟩ := hR
                                try simp only [List.cons_append, List.nil_append, List.append_assoc, List.append_nil] at hh
                                obtain ⟨i9, hi9, hi8⟩ := mod_nat o.A (show 0 < 16 by omega)
                                rw [show ((16 : Nat) : Int) = 16 from rfl] at hi9
                                rw [hi9] at hl
                                obtain ⟨⟨db, d⟩, hx9⟩ : ∃ y, W.ds[i9]? = some y := ⟨_, List.getElem?_eq_getElem (by rw [hW.dl]; exact hi8)⟩
                                have hi7 : i9 < W.ds.length := by rw [hW.dl]; exact hi8
                                rw [dsF_split hx9] at hh
                                simp only [DeV.F, DeV.c, List.cons_append, List.nil_append, List.append_assoc] at hh
                                have hM : Mem [(k4, C [.int .u8 o.k, .int .i64 o.A, .int .i64 o.B, .slice p o.tx.length cap, .int .u8 o.m.k, .int .u8 o.m.d, .int .u32 o.m.e, .int .u32 o.m.b, .bool o.m.y, .int .u32 o.m.r, .int .u32 o.m.s, .string o.m.t, .int .u8 o.v.k, .int .u8 o.v.a, .int .u8 o.v.b, .int .u8 o.v.w, .int .u8 o.v.da, .int .u8 o.v.dl] 45)] w := (memK hh (by repeat (first | exact keeps_nil | apply keeps_cons (by repeat (first | exact find_head | apply find_tail | apply find_skip)) (by first  | rfl) | exact keeps_self | exact keeps_left | apply keeps_app | apply keeps_mv | apply keeps_skip)))
                                refine d_step (fun _ => hM) ?_
                                refine d_take (i := 6) hl rfl (by kernel_rfl) (by kernel_rfl) (by kernel_rfl) (by kernel_rfl) (by kernel_rfl) rfl trivial (fun _ _ _ h => h) hM (fun w hC => r_indexA hl rfl rfl arr52 (by omega) (by omega) (by first | (simp only [Int.reduceToNat]; rfl) | exact toNat_add1 _ | exact toNat_add2 _ _ | exact toNat_emod _ _ | exact Int.toNat_natCast _ | rfl)) rfl ?_
                                clear hl a; intro a hl
                                refine d_two (i := 7) (j := 10) (by kernel_rfl) rfl rfl ?_ ?_
                                ·
                                  try clear hM
                                  refine id (w_load hl hh rfl trivial one51 rfl (by repeat (first | exact find_head | apply find_tail | apply find_skip)) (by first | exact hct | exact hcr | exact hch | exact hcl | exact wc_dev W hW.dl hx9 | rfl) ?_)
                                  clear hl a; intro a hl
                                  have hM : Mem [(k4, C [.int .u8 o.k, .int .i64 o.A, .int .i64 o.B, .slice p o.tx.length cap, .int .u8 o.m.k, .int .u8 o.m.d, .int .u32 o.m.e, .int .u32 o.m.b, .bool o.m.y, .int .u32 o.m.r, .int .u32 o.m.s, .string o.m.t, .int .u8 o.v.k, .int .u8 o.v.a, .int .u8 o.v.b, .int .u8 o.v.w, .int .u8 o.v.da, .int .u8 o.v.dl] 45)] w := (memK hh (by repeat (first | exact keeps_nil | apply keeps_cons (by repeat (first | exact find_head | apply find_tail | apply find_skip)) (by first  | rfl) | exact keeps_self | exact keeps_left | apply keeps_app | apply keeps_mv | apply keeps_skip)))
                                  refine d_step (fun _ => hM) ?_
                                  refine d_one (i := 10) (by kernel_rfl) rfl ?_
                                  try clear hM
                                  refine id (w_call hl hh rfl trivial rfl cal18 rfl (odd_spec _ (by omega)) (by repeat (first | exact keeps_nil | apply keeps_cons (by repeat (first | exact find_head | apply find_tail | apply find_skip)) (by first  | rfl) | exact keeps_self | exact keeps_left | apply keeps_app | apply keeps_mv | apply keeps_skip)) trivial ?_)
                                  clear hl hh a w; intro vc Fc a w hR hl hh
                                  obtain ⟨rfl, rfl⟩ := hR
                                  try simp only [List.cons_append, List.nil_append, List.append_assoc, List.append_nil] at hh
                                  have hM : Mem [(k4, C [.int .u8 o.k, .int .i64 o.A, .int .i64 o.B, .slice p o.tx.length cap, .int .u8 o.m.k, .int .u8 o.m.d, .int .u32 o.m.e, .int .u32 o.m.b, .bool o.m.y, .int .u32 o.m.r, .int .u32 o.m.s, .string o.m.t, .int .u8 o.v.k, .int .u8 o.v.a, .int .u8 o.v.b, .int .u8 o.v.w, .int .u8 o.v.da, .int .u8 o.v.dl] 45)] w := (memK hh (by repeat (first | exact keeps_nil | apply keeps_cons (by repeat (first | exact find_head | apply find_tail | apply find_skip)) (by first  | rfl) | exact keeps_self | exact keeps_left | apply keeps_app | apply keeps_mv | apply keeps_skip)))
                                  refine d_step (fun _ => hM) ?_
                                  refine d_takeL (i := 11) hl rfl (by kernel_rfl) (by kernel_rfl) (by kernel_rfl) (by kernel_rfl) (by kernel_rfl) rfl trivial (fun _ _ _ h => h) (fun w => r_nilCheck hl rfl) rfl ?_
                                  clear hl a; intro a hl
                                  refine d_takeL (i := 12) hl rfl (by kernel_rfl) (by kernel_rfl) (by kernel_rfl) (by kernel_rfl) (by kernel_rfl) rfl trivial (fun _ _ _ h => h) (fun w => r_field hl rfl fld94_7) rfl ?_
                                  clear hl a; intro a hl
                                  refine d_one (i := 13) (by kernel_rfl) rfl ?_
                                  try clear hM
                                  refine id (w_store hl hh trivial one4 rfl rfl (by repeat (first | exact find_head | apply find_tail | apply find_skip)) (by first | (simp; done) | (simp; omega)) (by first | rfl | assumption | (apply Row.one; assumption)) (by first | (simp only [setL, List.getElem?_cons_zero, List.getElem?_cons_succ, Value.cells, List.take_zero, List.take_succ_cons, List.take_nil, List.drop_zero, List.drop_succ_cons, List.drop_nil, List.length_cons, List.length_nil, List.cons_append, List.nil_append, List.append_nil, Nat.zero_add, Nat.add_zero, Nat.reduceAdd, Nat.reduceBEq, Nat.reduceEqDiff, Nat.ble, BEq.rfl, Bool.and_true, Bool.and_self, cond_true, beq_self_eq_true]; rfl)) ?_)
                                  clear hh w; intro w hh
                                  refine d_step (fun h => absurd h (by decide)) ?_
                                  refine d_done (by kernel_rfl) ?_
                                  try clear hM
                                  have hl2 := hl.nil; clear hl; have hl := hl2; clear hl2
                                  refine blk_normal ?_
                                  refine then_normal ?_
                                  refine c_seq ?_
                                  refine c_region ?_
                                  refine wl (wl_val hl rfl trivial (r_assign hl rfl) ?_)
                                  clear hl a; intro a hl
                                  refine w_nil ?_
                                  have hl2 := hl.add (t := 6) (hl.nil) rfl; clear hl; have hl := hl2; clear hl2
                                  refine then_normal ?_
                                  refine wp_ret ?_
                                  refine f_ret1 (F' := Fx ++ ((wb, C (WoV.c W) 55) :: (W.tE ++ (W.gE ++ ((DsF (W.ds.take i9) ++ ((db, C (DeV.c { d with sb := oddP o.B }) 94) :: ((d.mb, MO (kInt .u32) d.fm) :: DsF (W.ds.drop (i9 + 1))))) ++ WoV.GF W Z))))) hl hh rfl rfl (by repeat (first | exact keeps_nil | apply keeps_cons (by repeat (first | exact find_head | apply find_tail | apply find_skip)) (by first  | rfl) | exact keeps_self | exact keeps_left | apply keeps_app | apply keeps_mv | apply keeps_skip)) ?_
                                  refine StepO.same (W' := { W with ds := W.ds.set i9 (db, { d with sb := oddP o.B }) }) (stub_ok hW hx9 _) (stub_K hx9 _ (Q.jk hJ)) (hn.cg rfl rfl) hMx ?_
                                  unfold WoV.F
                                  rw [show WoV.c { W with ds := W.ds.set i9 (db, { d with sb := oddP o.B }) } = W.c from wc_same rfl rfl (dsC_set hx9) rfl, dsF_set hi7]
                                  simp only [DeV.F, List.cons_append, List.nil_append, List.append_assoc]
                                  rfl
                                ·
                                  try clear hM
                                  refine id (w_call hl hh rfl trivial rfl cal18 rfl (odd_spec _ (by omega)) (by repeat (first | exact keeps_nil | apply keeps_cons (by repeat (first | exact find_head | apply find_tail | apply find_skip)) (by first  | rfl) | exact keeps_self | exact keeps_left | apply keeps_app | apply keeps_mv | apply keeps_skip)) trivial ?_)
                                  clear hl hh a w; intro vc Fc a w hR hl hh
                                  obtain ⟨rfl, rfl⟩ := hR
                                  try simp only [List.cons_append, List.nil_append, List.append_assoc, List.append_nil] at hh
                                  have hM : Mem [(k4, C [.int .u8 o.k, .int .i64 o.A, .int .i64 o.B, .slice p o.tx.length cap, .int .u8 o.m.k, .int .u8 o.m.d, .int .u32 o.m.e, .int .u32 o.m.b, .bool o.m.y, .int .u32 o.m.r, .int .u32 o.m.s, .string o.m.t, .int .u8 o.v.k, .int .u8 o.v.a, .int .u8 o.v.b, .int .u8 o.v.w, .int .u8 o.v.da, .int .u8 o.v.dl] 45)] w := (memK hh (by repeat (first | exact keeps_nil | apply keeps_cons (by repeat (first | exact find_head | apply find_tail | apply find_skip)) (by first  | rfl) | exact keeps_self | exact keeps_left | apply keeps_app | apply keeps_mv | apply keeps_skip)))
                                  refine d_step (fun _ => hM) ?_
                                  refine d_one (i := 7) (by kernel_rfl) rfl ?_
                                  try clear hM
                                  refine id (w_load hl hh rfl trivial one51 rfl (by repeat (first | exact find_head | apply find_tail | apply find_skip)) (by first | exact hct | exact hcr | exact hch | exact hcl | exact wc_dev W hW.dl hx9 | rfl) ?_)
                                  clear hl a; intro a hl
                                  have hM : Mem [(k4, C [.int .u8 o.k, .int .i64 o.A, .int .i64 o.B, .slice p o.tx.length cap, .int .u8 o.m.k, .int .u8 o.m.d, .int .u32 o.m.e, .int .u32 o.m.b, .bool o.m.y, .int .u32 o.m.r, .int .u32 o.m.s, .string o.m.t, .int .u8 o.v.k, .int .u8 o.v.a, .int .u8 o.v.b, .int .u8 o.v.w, .int .u8 o.v.da, .int .u8 o.v.dl] 45)] w := (memK hh (by repeat (first | exact keeps_nil | apply keeps_cons (by repeat (first | exact find_head | apply find_tail | apply find_skip)) (by first  | rfl) | exact keeps_self | exact keeps_left | apply keeps_app | apply keeps_mv | apply keeps_skip)))
                                  refine d_step (fun _ => hM) ?_
                                  refine d_takeL (i := 11) hl rfl (by kernel_rfl) (by kernel_rfl) (by kernel_rfl) (by kernel_rfl) (by kernel_rfl) rfl trivial (fun _ _ _ h => h) (fun w => r_nilCheck hl rfl) rfl ?_
                                  clear hl a; intro a hl
                                  refine d_takeL (i := 12) hl rfl (by kernel_rfl) (by kernel_rfl) (by kernel_rfl) (by kernel_rfl) (by kernel_rfl) rfl trivial (fun _ _ _ h => h) (fun w => r_field hl rfl fld94_7) rfl ?_
                                  clear hl a; intro a hl
                                  refine d_one (i := 13) (by kernel_rfl) rfl ?_
                                  try clear hM
                                  refine id (w_store hl hh trivial one4 rfl rfl (by repeat (first | exact find_head | apply find_tail | apply find_skip)) (by first | (simp; done) | (simp; omega)) (by first | rfl | assumption | (apply Row.one; assumption)) (by first | (simp only [setL, List.getElem?_cons_zero, List.getElem?_cons_succ, Value.cells, List.take_zero, List.take_succ_cons, List.take_nil, List.drop_zero, List.drop_succ_cons, List.drop_nil, List.length_cons, List.length_nil, List.cons_append, List.nil_append, List.append_nil, Nat.zero_add, Nat.add_zero, Nat.reduceAdd, Nat.reduceBEq, Nat.reduceEqDiff, Nat.ble, BEq.rfl, Bool.and_true, Bool.and_self, cond_true, beq_self_eq_true]; rfl)) ?_)
                                  clear hh w; intro w hh
                                  refine d_step (fun h => absurd h (by decide)) ?_
                                  refine d_done (by kernel_rfl) ?_
                                  try clear hM
                                  have hl2 := hl.nil; clear hl; have hl := hl2; clear hl2
                                  refine blk_normal ?_
                                  refine then_normal ?_
                                  refine c_seq ?_
                                  refine c_region ?_
                                  refine wl (wl_val hl rfl trivial (r_assign hl rfl) ?_)
                                  clear hl a; intro a hl
                                  refine w_nil ?_
                                  have hl2 := hl.add (t := 6) (hl.nil) rfl; clear hl; have hl := hl2; clear hl2
                                  refine then_normal ?_
                                  refine wp_ret ?_
                                  refine f_ret1 (F' := Fx ++ ((wb, C (WoV.c W) 55) :: (W.tE ++ (W.gE ++ ((DsF (W.ds.take i9) ++ ((db, C (DeV.c { d with sb := oddP o.B }) 94) :: ((d.mb, MO (kInt .u32) d.fm) :: DsF (W.ds.drop (i9 + 1))))) ++ WoV.GF W Z))))) hl hh rfl rfl (by repeat (first | exact keeps_nil | apply keeps_cons (by repeat (first | exact find_head | apply find_tail | apply find_skip)) (by first  | rfl) | exact keeps_self | exact keeps_left | apply keeps_app | apply keeps_mv | apply keeps_skip)) ?_
                                  refine StepO.same (W' := { W with ds := W.ds.set i9 (db, { d with sb := oddP o.B }) }) (stub_ok hW hx9 _) (stub_K hx9 _ (Q.jk hJ)) (hn.cg rfl rfl) hMx ?_
                                  unfold WoV.F
                                  rw [show WoV.c { W with ds := W.ds.set i9 (db, { d with sb := oddP o.B }) } = W.c from wc_same rfl rfl (dsC_set hx9) rfl, dsF_set hi7]
                                  simp only [DeV.F, List.cons_append, List.nil_append, List.append_assoc]
                                  rfl
                              · intro hc19
                                try simp only [decide_eq_true_eq, decide_eq_false_iff_not, Bool.not_eq_true', Bool.not_eq_false', Bool.not_eq_true, Bool.not_eq_false, Bool.and_eq_true, Bool.or_eq_true, Bool.and_eq_false_iff, Bool.or_eq_false_iff, Bool.not_not, ne_eq, Int.not_lt, Int.not_le, Decidable.not_not, beq_iff_eq, bne_iff_ne] at hc19
                                exfalso; first | contradiction | omega

set_option maxHeartbeats 8000000 in
theorem step_armu {lb wb : Nat} (L : LawM lb wb) (Q : LawJ L) (Z : List (Nat × Obj)) (W : WoV) (hW : W.ok Z) (n : Nat) (hn9 : n + 200 < 1000000000) (x : L.X) (Fx : List (Nat × Obj)) (hMx : L.M Z x Fx) (hJ : Q.J (W.pl [] []) x) (hn : WI n (W.pl [] [])) (o : OpP) (p : Option Addr) (cap : Nat) (ho : OpOk Z o p cap) (hk : o.k = 14) (gb : Nat) (g : GtV) (hg : W.g = some (gb, g)) : Sp Tryz.prog 12 #[.pointer (some ⟨wb, 0, none⟩), .agg ⟨opC o p cap⟩, Lw L.T lb] (Fx ++ WoV.F wb W Z) (fun v F' => StepO Q Z n v F') := by
  refine f_enter (args := [.pointer (some ⟨wb, 0, none⟩), .agg ⟨[.int .u8 o.k, .int .i64 o.A, .int .i64 o.B, .slice p o.tx.length cap, .int .u8 o.m.k, .int .u8 o.m.d, .int .u32 o.m.e, .int .u32 o.m.b, .bool o.m.y, .int .u32 o.m.r, .int .u32 o.m.s, .string o.m.t, .int .u8 o.v.k, .int .u8 o.v.a, .int .u8 o.v.b, .int .u8 o.v.w, .int .u8 o.v.da, .int .u8 o.v.dl]⟩, .iface L.T (.pointer (some ⟨lb, 0, none⟩))]) Tryz.func12 rfl Tryz.ntmps12 rfl ?_
  intro w0 w a hpre hl hh
  generalize hDD : List.map Prod.fst (Fx ++ WoV.F wb W Z) = D at hh ⊢
  simp only [WoV.F] at hh
  have hct := wc_td W hW.dl
  have hcr := wc_tg W hW.dl
  have hch := wc_hn W hW.dl
  have hcl := wc_led W
  have hwl := wc_len W hW.dl
  have ho1 := ho.k
  have ho2 := ho.A
  have ho3 := ho.B
  have htl := hW.tl
  have hrl := hW.rl
  have hled : g.led = W.lb := (hW.g _ hg).2.1
  simp only [WoV.GF, hg, GF] at hh
  rw [hled] at hh
  try simp only [List.append_assoc, List.cons_append] at hh
  simp only [slotsFrom, Nat.reduceAdd] at hl
  refine c_seq ?_
  refine c_region ?_
  refine wl (w_box hl hh rfl trivial rfl rfl ?_)
  clear hl hh a w; intro k4 a w hl hh
  refine wl (wl_val hl rfl trivial (r_assign hl rfl) ?_)
  clear hl a; intro a hl
  refine w_nil ?_
  have hl2 := hl.add (t := 0) (hl.add (t := 2) (hl.add (t := 4) (hl.nil) rfl) rfl) rfl; clear hl; have hl := hl2; clear hl2
  refine then_normal ?_
  refine c_seq ?_
  refine c_region ?_
  refine wl (wl_val hl rfl trivial (r_move hl rfl) ?_)
  clear hl a; intro a hl
  refine wl (wl_val hl rfl trivial (r_nilCheck hl rfl) ?_)
  clear hl a; intro a hl
  refine wl (wl_val hl rfl trivial (r_field hl rfl fld55_3) ?_)
  clear hl a; intro a hl
  refine wl (wl_val hl rfl trivial (r_assign hl rfl) ?_)
  clear hl a; intro a hl
  refine w_nil ?_
  have hl2 := hl.add (t := 0) (hl.add (t := 2) (hl.add (t := 4) (hl.add (t := 7) (hl.nil) rfl) rfl) rfl) rfl; clear hl; have hl := hl2; clear hl2
  refine then_normal ?_
  refine c_seq ?_
  refine c_seq ?_
  refine c_region ?_
  refine wl (wl_val hl rfl trivial (r_field hl rfl fld45_2) ?_)
  clear hl a; intro a hl
  refine wl (w_load hl hh rfl trivial one3 rfl (by repeat (first | exact find_head | apply find_tail | apply find_skip)) (by first | exact hct | exact hcr | exact hch | exact hcl | rfl) ?_)
  clear hl a; intro a hl
  refine wl (w_call hl hh rfl trivial rfl cal18 rfl (odd_spec _ (by omega)) (by repeat (first | exact keeps_nil | apply keeps_cons (by repeat (first | exact find_head | apply find_tail | apply find_skip)) (by first  | rfl) | exact keeps_self | exact keeps_left | apply keeps_app | apply keeps_mv | apply keeps_skip)) trivial ?_)
  clear hl hh a w; intro vc Fc a w hR hl hh
  obtain ⟨rfl, rfl⟩ := hR
  try simp only [List.cons_append, List.nil_append, List.append_assoc, List.append_nil] at hh
  refine w_nil ?_
  have hl2 := hl.add (t := 0) (hl.add (t := 2) (hl.add (t := 4) (hl.add (t := 7) (hl.add (t := 13) (hl.nil) rfl) rfl) rfl) rfl) rfl; clear hl; have hl := hl2; clear hl2
  refine then_normal ?_
  refine c_cond hl rfl ?_ ?_
  · intro hc0
    try simp only [decide_eq_true_eq, decide_eq_false_iff_not, Bool.not_eq_true', Bool.not_eq_false', Bool.not_eq_true, Bool.not_eq_false, Bool.and_eq_true, Bool.or_eq_true, Bool.and_eq_false_iff, Bool.or_eq_false_iff, Bool.not_not, ne_eq, Int.not_lt, Int.not_le, Decidable.not_not, beq_iff_eq, bne_iff_ne] at hc0
    refine c_region ?_
    refine wl (wl_val hl rfl trivial (r_move hl rfl) ?_)
    clear hl a; intro a hl
    refine wl (wl_val hl rfl trivial (r_nilCheck hl rfl) ?_)
    clear hl a; intro a hl
    refine wl (wl_val hl rfl trivial (r_field hl rfl fld55_4) ?_)
    clear hl a; intro a hl
    refine wl (wl_val hl rfl trivial (r_assign hl rfl) ?_)
    clear hl a; intro a hl
    refine w_nil ?_
    have hl2 := hl.add (t := 0) (hl.add (t := 2) (hl.add (t := 4) (hl.add (t := 7) (hl.nil) rfl) rfl) rfl) rfl; clear hl; have hl := hl2; clear hl2
    refine then_normal ?_
    refine c_seq ?_
    refine c_seq ?_
    refine c_region ?_
    refine wl (wl_val hl rfl trivial (r_field hl rfl fld45_0) ?_)
    clear hl a; intro a hl
    refine wl (w_load hl hh rfl trivial one33 rfl (by repeat (first | exact find_head | apply find_tail | apply find_skip)) (by first | exact hct | exact hcr | exact hch | exact hcl | rfl) ?_)
    clear hl a; intro a hl
    refine w_nil ?_
    have hl2 := hl.add (t := 0) (hl.add (t := 2) (hl.add (t := 4) (hl.add (t := 7) (hl.add (t := 18) (hl.nil) rfl) rfl) rfl) rfl) rfl; clear hl; have hl := hl2; clear hl2
    refine then_normal ?_
    refine wp_block ?_
    refine c_seq ?_
    refine c_region ?_
    refine wl (wl_val hl rfl trivial (r_eql hl rfl rfl) ?_)
    clear hl a; intro a hl
    refine wl (wl_val hl rfl trivial (r_assign hl rfl) ?_)
    clear hl a; intro a hl
    refine w_nil ?_
    have hl2 := hl.add (t := 0) (hl.add (t := 2) (hl.add (t := 4) (hl.add (t := 7) (hl.add (t := 18) (hl.add (t := 19) (hl.nil) rfl) rfl) rfl) rfl) rfl) rfl; clear hl; have hl := hl2; clear hl2
    refine then_normal ?_
    refine c_cond hl rfl ?_ ?_
    · intro hc1
      try simp only [decide_eq_true_eq, decide_eq_false_iff_not, Bool.not_eq_true', Bool.not_eq_false', Bool.not_eq_true, Bool.not_eq_false, Bool.and_eq_true, Bool.or_eq_true, Bool.and_eq_false_iff, Bool.or_eq_false_iff, Bool.not_not, ne_eq, Int.not_lt, Int.not_le, Decidable.not_not, beq_iff_eq, bne_iff_ne] at hc1
      exfalso; first | contradiction | omega
    · intro hc1
      try simp only [decide_eq_true_eq, decide_eq_false_iff_not, Bool.not_eq_true', Bool.not_eq_false', Bool.not_eq_true, Bool.not_eq_false, Bool.and_eq_true, Bool.or_eq_true, Bool.and_eq_false_iff, Bool.or_eq_false_iff, Bool.not_not, ne_eq, Int.not_lt, Int.not_le, Decidable.not_not, beq_iff_eq, bne_iff_ne] at hc1
      refine c_seq ?_
      refine c_seq ?_
      refine c_region ?_
      refine wl (wl_val hl rfl trivial (r_eql hl rfl rfl) ?_)
      clear hl a; intro a hl
      refine wl (wl_val hl rfl trivial (r_assign hl rfl) ?_)
      clear hl a; intro a hl
      refine w_nil ?_
      have hl2 := hl.add (t := 0) (hl.add (t := 2) (hl.add (t := 4) (hl.add (t := 7) (hl.add (t := 18) (hl.add (t := 27) (hl.nil) rfl) rfl) rfl) rfl) rfl) rfl; clear hl; have hl := hl2; clear hl2
      refine then_normal ?_
      refine c_cond hl rfl ?_ ?_
      · intro hc2
        try simp only [decide_eq_true_eq, decide_eq_false_iff_not, Bool.not_eq_true', Bool.not_eq_false', Bool.not_eq_true, Bool.not_eq_false, Bool.and_eq_true, Bool.or_eq_true, Bool.and_eq_false_iff, Bool.or_eq_false_iff, Bool.not_not, ne_eq, Int.not_lt, Int.not_le, Decidable.not_not, beq_iff_eq, bne_iff_ne] at hc2
        exfalso; first | contradiction | omega
      · intro hc2
        try simp only [decide_eq_true_eq, decide_eq_false_iff_not, Bool.not_eq_true', Bool.not_eq_false', Bool.not_eq_true, Bool.not_eq_false, Bool.and_eq_true, Bool.or_eq_true, Bool.and_eq_false_iff, Bool.or_eq_false_iff, Bool.not_not, ne_eq, Int.not_lt, Int.not_le, Decidable.not_not, beq_iff_eq, bne_iff_ne] at hc2
        refine c_region ?_
        refine wl (wl_val hl rfl trivial (r_eql hl rfl rfl) ?_)
        clear hl a; intro a hl
        refine wl (wl_val hl rfl trivial (r_assign hl rfl) ?_)
        clear hl a; intro a hl
        refine w_nil ?_
        have hl2 := hl.add (t := 0) (hl.add (t := 2) (hl.add (t := 4) (hl.add (t := 7) (hl.add (t := 18) (hl.add (t := 27) (hl.nil) rfl) rfl) rfl) rfl) rfl) rfl; clear hl; have hl := hl2; clear hl2
        refine then_normal ?_
        refine c_cond hl rfl ?_ ?_
        · intro hc3
          try simp only [decide_eq_true_eq, decide_eq_false_iff_not, Bool.not_eq_true', Bool.not_eq_false', Bool.not_eq_true, Bool.not_eq_false, Bool.and_eq_true, Bool.or_eq_true, Bool.and_eq_false_iff, Bool.or_eq_false_iff, Bool.not_not, ne_eq, Int.not_lt, Int.not_le, Decidable.not_not, beq_iff_eq, bne_iff_ne] at hc3
          exfalso; first | contradiction | omega
        · intro hc3
          try simp only [decide_eq_true_eq, decide_eq_false_iff_not, Bool.not_eq_true', Bool.not_eq_false', Bool.not_eq_true, Bool.not_eq_false, Bool.and_eq_true, Bool.or_eq_true, Bool.and_eq_false_iff, Bool.or_eq_false_iff, Bool.not_not, ne_eq, Int.not_lt, Int.not_le, Decidable.not_not, beq_iff_eq, bne_iff_ne] at hc3
          refine c_seq ?_
          refine c_seq ?_
          refine c_region ?_
          refine wl (wl_val hl rfl trivial (r_eql hl rfl rfl) ?_)
          clear hl a; intro a hl
          refine wl (wl_val hl rfl trivial (r_assign hl rfl) ?_)
          clear hl a; intro a hl
          refine w_nil ?_
          have hl2 := hl.add (t := 0) (hl.add (t := 2) (hl.add (t := 4) (hl.add (t := 7) (hl.add (t := 18) (hl.add (t := 39) (hl.nil) rfl) rfl) rfl) rfl) rfl) rfl; clear hl; have hl := hl2; clear hl2
          refine then_normal ?_
          refine c_cond hl rfl ?_ ?_
          · intro hc4
            try simp only [decide_eq_true_eq, decide_eq_false_iff_not, Bool.not_eq_true', Bool.not_eq_false', Bool.not_eq_true, Bool.not_eq_false, Bool.and_eq_true, Bool.or_eq_true, Bool.and_eq_false_iff, Bool.or_eq_false_iff, Bool.not_not, ne_eq, Int.not_lt, Int.not_le, Decidable.not_not, beq_iff_eq, bne_iff_ne] at hc4
            exfalso; first | contradiction | omega
          · intro hc4
            try simp only [decide_eq_true_eq, decide_eq_false_iff_not, Bool.not_eq_true', Bool.not_eq_false', Bool.not_eq_true, Bool.not_eq_false, Bool.and_eq_true, Bool.or_eq_true, Bool.and_eq_false_iff, Bool.or_eq_false_iff, Bool.not_not, ne_eq, Int.not_lt, Int.not_le, Decidable.not_not, beq_iff_eq, bne_iff_ne] at hc4
            refine c_region ?_
            refine wl (wl_val hl rfl trivial (r_eql hl rfl rfl) ?_)
            clear hl a; intro a hl
            refine wl (wl_val hl rfl trivial (r_assign hl rfl) ?_)
            clear hl a; intro a hl
            refine w_nil ?_
            have hl2 := hl.add (t := 0) (hl.add (t := 2) (hl.add (t := 4) (hl.add (t := 7) (hl.add (t := 18) (hl.add (t := 39) (hl.nil) rfl) rfl) rfl) rfl) rfl) rfl; clear hl; have hl := hl2; clear hl2
            refine then_normal ?_
            refine c_cond hl rfl ?_ ?_
            · intro hc5
              try simp only [decide_eq_true_eq, decide_eq_false_iff_not, Bool.not_eq_true', Bool.not_eq_false', Bool.not_eq_true, Bool.not_eq_false, Bool.and_eq_true, Bool.or_eq_true, Bool.and_eq_false_iff, Bool.or_eq_false_iff, Bool.not_not, ne_eq, Int.not_lt, Int.not_le, Decidable.not_not, beq_iff_eq, bne_iff_ne] at hc5
              exfalso; first | contradiction | omega
            · intro hc5
              try simp only [decide_eq_true_eq, decide_eq_false_iff_not, Bool.not_eq_true', Bool.not_eq_false', Bool.not_eq_true, Bool.not_eq_false, Bool.and_eq_true, Bool.or_eq_true, Bool.and_eq_false_iff, Bool.or_eq_false_iff, Bool.not_not, ne_eq, Int.not_lt, Int.not_le, Decidable.not_not, beq_iff_eq, bne_iff_ne] at hc5
              refine c_seq ?_
              refine c_region ?_
              refine wl (wl_val hl rfl trivial (r_eql hl rfl rfl) ?_)
              clear hl a; intro a hl
              refine wl (wl_val hl rfl trivial (r_assign hl rfl) ?_)
              clear hl a; intro a hl
              refine w_nil ?_
              have hl2 := hl.add (t := 0) (hl.add (t := 2) (hl.add (t := 4) (hl.add (t := 7) (hl.add (t := 18) (hl.add (t := 50) (hl.nil) rfl) rfl) rfl) rfl) rfl) rfl; clear hl; have hl := hl2; clear hl2
              refine then_normal ?_
              refine c_cond hl rfl ?_ ?_
              · intro hc6
                try simp only [decide_eq_true_eq, decide_eq_false_iff_not, Bool.not_eq_true', Bool.not_eq_false', Bool.not_eq_true, Bool.not_eq_false, Bool.and_eq_true, Bool.or_eq_true, Bool.and_eq_false_iff, Bool.or_eq_false_iff, Bool.not_not, ne_eq, Int.not_lt, Int.not_le, Decidable.not_not, beq_iff_eq, bne_iff_ne] at hc6
                exfalso; first | contradiction | omega
              · intro hc6
                try simp only [decide_eq_true_eq, decide_eq_false_iff_not, Bool.not_eq_true', Bool.not_eq_false', Bool.not_eq_true, Bool.not_eq_false, Bool.and_eq_true, Bool.or_eq_true, Bool.and_eq_false_iff, Bool.or_eq_false_iff, Bool.not_not, ne_eq, Int.not_lt, Int.not_le, Decidable.not_not, beq_iff_eq, bne_iff_ne] at hc6
                refine c_seq ?_
                refine c_region ?_
                refine wl (wl_val hl rfl trivial (r_eql hl rfl rfl) ?_)
                clear hl a; intro a hl
                refine wl (wl_val hl rfl trivial (r_assign hl rfl) ?_)
                clear hl a; intro a hl
                refine w_nil ?_
                have hl2 := hl.add (t := 0) (hl.add (t := 2) (hl.add (t := 4) (hl.add (t := 7) (hl.add (t := 18) (hl.add (t := 62) (hl.nil) rfl) rfl) rfl) rfl) rfl) rfl; clear hl; have hl := hl2; clear hl2
                refine then_normal ?_
                refine c_cond hl rfl ?_ ?_
                · intro hc7
                  try simp only [decide_eq_true_eq, decide_eq_false_iff_not, Bool.not_eq_true', Bool.not_eq_false', Bool.not_eq_true, Bool.not_eq_false, Bool.and_eq_true, Bool.or_eq_true, Bool.and_eq_false_iff, Bool.or_eq_false_iff, Bool.not_not, ne_eq, Int.not_lt, Int.not_le, Decidable.not_not, beq_iff_eq, bne_iff_ne] at hc7
                  exfalso; first | contradiction | omega
                · intro hc7
                  try simp only [decide_eq_true_eq, decide_eq_false_iff_not, Bool.not_eq_true', Bool.not_eq_false', Bool.not_eq_true, Bool.not_eq_false, Bool.and_eq_true, Bool.or_eq_true, Bool.and_eq_false_iff, Bool.or_eq_false_iff, Bool.not_not, ne_eq, Int.not_lt, Int.not_le, Decidable.not_not, beq_iff_eq, bne_iff_ne] at hc7
                  refine c_seq ?_
                  refine c_region ?_
                  refine wl (wl_val hl rfl trivial (r_eql hl rfl rfl) ?_)
                  clear hl a; intro a hl
                  refine wl (wl_val hl rfl trivial (r_assign hl rfl) ?_)
                  clear hl a; intro a hl
                  refine w_nil ?_
                  have hl2 := hl.add (t := 0) (hl.add (t := 2) (hl.add (t := 4) (hl.add (t := 7) (hl.add (t := 18) (hl.add (t := 68) (hl.nil) rfl) rfl) rfl) rfl) rfl) rfl; clear hl; have hl := hl2; clear hl2
                  refine then_normal ?_
                  refine c_cond hl rfl ?_ ?_
                  · intro hc8
                    try simp only [decide_eq_true_eq, decide_eq_false_iff_not, Bool.not_eq_true', Bool.not_eq_false', Bool.not_eq_true, Bool.not_eq_false, Bool.and_eq_true, Bool.or_eq_true, Bool.and_eq_false_iff, Bool.or_eq_false_iff, Bool.not_not, ne_eq, Int.not_lt, Int.not_le, Decidable.not_not, beq_iff_eq, bne_iff_ne] at hc8
                    exfalso; first | contradiction | omega
                  · intro hc8
                    try simp only [decide_eq_true_eq, decide_eq_false_iff_not, Bool.not_eq_true', Bool.not_eq_false', Bool.not_eq_true, Bool.not_eq_false, Bool.and_eq_true, Bool.or_eq_true, Bool.and_eq_false_iff, Bool.or_eq_false_iff, Bool.not_not, ne_eq, Int.not_lt, Int.not_le, Decidable.not_not, beq_iff_eq, bne_iff_ne] at hc8
                    refine c_seq ?_
                    refine c_region ?_
                    refine wl (wl_val hl rfl trivial (r_eql hl rfl rfl) ?_)
                    clear hl a; intro a hl
                    refine wl (wl_val hl rfl trivial (r_assign hl rfl) ?_)
                    clear hl a; intro a hl
                    refine w_nil ?_
                    have hl2 := hl.add (t := 0) (hl.add (t := 2) (hl.add (t := 4) (hl.add (t := 7) (hl.add (t := 18) (hl.add (t := 90) (hl.nil) rfl) rfl) rfl) rfl) rfl) rfl; clear hl; have hl := hl2; clear hl2
                    refine then_normal ?_
                    refine c_cond hl rfl ?_ ?_
                    · intro hc10
                      try simp only [decide_eq_true_eq, decide_eq_false_iff_not, Bool.not_eq_true', Bool.not_eq_false', Bool.not_eq_true, Bool.not_eq_false, Bool.and_eq_true, Bool.or_eq_true, Bool.and_eq_false_iff, Bool.or_eq_false_iff, Bool.not_not, ne_eq, Int.not_lt, Int.not_le, Decidable.not_not, beq_iff_eq, bne_iff_ne] at hc10
                      exfalso; first | contradiction | omega
                    · intro hc10
                      try simp only [decide_eq_true_eq, decide_eq_false_iff_not, Bool.not_eq_true', Bool.not_eq_false', Bool.not_eq_true, Bool.not_eq_false, Bool.and_eq_true, Bool.or_eq_true, Bool.and_eq_false_iff, Bool.or_eq_false_iff, Bool.not_not, ne_eq, Int.not_lt, Int.not_le, Decidable.not_not, beq_iff_eq, bne_iff_ne] at hc10
                      refine c_seq ?_
                      refine c_region ?_
                      refine wl (wl_val hl rfl trivial (r_eql hl rfl rfl) ?_)
                      clear hl a; intro a hl
                      refine wl (wl_val hl rfl trivial (r_assign hl rfl) ?_)
                      clear hl a; intro a hl
                      refine w_nil ?_
                      have hl2 := hl.add (t := 0) (hl.add (t := 2) (hl.add (t := 4) (hl.add (t := 7) (hl.add (t := 18) (hl.add (t := 114) (hl.nil) rfl) rfl) rfl) rfl) rfl) rfl; clear hl; have hl := hl2; clear hl2
                      refine then_normal ?_
                      refine c_cond hl rfl ?_ ?_
                      · intro hc12
                        try simp only [decide_eq_true_eq, decide_eq_false_iff_not, Bool.not_eq_true', Bool.not_eq_false', Bool.not_eq_true, Bool.not_eq_false, Bool.and_eq_true, Bool.or_eq_true, Bool.and_eq_false_iff, Bool.or_eq_false_iff, Bool.not_not, ne_eq, Int.not_lt, Int.not_le, Decidable.not_not, beq_iff_eq, bne_iff_ne] at hc12
                        exfalso; first | contradiction | omega
                      · intro hc12
                        try simp only [decide_eq_true_eq, decide_eq_false_iff_not, Bool.not_eq_true', Bool.not_eq_false', Bool.not_eq_true, Bool.not_eq_false, Bool.and_eq_true, Bool.or_eq_true, Bool.and_eq_false_iff, Bool.or_eq_false_iff, Bool.not_not, ne_eq, Int.not_lt, Int.not_le, Decidable.not_not, beq_iff_eq, bne_iff_ne] at hc12
                        refine c_seq ?_
                        refine c_region ?_
                        refine wl (wl_val hl rfl trivial (r_eql hl rfl rfl) ?_)
                        clear hl a; intro a hl
                        refine wl (wl_val hl rfl trivial (r_assign hl rfl) ?_)
                        clear hl a; intro a hl
                        refine w_nil ?_
                        have hl2 := hl.add (t := 0) (hl.add (t := 2) (hl.add (t := 4) (hl.add (t := 7) (hl.add (t := 18) (hl.add (t := 130) (hl.nil) rfl) rfl) rfl) rfl) rfl) rfl; clear hl; have hl := hl2; clear hl2
                        refine then_normal ?_
                        refine c_cond hl rfl ?_ ?_
                        · intro hc14
                          try simp only [decide_eq_true_eq, decide_eq_false_iff_not, Bool.not_eq_true', Bool.not_eq_false', Bool.not_eq_true, Bool.not_eq_false, Bool.and_eq_true, Bool.or_eq_true, Bool.and_eq_false_iff, Bool.or_eq_false_iff, Bool.not_not, ne_eq, Int.not_lt, Int.not_le, Decidable.not_not, beq_iff_eq, bne_iff_ne] at hc14
                          exfalso; first | contradiction | omega
                        · intro hc14
                          try simp only [decide_eq_true_eq, decide_eq_false_iff_not, Bool.not_eq_true', Bool.not_eq_false', Bool.not_eq_true, Bool.not_eq_false, Bool.and_eq_true, Bool.or_eq_true, Bool.and_eq_false_iff, Bool.or_eq_false_iff, Bool.not_not, ne_eq, Int.not_lt, Int.not_le, Decidable.not_not, beq_iff_eq, bne_iff_ne] at hc14
                          refine c_seq ?_
                          refine c_region ?_
                          refine wl (wl_val hl rfl trivial (r_eql hl rfl rfl) ?_)
                          clear hl a; intro a hl
                          refine wl (wl_val hl rfl trivial (r_assign hl rfl) ?_)
                          clear hl a; intro a hl
                          refine w_nil ?_
                          have hl2 := hl.add (t := 0) (hl.add (t := 2) (hl.add (t := 4) (hl.add (t := 18) (hl.add (t := 152) (hl.nil) rfl) rfl) rfl) rfl) rfl; clear hl; have hl := hl2; clear hl2
                          refine then_normal ?_
                          refine c_cond hl rfl ?_ ?_
                          · intro hc16
                            try simp only [decide_eq_true_eq, decide_eq_false_iff_not, Bool.not_eq_true', Bool.not_eq_false', Bool.not_eq_true, Bool.not_eq_false, Bool.and_eq_true, Bool.or_eq_true, Bool.and_eq_false_iff, Bool.or_eq_false_iff, Bool.not_not, ne_eq, Int.not_lt, Int.not_le, Decidable.not_not, beq_iff_eq, bne_iff_ne] at hc16
                            exfalso; first | contradiction | omega
                          · intro hc16
                            try simp only [decide_eq_true_eq, decide_eq_false_iff_not, Bool.not_eq_true', Bool.not_eq_false', Bool.not_eq_true, Bool.not_eq_false, Bool.and_eq_true, Bool.or_eq_true, Bool.and_eq_false_iff, Bool.or_eq_false_iff, Bool.not_not, ne_eq, Int.not_lt, Int.not_le, Decidable.not_not, beq_iff_eq, bne_iff_ne] at hc16
                            refine c_seq ?_
                            refine c_region ?_
                            refine wl (wl_val hl rfl trivial (r_eql hl rfl rfl) ?_)
                            clear hl a; intro a hl
                            refine wl (wl_val hl rfl trivial (r_assign hl rfl) ?_)
                            clear hl a; intro a hl
                            refine w_nil ?_
                            have hl2 := hl.add (t := 0) (hl.add (t := 2) (hl.add (t := 4) (hl.add (t := 18) (hl.add (t := 157) (hl.nil) rfl) rfl) rfl) rfl) rfl; clear hl; have hl := hl2; clear hl2
                            refine then_normal ?_
                            refine c_cond hl rfl ?_ ?_
                            · intro hc17
                              try simp only [decide_eq_true_eq, decide_eq_false_iff_not, Bool.not_eq_true', Bool.not_eq_false', Bool.not_eq_true, Bool.not_eq_false, Bool.and_eq_true, Bool.or_eq_true, Bool.and_eq_false_iff, Bool.or_eq_false_iff, Bool.not_not, ne_eq, Int.not_lt, Int.not_le, Decidable.not_not, beq_iff_eq, bne_iff_ne] at hc17
                              exfalso; first | contradiction | omega
                            · intro hc17
                              try simp only [decide_eq_true_eq, decide_eq_false_iff_not, Bool.not_eq_true', Bool.not_eq_false', Bool.not_eq_true, Bool.not_eq_false, Bool.and_eq_true, Bool.or_eq_true, Bool.and_eq_false_iff, Bool.or_eq_false_iff, Bool.not_not, ne_eq, Int.not_lt, Int.not_le, Decidable.not_not, beq_iff_eq, bne_iff_ne] at hc17
                              refine c_seq ?_
                              refine c_region ?_
                              refine wl (wl_val hl rfl trivial (r_eql hl rfl rfl) ?_)
                              clear hl a; intro a hl
                              refine wl (wl_val hl rfl trivial (r_assign hl rfl) ?_)
                              clear hl a; intro a hl
                              refine w_nil ?_
                              have hl2 := hl.add (t := 0) (hl.add (t := 2) (hl.add (t := 4) (hl.add (t := 18) (hl.add (t := 170) (hl.nil) rfl) rfl) rfl) rfl) rfl; clear hl; have hl := hl2; clear hl2
                              refine then_normal ?_
                              refine c_cond hl rfl ?_ ?_
                              · intro hc19
                                try simp only [decide_eq_true_eq, decide_eq_false_iff_not, Bool.not_eq_true', Bool.not_eq_false', Bool.not_eq_true, Bool.not_eq_false, Bool.and_eq_true, Bool.or_eq_true, Bool.and_eq_false_iff, Bool.or_eq_false_iff, Bool.not_not, ne_eq, Int.not_lt, Int.not_le, Decidable.not_not, beq_iff_eq, bne_iff_ne] at hc19
                                exfalso; first | contradiction | omega
                              · intro hc19
                                try simp only [decide_eq_true_eq, decide_eq_false_iff_not, Bool.not_eq_true', Bool.not_eq_false', Bool.not_eq_true, Bool.not_eq_false, Bool.and_eq_true, Bool.or_eq_true, Bool.and_eq_false_iff, Bool.or_eq_false_iff, Bool.not_not, ne_eq, Int.not_lt, Int.not_le, Decidable.not_not, beq_iff_eq, bne_iff_ne] at hc19
                                refine c_seq ?_
                                refine c_region ?_
                                refine wl (wl_val hl rfl trivial (r_eql hl rfl rfl) ?_)
                                clear hl a; intro a hl
                                refine wl (wl_val hl rfl trivial (r_assign hl rfl) ?_)
                                clear hl a; intro a hl
                                refine w_nil ?_
                                have hl2 := hl.add (t := 0) (hl.add (t := 2) (hl.add (t := 4) (hl.add (t := 18) (hl.add (t := 185) (hl.nil) rfl) rfl) rfl) rfl) rfl; clear hl; have hl := hl2; clear hl2
                                refine then_normal ?_
                                refine c_cond hl rfl ?_ ?_
                                · intro hc20
                                  try simp only [decide_eq_true_eq, decide_eq_false_iff_not, Bool.not_eq_true', Bool.not_eq_false', Bool.not_eq_true, Bool.not_eq_false, Bool.and_eq_true, Bool.or_eq_true, Bool.and_eq_false_iff, Bool.or_eq_false_iff, Bool.not_not, ne_eq, Int.not_lt, Int.not_le, Decidable.not_not, beq_iff_eq, bne_iff_ne] at hc20
                                  refine c_seq ?_
                                  refine c_draw [(k4, C [.int .u8 o.k, .int .i64 o.A, .int .i64 o.B, .slice p o.tx.length cap, .int .u8 o.m.k, .int .u8 o.m.d, .int .u32 o.m.e, .int .u32 o.m.b, .bool o.m.y, .int .u32 o.m.r, .int .u32 o.m.s, .string o.m.t, .int .u8 o.v.k, .int .u8 o.v.a, .int .u8 o.v.b, .int .u8 o.v.w, .int .u8 o.v.da, .int .u8 o.v.dl] 45)] [9] mixed hh ?_
                                  clear hh w; intro w hh
                                  have hM : Mem [(k4, C [.int .u8 o.k, .int .i64 o.A, .int .i64 o.B, .slice p o.tx.length cap, .int .u8 o.m.k, .int .u8 o.m.d, .int .u32 o.m.e, .int .u32 o.m.b, .bool o.m.y, .int .u32 o.m.r, .int .u32 o.m.s, .string o.m.t, .int .u8 o.v.k, .int .u8 o.v.a, .int .u8 o.v.b, .int .u8 o.v.w, .int .u8 o.v.da, .int .u8 o.v.dl] 45)] w := (memK hh (by repeat (first | exact keeps_nil | apply keeps_cons (by repeat (first | exact find_head | apply find_tail | apply find_skip)) (by first  | rfl) | exact keeps_self | exact keeps_left | apply keeps_app | apply keeps_mv | apply keeps_skip)))
                                  refine d_take (i := 0) hl rfl (by kernel_rfl) (by kernel_rfl) (by kernel_rfl) (by kernel_rfl) (by kernel_rfl) rfl trivial (fun _ _ _ h => h) hM (fun w hC => r_move hl rfl) rfl ?_
                                  clear hl a; intro a hl
                                  refine d_take (i := 1) hl rfl (by kernel_rfl) (by kernel_rfl) (by kernel_rfl) (by kernel_rfl) (by kernel_rfl) rfl trivial (fun _ _ _ h => h) hM (fun w hC => r_nilCheck hl rfl) rfl ?_
                                  clear hl a; intro a hl
                                  refine d_take (i := 2) hl rfl (by kernel_rfl) (by kernel_rfl) (by kernel_rfl) (by kernel_rfl) (by kernel_rfl) rfl trivial (fun _ _ _ h => h) hM (fun w hC => r_field hl rfl fld55_0) rfl ?_
                                  clear hl a; intro a hl
                                  refine d_take (i := 4) hl rfl (by kernel_rfl) (by kernel_rfl) (by kernel_rfl) (by kernel_rfl) (by kernel_rfl) rfl trivial (fun _ _ _ h => h) hM (fun w hC => r_field hl rfl fld45_1) rfl ?_
                                  clear hl a; intro a hl
                                  refine d_take (i := 5) hl rfl (by kernel_rfl) (by kernel_rfl) (by kernel_rfl) (by kernel_rfl) (by kernel_rfl) rfl trivial (fun _ _ _ h => h) hM (fun w hC => r_loadC hl rfl one3 hC (by repeat (first | exact find_head | apply find_tail | apply find_skip)) (by first | exact hct | exact hcr | exact hch | exact hcl | rfl)) rfl ?_
                                  clear hl a; intro a hl
                                  refine d_take (i := 6) hl rfl (by kernel_rfl) (by kernel_rfl) (by kernel_rfl) (by kernel_rfl) (by kernel_rfl) rfl trivial (fun _ _ _ h => h) hM (fun w hC => r_field hl rfl fld45_2) rfl ?_
                                  clear hl a; intro a hl
                                  refine d_take (i := 7) hl rfl (by kernel_rfl) (by kernel_rfl) (by kernel_rfl) (by kernel_rfl) (by kernel_rfl) rfl trivial (fun _ _ _ h => h) hM (fun w hC => r_loadC hl rfl one3 hC (by repeat (first | exact find_head | apply find_tail | apply find_skip)) (by first | exact hct | exact hcr | exact hch | exact hcl | rfl)) rfl ?_
                                  clear hl a; intro a hl
                                  refine d_two (i := 3) (j := 8) (by kernel_rfl) rfl rfl ?_ ?_
                                  ·
                                    try clear hM
                                    refine id (w_load hl hh rfl trivial one48 rfl (by repeat (first | exact find_head | apply find_tail | apply find_skip)) (by first | exact hct | exact hcr | exact hch | exact hcl | rfl) ?_)
                                    clear hl a; intro a hl
                                    have hM : Mem [(k4, C [.int .u8 o.k, .int .i64 o.A, .int .i64 o.B, .slice p o.tx.length cap, .int .u8 o.m.k, .int .u8 o.m.d, .int .u32 o.m.e, .int .u32 o.m.b, .bool o.m.y, .int .u32 o.m.r, .int .u32 o.m.s, .string o.m.t, .int .u8 o.v.k, .int .u8 o.v.a, .int .u8 o.v.b, .int .u8 o.v.w, .int .u8 o.v.da, .int .u8 o.v.dl] 45)] w := (memK hh (by repeat (first | exact keeps_nil | apply keeps_cons (by repeat (first | exact find_head | apply find_tail | apply find_skip)) (by first  | rfl) | exact keeps_self | exact keeps_left | apply keeps_app | apply keeps_mv | apply keeps_skip)))
                                    refine d_step (fun _ => hM) ?_
                                    refine d_one (i := 8) (by kernel_rfl) rfl ?_
                                    try clear hM
                                    refine id (w_call hl hh rfl trivial rfl cal18 rfl (odd_spec _ (by omega)) (by repeat (first | exact keeps_nil | apply keeps_cons (by repeat (first | exact find_head | apply find_tail | apply find_skip)) (by first  | rfl) | exact keeps_self | exact keeps_left | apply keeps_app | apply keeps_mv | apply keeps_skip)) trivial ?_)
                                    clear hl hh a w; intro vc Fc a w hR hl hh
                                    obtain ⟨rfl, rfl⟩ := hR
                                    try simp only [List.cons_append, List.nil_append, List.append_assoc, List.append_nil] at hh
                                    have hM : Mem [(k4, C [.int .u8 o.k, .int .i64 o.A, .int .i64 o.B, .slice p o.tx.length cap, .int .u8 o.m.k, .int .u8 o.m.d, .int .u32 o.m.e, .int .u32 o.m.b, .bool o.m.y, .int .u32 o.m.r, .int .u32 o.m.s, .string o.m.t, .int .u8 o.v.k, .int .u8 o.v.a, .int .u8 o.v.b, .int .u8 o.v.w, .int .u8 o.v.da, .int .u8 o.v.dl] 45)] w := (memK hh (by repeat (first | exact keeps_nil | apply keeps_cons (by repeat (first | exact find_head | apply find_tail | apply find_skip)) (by first  | rfl) | exact keeps_self | exact keeps_left | apply keeps_app | apply keeps_mv | apply keeps_skip)))
                                    refine d_step (fun _ => hM) ?_
                                    refine d_one (i := 9) (by kernel_rfl) rfl ?_
                                    try clear hM
                                    refine id (w_call hl hh rfl trivial rfl cal24 rfl (arm_spec Z W.lb W.l hW.l o.A (by omega) (oddP o.B)) (by repeat (first | exact keeps_nil | apply keeps_cons (by repeat (first | exact find_head | apply find_tail | apply find_skip)) (by first  | rfl) | exact keeps_self | exact keeps_left | apply keeps_app | apply keeps_mv | apply keeps_skip)) trivial ?_)
                                    clear hl hh a w; intro vc Fc a w hR hl hh
                                    obtain ⟨rfl, rfl⟩ := hR
                                    try simp only [List.cons_append, List.nil_append, List.append_assoc, List.append_nil] at hh
                                    simp only [LdV.F, List.cons_append] at hh
                                    refine d_step (fun h => absurd h (by decide)) ?_
                                    refine d_done (by kernel_rfl) ?_
                                    try clear hM
                                    have hl2 := hl.add (t := 2) (hl.add (t := 4) (hl.nil) rfl) rfl; clear hl; have hl := hl2; clear hl2
                                    refine then_normal ?_
                                    refine c_region ?_
                                    refine wl (wl_val hl rfl trivial (r_move hl rfl) ?_)
                                    clear hl a; intro a hl
                                    refine wl (w_loadA hl hh rfl trivial agg45 rfl (by repeat (first | exact find_head | apply find_tail | apply find_skip)) (by rfl) (by rfl) ?_)
                                    clear hl a; intro a hl
                                    refine wl (w_callP hl hh rfl trivial rfl L.dfate rfl (L.fate Z x Fx o.k o.A o.B _ rfl rfl (by omega) (by omega) (by omega) hMx) (by repeat (first | exact keeps_nil | apply keeps_cons (by repeat (first | exact find_head | apply find_tail | apply find_skip)) (by first  | rfl) | exact keeps_self | exact keeps_left | apply keeps_app | apply keeps_mv | apply keeps_skip)) trivial ?_)
                                    clear hl hh a w; intro vc Fc a w hR hl hh
                                    obtain ⟨rfl, hM3⟩ := hR
                                    try simp only [List.cons_append, List.nil_append, List.append_assoc, List.append_nil] at hh
                                    generalize Fc = F3 at hh hM3
                                    try simp only [List.append_assoc, List.cons_append, List.nil_append] at hh
                                    refine w_nil ?_
                                    have hl2 := hl.nil; clear hl; have hl := hl2; clear hl2
                                    refine blk_normal ?_
                                    refine then_normal ?_
                                    refine c_seq ?_
                                    refine c_region ?_
                                    refine wl (wl_val hl rfl trivial (r_assign hl rfl) ?_)
                                    clear hl a; intro a hl
                                    refine w_nil ?_
                                    have hl2 := hl.add (t := 6) (hl.nil) rfl; clear hl; have hl := hl2; clear hl2
                                    refine then_normal ?_
                                    refine wp_ret ?_
                                    refine f_ret1 (F' := F3 ++ ((wb, C (WoV.c W) 55) :: (W.tE ++ (W.gE ++ (DsF W.ds ++ ((gb, C g.c 127) :: (g.st.E ++ (g.qE ++ ((g.rb, MD (kInt .u32) g.rl g.rn) :: (g.oE ++ ((W.lb, C (LdV.c (⟨W.l.d, W.l.dn, W.l.fl, if 0 < o.A then o.A else 0, oddP o.B⟩ : LdV)) 91) :: (W.l.d.E ++ Z)))))))))))) hl hh rfl rfl (by repeat (first | exact keeps_nil | apply keeps_cons (by repeat (first | exact find_head | apply find_tail | apply find_skip)) (by first  | rfl) | exact keeps_self | exact keeps_left | apply keeps_app | apply keeps_mv | apply keeps_skip)) ?_
                                    refine StepO.same (W' := { W with l := (⟨W.l.d, W.l.dn, W.l.fl, if 0 < o.A then o.A else 0, oddP o.B⟩ : LdV) }) (led_ok hW ⟨hW.l.d, by simp only; split <;> omega⟩) (Q.fate o.k o.A o.B hJ (.inl ⟨rfl, by omega⟩)) (hn.led rfl rfl) hM3 ?_
                                    unfold WoV.F
                                    rw [show WoV.c { W with l := (⟨W.l.d, W.l.dn, W.l.fl, if 0 < o.A then o.A else 0, oddP o.B⟩ : LdV) } = W.c from wc_same rfl rfl rfl rfl]
                                    simp only [WoV.GF, hg, GF]
                                    try rw [hled]
                                    try simp only [List.append_assoc, List.cons_append]
                                    try rfl
                                  ·
                                    try clear hM
                                    refine id (w_call hl hh rfl trivial rfl cal18 rfl (odd_spec _ (by omega)) (by repeat (first | exact keeps_nil | apply keeps_cons (by repeat (first | exact find_head | apply find_tail | apply find_skip)) (by first  | rfl) | exact keeps_self | exact keeps_left | apply keeps_app | apply keeps_mv | apply keeps_skip)) trivial ?_)
                                    clear hl hh a w; intro vc Fc a w hR hl hh
                                    obtain ⟨rfl, rfl⟩ := hR
                                    try simp only [List.cons_append, List.nil_append, List.append_assoc, List.append_nil] at hh
                                    have hM : Mem [(k4, C [.int .u8 o.k, .int .i64 o.A, .int .i64 o.B, .slice p o.tx.length cap, .int .u8 o.m.k, .int .u8 o.m.d, .int .u32 o.m.e, .int .u32 o.m.b, .bool o.m.y, .int .u32 o.m.r, .int .u32 o.m.s, .string o.m.t, .int .u8 o.v.k, .int .u8 o.v.a, .int .u8 o.v.b, .int .u8 o.v.w, .int .u8 o.v.da, .int .u8 o.v.dl] 45)] w := (memK hh (by repeat (first | exact keeps_nil | apply keeps_cons (by repeat (first | exact find_head | apply find_tail | apply find_skip)) (by first  | rfl) | exact keeps_self | exact keeps_left | apply keeps_app | apply keeps_mv | apply keeps_skip)))
                                    refine d_step (fun _ => hM) ?_
                                    refine d_one (i := 3) (by kernel_rfl) rfl ?_
                                    try clear hM
                                    refine id (w_load hl hh rfl trivial one48 rfl (by repeat (first | exact find_head | apply find_tail | apply find_skip)) (by first | exact hct | exact hcr | exact hch | exact hcl | rfl) ?_)
                                    clear hl a; intro a hl
                                    have hM : Mem [(k4, C [.int .u8 o.k, .int .i64 o.A, .int .i64 o.B, .slice p o.tx.length cap, .int .u8 o.m.k, .int .u8 o.m.d, .int .u32 o.m.e, .int .u32 o.m.b, .bool o.m.y, .int .u32 o.m.r, .int .u32 o.m.s, .string o.m.t, .int .u8 o.v.k, .int .u8 o.v.a, .int .u8 o.v.b, .int .u8 o.v.w, .int .u8 o.v.da, .int .u8 o.v.dl] 45)] w := (memK hh (by repeat (first | exact keeps_nil | apply keeps_cons (by repeat (first | exact find_head | apply find_tail | apply find_skip)) (by first  | rfl) | exact keeps_self | exact keeps_left | apply keeps_app | apply keeps_mv | apply keeps_skip)))
                                    refine d_step (fun _ => hM) ?_
                                    refine d_one (i := 9) (by kernel_rfl) rfl ?_
                                    try clear hM
                                    refine id (w_call hl hh rfl trivial rfl cal24 rfl (arm_spec Z W.lb W.l hW.l o.A (by omega) (oddP o.B)) (by repeat (first | exact keeps_nil | apply keeps_cons (by repeat (first | exact find_head | apply find_tail | apply find_skip)) (by first  | rfl) | exact keeps_self | exact keeps_left | apply keeps_app | apply keeps_mv | apply keeps_skip)) trivial ?_)
                                    clear hl hh a w; intro vc Fc a w hR hl hh
                                    obtain ⟨rfl, rfl⟩ := hR
                                    try simp only [List.cons_append, List.nil_append, List.append_assoc, List.append_nil] at hh
                                    simp only [LdV.F, List.cons_append] at hh
                                    refine d_step (fun h => absurd h (by decide)) ?_
                                    refine d_done (by kernel_rfl) ?_
                                    try clear hM
                                    have hl2 := hl.add (t := 2) (hl.add (t := 4) (hl.nil) rfl) rfl; clear hl; have hl := hl2; clear hl2
                                    refine then_normal ?_
                                    refine c_region ?_
                                    refine wl (wl_val hl rfl trivial (r_move hl rfl) ?_)
                                    clear hl a; intro a hl
                                    refine wl (w_loadA hl hh rfl trivial agg45 rfl (by repeat (first | exact find_head | apply find_tail | apply find_skip)) (by rfl) (by rfl) ?_)
                                    clear hl a; intro a hl
                                    refine wl (w_callP hl hh rfl trivial rfl L.dfate rfl (L.fate Z x Fx o.k o.A o.B _ rfl rfl (by omega) (by omega) (by omega) hMx) (by repeat (first | exact keeps_nil | apply keeps_cons (by repeat (first | exact find_head | apply find_tail | apply find_skip)) (by first  | rfl) | exact keeps_self | exact keeps_left | apply keeps_app | apply keeps_mv | apply keeps_skip)) trivial ?_)
                                    clear hl hh a w; intro vc Fc a w hR hl hh
                                    obtain ⟨rfl, hM3⟩ := hR
                                    try simp only [List.cons_append, List.nil_append, List.append_assoc, List.append_nil] at hh
                                    generalize Fc = F3 at hh hM3
                                    try simp only [List.append_assoc, List.cons_append, List.nil_append] at hh
                                    refine w_nil ?_
                                    have hl2 := hl.nil; clear hl; have hl := hl2; clear hl2
                                    refine blk_normal ?_
                                    refine then_normal ?_
                                    refine c_seq ?_
                                    refine c_region ?_
                                    refine wl (wl_val hl rfl trivial (r_assign hl rfl) ?_)
                                    clear hl a; intro a hl
                                    refine w_nil ?_
                                    have hl2 := hl.add (t := 6) (hl.nil) rfl; clear hl; have hl := hl2; clear hl2
                                    refine then_normal ?_
                                    refine wp_ret ?_
                                    refine f_ret1 (F' := F3 ++ ((wb, C (WoV.c W) 55) :: (W.tE ++ (W.gE ++ (DsF W.ds ++ ((gb, C g.c 127) :: (g.st.E ++ (g.qE ++ ((g.rb, MD (kInt .u32) g.rl g.rn) :: (g.oE ++ ((W.lb, C (LdV.c (⟨W.l.d, W.l.dn, W.l.fl, if 0 < o.A then o.A else 0, oddP o.B⟩ : LdV)) 91) :: (W.l.d.E ++ Z)))))))))))) hl hh rfl rfl (by repeat (first | exact keeps_nil | apply keeps_cons (by repeat (first | exact find_head | apply find_tail | apply find_skip)) (by first  | rfl) | exact keeps_self | exact keeps_left | apply keeps_app | apply keeps_mv | apply keeps_skip)) ?_
                                    refine StepO.same (W' := { W with l := (⟨W.l.d, W.l.dn, W.l.fl, if 0 < o.A then o.A else 0, oddP o.B⟩ : LdV) }) (led_ok hW ⟨hW.l.d, by simp only; split <;> omega⟩) (Q.fate o.k o.A o.B hJ (.inl ⟨rfl, by omega⟩)) (hn.led rfl rfl) hM3 ?_
                                    unfold WoV.F
                                    rw [show WoV.c { W with l := (⟨W.l.d, W.l.dn, W.l.fl, if 0 < o.A then o.A else 0, oddP o.B⟩ : LdV) } = W.c from wc_same rfl rfl rfl rfl]
                                    simp only [WoV.GF, hg, GF]
                                    try rw [hled]
                                    try simp only [List.append_assoc, List.cons_append]
                                    try rfl
                                · intro hc20
                                  try simp only [decide_eq_true_eq, decide_eq_false_iff_not, Bool.not_eq_true', Bool.not_eq_false', Bool.not_eq_true, Bool.not_eq_false, Bool.and_eq_true, Bool.or_eq_true, Bool.and_eq_false_iff, Bool.or_eq_false_iff, Bool.not_not, ne_eq, Int.not_lt, Int.not_le, Decidable.not_not, beq_iff_eq, bne_iff_ne] at hc20
                                  exfalso; first | contradiction | omega
  · intro hc0
    try simp only [decide_eq_true_eq, decide_eq_false_iff_not, Bool.not_eq_true', Bool.not_eq_false', Bool.not_eq_true, Bool.not_eq_false, Bool.and_eq_true, Bool.or_eq_true, Bool.and_eq_false_iff, Bool.or_eq_false_iff, Bool.not_not, ne_eq, Int.not_lt, Int.not_le, Decidable.not_not, beq_iff_eq, bne_iff_ne] at hc0
    refine wp_skip ?_
    refine then_normal ?_
    refine c_seq ?_
    refine c_seq ?_
    refine c_region ?_
    refine wl (wl_val hl rfl trivial (r_field hl rfl fld45_0) ?_)
    clear hl a; intro a hl
    refine wl (w_load hl hh rfl trivial one33 rfl (by repeat (first | exact find_head | apply find_tail | apply find_skip)) (by first | exact hct | exact hcr | exact hch | exact hcl | rfl) ?_)
    clear hl a; intro a hl
    refine w_nil ?_
    have hl2 := hl.add (t := 0) (hl.add (t := 2) (hl.add (t := 4) (hl.add (t := 7) (hl.add (t := 18) (hl.nil) rfl) rfl) rfl) rfl) rfl; clear hl; have hl := hl2; clear hl2
    refine then_normal ?_
    refine wp_block ?_
    refine c_seq ?_
    refine c_region ?_
    refine wl (wl_val hl rfl trivial (r_eql hl rfl rfl) ?_)
    clear hl a; intro a hl
    refine wl (wl_val hl rfl trivial (r_assign hl rfl) ?_)
    clear hl a; intro a hl
    refine w_nil ?_
    have hl2 := hl.add (t := 0) (hl.add (t := 2) (hl.add (t := 4) (hl.add (t := 7) (hl.add (t := 18) (hl.add (t := 19) (hl.nil) rfl) rfl) rfl) rfl) rfl) rfl; clear hl; have hl := hl2; clear hl2
    refine then_normal ?_
    refine c_cond hl rfl ?_ ?_
    · intro hc1
      try simp only [decide_eq_true_eq, decide_eq_false_iff_not, Bool.not_eq_true', Bool.not_eq_false', Bool.not_eq_true, Bool.not_eq_false, Bool.and_eq_true, Bool.or_eq_true, Bool.and_eq_false_iff, Bool.or_eq_false_iff, Bool.not_not, ne_eq, Int.not_lt, Int.not_le, Decidable.not_not, beq_iff_eq, bne_iff_ne] at hc1
      exfalso; first | contradiction | omega
    · intro hc1
      try simp only [decide_eq_true_eq, decide_eq_false_iff_not, Bool.not_eq_true', Bool.not_eq_false', Bool.not_eq_true, Bool.not_eq_false, Bool.and_eq_true, Bool.or_eq_true, Bool.and_eq_false_iff, Bool.or_eq_false_iff, Bool.not_not, ne_eq, Int.not_lt, Int.not_le, Decidable.not_not, beq_iff_eq, bne_iff_ne] at hc1
      refine c_seq ?_
      refine c_seq ?_
      refine c_region ?_
      refine wl (wl_val hl rfl trivial (r_eql hl rfl rfl) ?_)
      clear hl a; intro a hl
      refine wl (wl_val hl rfl trivial (r_assign hl rfl) ?_)
      clear hl a; intro a hl
      refine w_nil ?_
      have hl2 := hl.add (t := 0) (hl.add (t := 2) (hl.add (t := 4) (hl.add (t := 7) (hl.add (t := 18) (hl.add (t := 27) (hl.nil) rfl) rfl) rfl) rfl) rfl) rfl; clear hl; have hl := hl2; clear hl2
      refine then_normal ?_
      refine c_cond hl rfl ?_ ?_
      · intro hc2
        try simp only [decide_eq_true_eq, decide_eq_false_iff_not, Bool.not_eq_true', Bool.not_eq_false', Bool.not_eq_true, Bool.not_eq_false, Bool.and_eq_true, Bool.or_eq_true, Bool.and_eq_false_iff, Bool.or_eq_false_iff, Bool.not_not, ne_eq, Int.not_lt, Int.not_le, Decidable.not_not, beq_iff_eq, bne_iff_ne] at hc2
        exfalso; first | contradiction | omega
      · intro hc2
        try simp only [decide_eq_true_eq, decide_eq_false_iff_not, Bool.not_eq_true', Bool.not_eq_false', Bool.not_eq_true, Bool.not_eq_false, Bool.and_eq_true, Bool.or_eq_true, Bool.and_eq_false_iff, Bool.or_eq_false_iff, Bool.not_not, ne_eq, Int.not_lt, Int.not_le, Decidable.not_not, beq_iff_eq, bne_iff_ne] at hc2
        refine c_region ?_
        refine wl (wl_val hl rfl trivial (r_eql hl rfl rfl) ?_)
        clear hl a; intro a hl
        refine wl (wl_val hl rfl trivial (r_assign hl rfl) ?_)
        clear hl a; intro a hl
        refine w_nil ?_
        have hl2 := hl.add (t := 0) (hl.add (t := 2) (hl.add (t := 4) (hl.add (t := 7) (hl.add (t := 18) (hl.add (t := 27) (hl.nil) rfl) rfl) rfl) rfl) rfl) rfl; clear hl; have hl := hl2; clear hl2
        refine then_normal ?_
        refine c_cond hl rfl ?_ ?_
        · intro hc3
          try simp only [decide_eq_true_eq, decide_eq_false_iff_not, Bool.not_eq_true', Bool.not_eq_false', Bool.not_eq_true, Bool.not_eq_false, Bool.and_eq_true, Bool.or_eq_true, Bool.and_eq_false_iff, Bool.or_eq_false_iff, Bool.not_not, ne_eq, Int.not_lt, Int.not_le, Decidable.not_not, beq_iff_eq, bne_iff_ne] at hc3
          exfalso; first | contradiction | omega
        · intro hc3
          try simp only [decide_eq_true_eq, decide_eq_false_iff_not, Bool.not_eq_true', Bool.not_eq_false', Bool.not_eq_true, Bool.not_eq_false, Bool.and_eq_true, Bool.or_eq_true, Bool.and_eq_false_iff, Bool.or_eq_false_iff, Bool.not_not, ne_eq, Int.not_lt, Int.not_le, Decidable.not_not, beq_iff_eq, bne_iff_ne] at hc3
          refine c_seq ?_
          refine c_seq ?_
          refine c_region ?_
          refine wl (wl_val hl rfl trivial (r_eql hl rfl rfl) ?_)
          clear hl a; intro a hl
          refine wl (wl_val hl rfl trivial (r_assign hl rfl) ?_)
          clear hl a; intro a hl
          refine w_nil ?_
          have hl2 := hl.add (t := 0) (hl.add (t := 2) (hl.add (t := 4) (hl.add (t := 7) (hl.add (t := 18) (hl.add (t := 39) (hl.nil) rfl) rfl) rfl) rfl) rfl) rfl; clear hl; have hl := hl2; clear hl2
          refine then_normal ?_
          refine c_cond hl rfl ?_ ?_
          · intro hc4
            try simp only [decide_eq_true_eq, decide_eq_false_iff_not, Bool.not_eq_true', Bool.not_eq_false', Bool.not_eq_true, Bool.not_eq_false, Bool.and_eq_true, Bool.or_eq_true, Bool.and_eq_false_iff, Bool.or_eq_false_iff, Bool.not_not, ne_eq, Int.not_lt, Int.not_le, Decidable.not_not, beq_iff_eq, bne_iff_ne] at hc4
            exfalso; first | contradiction | omega
          · intro hc4
            try simp only [decide_eq_true_eq, decide_eq_false_iff_not, Bool.not_eq_true', Bool.not_eq_false', Bool.not_eq_true, Bool.not_eq_false, Bool.and_eq_true, Bool.or_eq_true, Bool.and_eq_false_iff, Bool.or_eq_false_iff, Bool.not_not, ne_eq, Int.not_lt, Int.not_le, Decidable.not_not, beq_iff_eq, bne_iff_ne] at hc4
            refine c_region ?_
            refine wl (wl_val hl rfl trivial (r_eql hl rfl rfl) ?_)
            clear hl a; intro a hl
            refine wl (wl_val hl rfl trivial (r_assign hl rfl) ?_)
            clear hl a; intro a hl
            refine w_nil ?_
            have hl2 := hl.add (t := 0) (hl.add (t := 2) (hl.add (t := 4) (hl.add (t := 7) (hl.add (t := 18) (hl.add (t := 39) (hl.nil) rfl) rfl) rfl) rfl) rfl) rfl; clear hl; have hl := hl2; clear hl2
            refine then_normal ?_
            refine c_cond hl rfl ?_ ?_
            · intro hc5
              try simp only [decide_eq_true_eq, decide_eq_false_iff_not, Bool.not_eq_true', Bool.not_eq_false', Bool.not_eq_true, Bool.not_eq_false, Bool.and_eq_true, Bool.or_eq_true, Bool.and_eq_false_iff, Bool.or_eq_false_iff, Bool.not_not, ne_eq, Int.not_lt, Int.not_le, Decidable.not_not, beq_iff_eq, bne_iff_ne] at hc5
              exfalso; first | contradiction | omega
            · intro hc5
              try simp only [decide_eq_true_eq, decide_eq_false_iff_not, Bool.not_eq_true', Bool.not_eq_false', Bool.not_eq_true, Bool.not_eq_false, Bool.and_eq_true, Bool.or_eq_true, Bool.and_eq_false_iff, Bool.or_eq_false_iff, Bool.not_not, ne_eq, Int.not_lt, Int.not_le, Decidable.not_not, beq_iff_eq, bne_iff_ne] at hc5
              refine c_seq ?_
              refine c_region ?_
              refine wl (wl_val hl rfl trivial (r_eql hl rfl rfl) ?_)
              clear hl a; intro a hl
              refine wl (wl_val hl rfl trivial (r_assign hl rfl) ?_)
              clear hl a; intro a hl
              refine w_nil ?_
              have hl2 := hl.add (t := 0) (hl.add (t := 2) (hl.add (t := 4) (hl.add (t := 7) (hl.add (t := 18) (hl.add (t := 50) (hl.nil) rfl) rfl) rfl) rfl) rfl) rfl; clear hl; have hl := hl2; clear hl2
              refine then_normal ?_
              refine c_cond hl rfl ?_ ?_
              · intro hc6
                try simp only [decide_eq_true_eq, decide_eq_false_iff_not, Bool.not_eq_true', Bool.not_eq_false', Bool.not_eq_true, Bool.not_eq_false, Bool.and_eq_true, Bool.or_eq_true, Bool.and_eq_false_iff, Bool.or_eq_false_iff, Bool.not_not, ne_eq, Int.not_lt, Int.not_le, Decidable.not_not, beq_iff_eq, bne_iff_ne] at hc6
                exfalso; first | contradiction | omega
              · intro hc6
                try simp only [decide_eq_true_eq, decide_eq_false_iff_not, Bool.not_eq_true', Bool.not_eq_false', Bool.not_eq_true, Bool.not_eq_false, Bool.and_eq_true, Bool.or_eq_true, Bool.and_eq_false_iff, Bool.or_eq_false_iff, Bool.not_not, ne_eq, Int.not_lt, Int.not_le, Decidable.not_not, beq_iff_eq, bne_iff_ne] at hc6
                refine c_seq ?_
                refine c_region ?_
                refine wl (wl_val hl rfl trivial (r_eql hl rfl rfl) ?_)
                clear hl a; intro a hl
                refine wl (wl_val hl rfl trivial (r_assign hl rfl) ?_)
                clear hl a; intro a hl
                refine w_nil ?_
                have hl2 := hl.add (t := 0) (hl.add (t := 2) (hl.add (t := 4) (hl.add (t := 7) (hl.add (t := 18) (hl.add (t := 62) (hl.nil) rfl) rfl) rfl) rfl) rfl) rfl; clear hl; have hl := hl2; clear hl2
                refine then_normal ?_
                refine c_cond hl rfl ?_ ?_
                · intro hc7
                  try simp only [decide_eq_true_eq, decide_eq_false_iff_not, Bool.not_eq_true', Bool.not_eq_false', Bool.not_eq_true, Bool.not_eq_false, Bool.and_eq_true, Bool.or_eq_true, Bool.and_eq_false_iff, Bool.or_eq_false_iff, Bool.not_not, ne_eq, Int.not_lt, Int.not_le, Decidable.not_not, beq_iff_eq, bne_iff_ne] at hc7
                  exfalso; first | contradiction | omega
                · intro hc7
                  try simp only [decide_eq_true_eq, decide_eq_false_iff_not, Bool.not_eq_true', Bool.not_eq_false', Bool.not_eq_true, Bool.not_eq_false, Bool.and_eq_true, Bool.or_eq_true, Bool.and_eq_false_iff, Bool.or_eq_false_iff, Bool.not_not, ne_eq, Int.not_lt, Int.not_le, Decidable.not_not, beq_iff_eq, bne_iff_ne] at hc7
                  refine c_seq ?_
                  refine c_region ?_
                  refine wl (wl_val hl rfl trivial (r_eql hl rfl rfl) ?_)
                  clear hl a; intro a hl
                  refine wl (wl_val hl rfl trivial (r_assign hl rfl) ?_)
                  clear hl a; intro a hl
                  refine w_nil ?_
                  have hl2 := hl.add (t := 0) (hl.add (t := 2) (hl.add (t := 4) (hl.add (t := 7) (hl.add (t := 18) (hl.add (t := 68) (hl.nil) rfl) rfl) rfl) rfl) rfl) rfl; clear hl; have hl := hl2; clear hl2
                  refine then_normal ?_
                  refine c_cond hl rfl ?_ ?_
                  · intro hc8
                    try simp only [decide_eq_true_eq, decide_eq_false_iff_not, Bool.not_eq_true', Bool.not_eq_false', Bool.not_eq_true, Bool.not_eq_false, Bool.and_eq_true, Bool.or_eq_true, Bool.and_eq_false_iff, Bool.or_eq_false_iff, Bool.not_not, ne_eq, Int.not_lt, Int.not_le, Decidable.not_not, beq_iff_eq, bne_iff_ne] at hc8
                    exfalso; first | contradiction | omega
                  · intro hc8
                    try simp only [decide_eq_true_eq, decide_eq_false_iff_not, Bool.not_eq_true', Bool.not_eq_false', Bool.not_eq_true, Bool.not_eq_false, Bool.and_eq_true, Bool.or_eq_true, Bool.and_eq_false_iff, Bool.or_eq_false_iff, Bool.not_not, ne_eq, Int.not_lt, Int.not_le, Decidable.not_not, beq_iff_eq, bne_iff_ne] at hc8
                    refine c_seq ?_
                    refine c_region ?_
                    refine wl (wl_val hl rfl trivial (r_eql hl rfl rfl) ?_)
                    clear hl a; intro a hl
                    refine wl (wl_val hl rfl trivial (r_assign hl rfl) ?_)
                    clear hl a; intro a hl
                    refine w_nil ?_
                    have hl2 := hl.add (t := 0) (hl.add (t := 2) (hl.add (t := 4) (hl.add (t := 7) (hl.add (t := 18) (hl.add (t := 90) (hl.nil) rfl) rfl) rfl) rfl) rfl) rfl; clear hl; have hl := hl2; clear hl2
                    refine then_normal ?_
                    refine c_cond hl rfl ?_ ?_
                    · intro hc10
                      try simp only [decide_eq_true_eq, decide_eq_false_iff_not, Bool.not_eq_true', Bool.not_eq_false', Bool.not_eq_true, Bool.not_eq_false, Bool.and_eq_true, Bool.or_eq_true, Bool.and_eq_false_iff, Bool.or_eq_false_iff, Bool.not_not, ne_eq, Int.not_lt, Int.not_le, Decidable.not_not, beq_iff_eq, bne_iff_ne] at hc10
                      exfalso; first | contradiction | omega
                    · intro hc10
                      try simp only [decide_eq_true_eq, decide_eq_false_iff_not, Bool.not_eq_true', Bool.not_eq_false', Bool.not_eq_true, Bool.not_eq_false, Bool.and_eq_true, Bool.or_eq_true, Bool.and_eq_false_iff, Bool.or_eq_false_iff, Bool.not_not, ne_eq, Int.not_lt, Int.not_le, Decidable.not_not, beq_iff_eq, bne_iff_ne] at hc10
                      refine c_seq ?_
                      refine c_region ?_
                      refine wl (wl_val hl rfl trivial (r_eql hl rfl rfl) ?_)
                      clear hl a; intro a hl
                      refine wl (wl_val hl rfl trivial (r_assign hl rfl) ?_)
                      clear hl a; intro a hl
                      refine w_nil ?_
                      have hl2 := hl.add (t := 0) (hl.add (t := 2) (hl.add (t := 4) (hl.add (t := 7) (hl.add (t := 18) (hl.add (t := 114) (hl.nil) rfl) rfl) rfl) rfl) rfl) rfl; clear hl; have hl := hl2; clear hl2
                      refine then_normal ?_
                      refine c_cond hl rfl ?_ ?_
                      · intro hc12
                        try simp only [decide_eq_true_eq, decide_eq_false_iff_not, Bool.not_eq_true', Bool.not_eq_false', Bool.not_eq_true, Bool.not_eq_false, Bool.and_eq_true, Bool.or_eq_true, Bool.and_eq_false_iff, Bool.or_eq_false_iff, Bool.not_not, ne_eq, Int.not_lt, Int.not_le, Decidable.not_not, beq_iff_eq, bne_iff_ne] at hc12
                        exfalso; first | contradiction | omega
                      · intro hc12
                        try simp only [decide_eq_true_eq, decide_eq_false_iff_not, Bool.not_eq_true', Bool.not_eq_false', Bool.not_eq_true, Bool.not_eq_false, Bool.and_eq_true, Bool.or_eq_true, Bool.and_eq_false_iff, Bool.or_eq_false_iff, Bool.not_not, ne_eq, Int.not_lt, Int.not_le, Decidable.not_not, beq_iff_eq, bne_iff_ne] at hc12
                        refine c_seq ?_
                        refine c_region ?_
                        refine wl (wl_val hl rfl trivial (r_eql hl rfl rfl) ?_)
                        clear hl a; intro a hl
                        refine wl (wl_val hl rfl trivial (r_assign hl rfl) ?_)
                        clear hl a; intro a hl
                        refine w_nil ?_
                        have hl2 := hl.add (t := 0) (hl.add (t := 2) (hl.add (t := 4) (hl.add (t := 7) (hl.add (t := 18) (hl.add (t := 130) (hl.nil) rfl) rfl) rfl) rfl) rfl) rfl; clear hl; have hl := hl2; clear hl2
                        refine then_normal ?_
                        refine c_cond hl rfl ?_ ?_
                        · intro hc14
                          try simp only [decide_eq_true_eq, decide_eq_false_iff_not, Bool.not_eq_true', Bool.not_eq_false', Bool.not_eq_true, Bool.not_eq_false, Bool.and_eq_true, Bool.or_eq_true, Bool.and_eq_false_iff, Bool.or_eq_false_iff, Bool.not_not, ne_eq, Int.not_lt, Int.not_le, Decidable.not_not, beq_iff_eq, bne_iff_ne] at hc14
                          exfalso; first | contradiction | omega
                        · intro hc14
                          try simp only [decide_eq_true_eq, decide_eq_false_iff_not, Bool.not_eq_true', Bool.not_eq_false', Bool.not_eq_true, Bool.not_eq_false, Bool.and_eq_true, Bool.or_eq_true, Bool.and_eq_false_iff, Bool.or_eq_false_iff, Bool.not_not, ne_eq, Int.not_lt, Int.not_le, Decidable.not_not, beq_iff_eq, bne_iff_ne] at hc14
                          refine c_seq ?_
                          refine c_region ?_
                          refine wl (wl_val hl rfl trivial (r_eql hl rfl rfl) ?_)
                          clear hl a; intro a hl
                          refine wl (wl_val hl rfl trivial (r_assign hl rfl) ?_)
                          clear hl a; intro a hl
                          refine w_nil ?_
                          have hl2 := hl.add (t := 0) (hl.add (t := 2) (hl.add (t := 4) (hl.add (t := 18) (hl.add (t := 152) (hl.nil) rfl) rfl) rfl) rfl) rfl; clear hl; have hl := hl2; clear hl2
                          refine then_normal ?_
                          refine c_cond hl rfl ?_ ?_
                          · intro hc16
                            try simp only [decide_eq_true_eq, decide_eq_false_iff_not, Bool.not_eq_true', Bool.not_eq_false', Bool.not_eq_true, Bool.not_eq_false, Bool.and_eq_true, Bool.or_eq_true, Bool.and_eq_false_iff, Bool.or_eq_false_iff, Bool.not_not, ne_eq, Int.not_lt, Int.not_le, Decidable.not_not, beq_iff_eq, bne_iff_ne] at hc16
                            exfalso; first | contradiction | omega
                          · intro hc16
                            try simp only [decide_eq_true_eq, decide_eq_false_iff_not, Bool.not_eq_true', Bool.not_eq_false', Bool.not_eq_true, Bool.not_eq_false, Bool.and_eq_true, Bool.or_eq_true, Bool.and_eq_false_iff, Bool.or_eq_false_iff, Bool.not_not, ne_eq, Int.not_lt, Int.not_le, Decidable.not_not, beq_iff_eq, bne_iff_ne] at hc16
                            refine c_seq ?_
                            refine c_region ?_
                            refine wl (wl_val hl rfl trivial (r_eql hl rfl rfl) ?_)
                            clear hl a; intro a hl
                            refine wl (wl_val hl rfl trivial (r_assign hl rfl) ?_)
                            clear hl a; intro a hl
                            refine w_nil ?_
                            have hl2 := hl.add (t := 0) (hl.add (t := 2) (hl.add (t := 4) (hl.add (t := 18) (hl.add (t := 157) (hl.nil) rfl) rfl) rfl) rfl) rfl; clear hl; have hl := hl2; clear hl2
                            refine then_normal ?_
                            refine c_cond hl rfl ?_ ?_
                            · intro hc17
                              try simp only [decide_eq_true_eq, decide_eq_false_iff_not, Bool.not_eq_true', Bool.not_eq_false', Bool.not_eq_true, Bool.not_eq_false, Bool.and_eq_true, Bool.or_eq_true, Bool.and_eq_false_iff, Bool.or_eq_false_iff, Bool.not_not, ne_eq, Int.not_lt, Int.not_le, Decidable.not_not, beq_iff_eq, bne_iff_ne] at hc17
                              exfalso; first | contradiction | omega
                            · intro hc17
                              try simp only [decide_eq_true_eq, decide_eq_false_iff_not, Bool.not_eq_true', Bool.not_eq_false', Bool.not_eq_true, Bool.not_eq_false, Bool.and_eq_true, Bool.or_eq_true, Bool.and_eq_false_iff, Bool.or_eq_false_iff, Bool.not_not, ne_eq, Int.not_lt, Int.not_le, Decidable.not_not, beq_iff_eq, bne_iff_ne] at hc17
                              refine c_seq ?_
                              refine c_region ?_
                              refine wl (wl_val hl rfl trivial (r_eql hl rfl rfl) ?_)
                              clear hl a; intro a hl
                              refine wl (wl_val hl rfl trivial (r_assign hl rfl) ?_)
                              clear hl a; intro a hl
                              refine w_nil ?_
                              have hl2 := hl.add (t := 0) (hl.add (t := 2) (hl.add (t := 4) (hl.add (t := 18) (hl.add (t := 170) (hl.nil) rfl) rfl) rfl) rfl) rfl; clear hl; have hl := hl2; clear hl2
                              refine then_normal ?_
                              refine c_cond hl rfl ?_ ?_
                              · intro hc19
                                try simp only [decide_eq_true_eq, decide_eq_false_iff_not, Bool.not_eq_true', Bool.not_eq_false', Bool.not_eq_true, Bool.not_eq_false, Bool.and_eq_true, Bool.or_eq_true, Bool.and_eq_false_iff, Bool.or_eq_false_iff, Bool.not_not, ne_eq, Int.not_lt, Int.not_le, Decidable.not_not, beq_iff_eq, bne_iff_ne] at hc19
                                exfalso; first | contradiction | omega
                              · intro hc19
                                try simp only [decide_eq_true_eq, decide_eq_false_iff_not, Bool.not_eq_true', Bool.not_eq_false', Bool.not_eq_true, Bool.not_eq_false, Bool.and_eq_true, Bool.or_eq_true, Bool.and_eq_false_iff, Bool.or_eq_false_iff, Bool.not_not, ne_eq, Int.not_lt, Int.not_le, Decidable.not_not, beq_iff_eq, bne_iff_ne] at hc19
                                refine c_seq ?_
                                refine c_region ?_
                                refine wl (wl_val hl rfl trivial (r_eql hl rfl rfl) ?_)
                                clear hl a; intro a hl
                                refine wl (wl_val hl rfl trivial (r_assign hl rfl) ?_)
                                clear hl a; intro a hl
                                refine w_nil ?_
                                have hl2 := hl.add (t := 0) (hl.add (t := 2) (hl.add (t := 4) (hl.add (t := 18) (hl.add (t := 185) (hl.nil) rfl) rfl) rfl) rfl) rfl; clear hl; have hl := hl2; clear hl2
                                refine then_normal ?_
                                refine c_cond hl rfl ?_ ?_
                                · intro hc20
                                  try simp only [decide_eq_true_eq, decide_eq_false_iff_not, Bool.not_eq_true', Bool.not_eq_false', Bool.not_eq_true, Bool.not_eq_false, Bool.and_eq_true, Bool.or_eq_true, Bool.and_eq_false_iff, Bool.or_eq_false_iff, Bool.not_not, ne_eq, Int.not_lt, Int.not_le, Decidable.not_not, beq_iff_eq, bne_iff_ne] at hc20
                                  refine c_seq ?_
                                  refine c_draw [(k4, C [.int .u8 o.k, .int .i64 o.A, .int .i64 o.B, .slice p o.tx.length cap, .int .u8 o.m.k, .int .u8 o.m.d, .int .u32 o.m.e, .int .u32 o.m.b, .bool o.m.y, .int .u32 o.m.r, .int .u32 o.m.s, .string o.m.t, .int .u8 o.v.k, .int .u8 o.v.a, .int .u8 o.v.b, .int .u8 o.v.w, .int .u8 o.v.da, .int .u8 o.v.dl] 45)] [9] mixed hh ?_
                                  clear hh w; intro w hh
                                  have hM : Mem [(k4, C [.int .u8 o.k, .int .i64 o.A, .int .i64 o.B, .slice p o.tx.length cap, .int .u8 o.m.k, .int .u8 o.m.d, .int .u32 o.m.e, .int .u32 o.m.b, .bool o.m.y, .int .u32 o.m.r, .int .u32 o.m.s, .string o.m.t, .int .u8 o.v.k, .int .u8 o.v.a, .int .u8 o.v.b, .int .u8 o.v.w, .int .u8 o.v.da, .int .u8 o.v.dl] 45)] w := (memK hh (by repeat (first | exact keeps_nil | apply keeps_cons (by repeat (first | exact find_head | apply find_tail | apply find_skip)) (by first  | rfl) | exact keeps_self | exact keeps_left | apply keeps_app | apply keeps_mv | apply keeps_skip)))
                                  refine d_take (i := 0) hl rfl (by kernel_rfl) (by kernel_rfl) (by kernel_rfl) (by kernel_rfl) (by kernel_rfl) rfl trivial (fun _ _ _ h => h) hM (fun w hC => r_move hl rfl) rfl ?_
                                  clear hl a; intro a hl
                                  refine d_take (i := 1) hl rfl (by kernel_rfl) (by kernel_rfl) (by kernel_rfl) (by kernel_rfl) (by kernel_rfl) rfl trivial (fun _ _ _ h => h) hM (fun w hC => r_nilCheck hl rfl) rfl ?_
                                  clear hl a; intro a hl
                                  refine d_take (i := 2) hl rfl (by kernel_rfl) (by kernel_rfl) (by kernel_rfl) (by kernel_rfl) (by kernel_rfl) rfl trivial (fun _ _ _ h => h) hM (fun w hC => r_field hl rfl fld55_0) rfl ?_
                                  clear hl a; intro a hl
                                  refine d_take (i := 4) hl rfl (by kernel_rfl) (by kernel_rfl) (by kernel_rfl) (by kernel_rfl) (by kernel_rfl) rfl trivial (fun _ _ _ h => h) hM (fun w hC => r_field hl rfl fld45_1) rfl ?_
                                  clear hl a; intro a hl
                                  refine d_take (i := 5) hl rfl (by kernel_rfl) (by kernel_rfl) (by kernel_rfl) (by kernel_rfl) (by kernel_rfl) rfl trivial (fun _ _ _ h => h) hM (fun w hC => r_loadC hl rfl one3 hC (by repeat (first | exact find_head | apply find_tail | apply find_skip)) (by first | exact hct | exact hcr | exact hch | exact hcl | rfl)) rfl ?_
                                  clear hl a; intro a hl
                                  refine d_take (i := 6) hl rfl (by kernel_rfl) (by kernel_rfl) (by kernel_rfl) (by kernel_rfl) (by kernel_rfl) rfl trivial (fun _ _ _ h => h) hM (fun w hC => r_field hl rfl fld45_2) rfl ?_
                                  clear hl a; intro a hl
                                  refine d_take (i := 7) hl rfl (by kernel_rfl) (by kernel_rfl) (by kernel_rfl) (by kernel_rfl) (by kernel_rfl) rfl trivial (fun _ _ _ h => h) hM (fun w hC => r_loadC hl rfl one3 hC (by repeat (first | exact find_head | apply find_tail | apply find_skip)) (by first | exact hct | exact hcr | exact hch | exact hcl | rfl)) rfl ?_
                                  clear hl a; intro a hl
                                  refine d_two (i := 3) (j := 8) (by kernel_rfl) rfl rfl ?_ ?_
                                  ·
                                    try clear hM
                                    refine id (w_load hl hh rfl trivial one48 rfl (by repeat (first | exact find_head | apply find_tail | apply find_skip)) (by first | exact hct | exact hcr | exact hch | exact hcl | rfl) ?_)
                                    clear hl a; intro a hl
                                    have hM : Mem [(k4, C [.int .u8 o.k, .int .i64 o.A, .int .i64 o.B, .slice p o.tx.length cap, .int .u8 o.m.k, .int .u8 o.m.d, .int .u32 o.m.e, .int .u32 o.m.b, .bool o.m.y, .int .u32 o.m.r, .int .u32 o.m.s, .string o.m.t, .int .u8 o.v.k, .int .u8 o.v.a, .int .u8 o.v.b, .int .u8 o.v.w, .int .u8 o.v.da, .int .u8 o.v.dl] 45)] w := (memK hh (by repeat (first | exact keeps_nil | apply keeps_cons (by repeat (first | exact find_head | apply find_tail | apply find_skip)) (by first  | rfl) | exact keeps_self | exact keeps_left | apply keeps_app | apply keeps_mv | apply keeps_skip)))
                                    refine d_step (fun _ => hM) ?_
                                    refine d_one (i := 8) (by kernel_rfl) rfl ?_
                                    try clear hM
                                    refine id (w_call hl hh rfl trivial rfl cal18 rfl (odd_spec _ (by omega)) (by repeat (first | exact keeps_nil | apply keeps_cons (by repeat (first | exact find_head | apply find_tail | apply find_skip)) (by first  | rfl) | exact keeps_self | exact keeps_left | apply keeps_app | apply keeps_mv | apply keeps_skip)) trivial ?_)
                                    clear hl hh a w; intro vc Fc a w hR hl hh
                                    obtain ⟨rfl, rfl⟩ := hR
                                    try simp only [List.cons_append, List.nil_append, List.append_assoc, List.append_nil] at hh
                                    have hM : Mem [(k4, C [.int .u8 o.k, .int .i64 o.A, .int .i64 o.B, .slice p o.tx.length cap, .int .u8 o.m.k, .int .u8 o.m.d, .int .u32 o.m.e, .int .u32 o.m.b, .bool o.m.y, .int .u32 o.m.r, .int .u32 o.m.s, .string o.m.t, .int .u8 o.v.k, .int .u8 o.v.a, .int .u8 o.v.b, .int .u8 o.v.w, .int .u8 o.v.da, .int .u8 o.v.dl] 45)] w := (memK hh (by repeat (first | exact keeps_nil | apply keeps_cons (by repeat (first | exact find_head | apply find_tail | apply find_skip)) (by first  | rfl) | exact keeps_self | exact keeps_left | apply keeps_app | apply keeps_mv | apply keeps_skip)))
                                    refine d_step (fun _ => hM) ?_
                                    refine d_one (i := 9) (by kernel_rfl) rfl ?_
                                    try clear hM
                                    refine id (w_call hl hh rfl trivial rfl cal24 rfl (arm_spec Z W.lb W.l hW.l o.A (by omega) (oddP o.B)) (by repeat (first | exact keeps_nil | apply keeps_cons (by repeat (first | exact find_head | apply find_tail | apply find_skip)) (by first  | rfl) | exact keeps_self | exact keeps_left | apply keeps_app | apply keeps_mv | apply keeps_skip)) trivial ?_)
                                    clear hl hh a w; intro vc Fc a w hR hl hh
                                    obtain ⟨rfl, rfl⟩ := hR
                                    try simp only [List.cons_append, List.nil_append, List.append_assoc, List.append_nil] at hh
                                    simp only [LdV.F, List.cons_append] at hh
                                    refine d_step (fun h => absurd h (by decide)) ?_
                                    refine d_done (by kernel_rfl) ?_
                                    try clear hM
                                    have hl2 := hl.add (t := 2) (hl.add (t := 4) (hl.nil) rfl) rfl; clear hl; have hl := hl2; clear hl2
                                    refine then_normal ?_
                                    refine c_region ?_
                                    refine wl (wl_val hl rfl trivial (r_move hl rfl) ?_)
                                    clear hl a; intro a hl
                                    refine wl (w_loadA hl hh rfl trivial agg45 rfl (by repeat (first | exact find_head | apply find_tail | apply find_skip)) (by rfl) (by rfl) ?_)
                                    clear hl a; intro a hl
                                    refine wl (w_callP hl hh rfl trivial rfl L.dfate rfl (L.fate Z x Fx o.k o.A o.B _ rfl rfl (by omega) (by omega) (by omega) hMx) (by repeat (first | exact keeps_nil | apply keeps_cons (by repeat (first | exact find_head | apply find_tail | apply find_skip)) (by first  | rfl) | exact keeps_self | exact keeps_left | apply keeps_app | apply keeps_mv | apply keeps_skip)) trivial ?_)
                                    clear hl hh a w; intro vc Fc a w hR hl hh
                                    obtain ⟨rfl, hM3⟩ := hR
                                    try simp only [List.cons_append, List.nil_append, List.append_assoc, List.append_nil] at hh
                                    generalize Fc = F3 at hh hM3
                                    try simp only [List.append_assoc, List.cons_append, List.nil_append] at hh
                                    refine w_nil ?_
                                    have hl2 := hl.nil; clear hl; have hl := hl2; clear hl2
                                    refine blk_normal ?_
                                    refine then_normal ?_
                                    refine c_seq ?_
                                    refine c_region ?_
                                    refine wl (wl_val hl rfl trivial (r_assign hl rfl) ?_)
                                    clear hl a; intro a hl
                                    refine w_nil ?_
                                    have hl2 := hl.add (t := 6) (hl.nil) rfl; clear hl; have hl := hl2; clear hl2
                                    refine then_normal ?_
                                    refine wp_ret ?_
                                    refine f_ret1 (F' := F3 ++ ((wb, C (WoV.c W) 55) :: (W.tE ++ (W.gE ++ (DsF W.ds ++ ((gb, C g.c 127) :: (g.st.E ++ (g.qE ++ ((g.rb, MD (kInt .u32) g.rl g.rn) :: (g.oE ++ ((W.lb, C (LdV.c (⟨W.l.d, W.l.dn, W.l.fl, if 0 < o.A then o.A else 0, oddP o.B⟩ : LdV)) 91) :: (W.l.d.E ++ Z)))))))))))) hl hh rfl rfl (by repeat (first | exact keeps_nil | apply keeps_cons (by repeat (first | exact find_head | apply find_tail | apply find_skip)) (by first  | rfl) | exact keeps_self | exact keeps_left | apply keeps_app | apply keeps_mv | apply keeps_skip)) ?_
                                    refine StepO.same (W' := { W with l := (⟨W.l.d, W.l.dn, W.l.fl, if 0 < o.A then o.A else 0, oddP o.B⟩ : LdV) }) (led_ok hW ⟨hW.l.d, by simp only; split <;> omega⟩) (Q.fate o.k o.A o.B hJ (.inl ⟨rfl, by omega⟩)) (hn.led rfl rfl) hM3 ?_
                                    unfold WoV.F
                                    rw [show WoV.c { W with l := (⟨W.l.d, W.l.dn, W.l.fl, if 0 < o.A then o.A else 0, oddP o.B⟩ : LdV) } = W.c from wc_same rfl rfl rfl rfl]
                                    simp only [WoV.GF, hg, GF]
                                    try rw [hled]
                                    try simp only [List.append_assoc, List.cons_append]
                                    try rfl
                                  ·
                                    try clear hM
                                    refine id (w_call hl hh rfl trivial rfl cal18 rfl (odd_spec _ (by omega)) (by repeat (first | exact keeps_nil | apply keeps_cons (by repeat (first | exact find_head | apply find_tail | apply find_skip)) (by first  | rfl) | exact keeps_self | exact keeps_left | apply keeps_app | apply keeps_mv | apply keeps_skip)) trivial ?_)
                                    clear hl hh a w; intro vc Fc a w hR hl hh
                                    obtain ⟨rfl, rfl⟩ := hR
                                    try simp only [List.cons_append, List.nil_append, List.append_assoc, List.append_nil] at hh
                                    have hM : Mem [(k4, C [.int .u8 o.k, .int .i64 o.A, .int .i64 o.B, .slice p o.tx.length cap, .int .u8 o.m.k, .int .u8 o.m.d, .int .u32 o.m.e, .int .u32 o.m.b, .bool o.m.y, .int .u32 o.m.r, .int .u32 o.m.s, .string o.m.t, .int .u8 o.v.k, .int .u8 o.v.a, .int .u8 o.v.b, .int .u8 o.v.w, .int .u8 o.v.da, .int .u8 o.v.dl] 45)] w := (memK hh (by repeat (first | exact keeps_nil | apply keeps_cons (by repeat (first | exact find_head | apply find_tail | apply find_skip)) (by first  | rfl) | exact keeps_self | exact keeps_left | apply keeps_app | apply keeps_mv | apply keeps_skip)))
                                    refine d_step (fun _ => hM) ?_
                                    refine d_one (i := 3) (by kernel_rfl) rfl ?_
                                    try clear hM
                                    refine id (w_load hl hh rfl trivial one48 rfl (by repeat (first | exact find_head | apply find_tail | apply find_skip)) (by first | exact hct | exact hcr | exact hch | exact hcl | rfl) ?_)
                                    clear hl a; intro a hl
                                    have hM : Mem [(k4, C [.int .u8 o.k, .int .i64 o.A, .int .i64 o.B, .slice p o.tx.length cap, .int .u8 o.m.k, .int .u8 o.m.d, .int .u32 o.m.e, .int .u32 o.m.b, .bool o.m.y, .int .u32 o.m.r, .int .u32 o.m.s, .string o.m.t, .int .u8 o.v.k, .int .u8 o.v.a, .int .u8 o.v.b, .int .u8 o.v.w, .int .u8 o.v.da, .int .u8 o.v.dl] 45)] w := (memK hh (by repeat (first | exact keeps_nil | apply keeps_cons (by repeat (first | exact find_head | apply find_tail | apply find_skip)) (by first  | rfl) | exact keeps_self | exact keeps_left | apply keeps_app | apply keeps_mv | apply keeps_skip)))
                                    refine d_step (fun _ => hM) ?_
                                    refine d_one (i := 9) (by kernel_rfl) rfl ?_
                                    try clear hM
                                    refine id (w_call hl hh rfl trivial rfl cal24 rfl (arm_spec Z W.lb W.l hW.l o.A (by omega) (oddP o.B)) (by repeat (first | exact keeps_nil | apply keeps_cons (by repeat (first | exact find_head | apply find_tail | apply find_skip)) (by first  | rfl) | exact keeps_self | exact keeps_left | apply keeps_app | apply keeps_mv | apply keeps_skip)) trivial ?_)
                                    clear hl hh a w; intro vc Fc a w hR hl hh
                                    obtain ⟨rfl, rfl⟩ := hR
                                    try simp only [List.cons_append, List.nil_append, List.append_assoc, List.append_nil] at hh
                                    simp only [LdV.F, List.cons_append] at hh
                                    refine d_step (fun h => absurd h (by decide)) ?_
                                    refine d_done (by kernel_rfl) ?_
                                    try clear hM
                                    have hl2 := hl.add (t := 2) (hl.add (t := 4) (hl.nil) rfl) rfl; clear hl; have hl := hl2; clear hl2
                                    refine then_normal ?_
                                    refine c_region ?_
                                    refine wl (wl_val hl rfl trivial (r_move hl rfl) ?_)
                                    clear hl a; intro a hl
                                    refine wl (w_loadA hl hh rfl trivial agg45 rfl (by repeat (first | exact find_head | apply find_tail | apply find_skip)) (by rfl) (by rfl) ?_)
                                    clear hl a; intro a hl
                                    refine wl (w_callP hl hh rfl trivial rfl L.dfate rfl (L.fate Z x Fx o.k o.A o.B _ rfl rfl (by omega) (by omega) (by omega) hMx) (by repeat (first | exact keeps_nil | apply keeps_cons (by repeat (first | exact find_head | apply find_tail | apply find_skip)) (by first  | rfl) | exact keeps_self | exact keeps_left | apply keeps_app | apply keeps_mv | apply keeps_skip)) trivial ?_)
                                    clear hl hh a w; intro vc Fc a w hR hl hh
                                    obtain ⟨rfl, hM3⟩ := hR
                                    try simp only [List.cons_append, List.nil_append, List.append_assoc, List.append_nil] at hh
                                    generalize Fc = F3 at hh hM3
                                    try simp only [List.append_assoc, List.cons_append, List.nil_append] at hh
                                    refine w_nil ?_
                                    have hl2 := hl.nil; clear hl; have hl := hl2; clear hl2
                                    refine blk_normal ?_
                                    refine then_normal ?_
                                    refine c_seq ?_
                                    refine c_region ?_
                                    refine wl (wl_val hl rfl trivial (r_assign hl rfl) ?_)
                                    clear hl a; intro a hl
                                    refine w_nil ?_
                                    have hl2 := hl.add (t := 6) (hl.nil) rfl; clear hl; have hl := hl2; clear hl2
                                    refine then_normal ?_
                                    refine wp_ret ?_
                                    refine f_ret1 (F' := F3 ++ ((wb, C (WoV.c W) 55) :: (W.tE ++ (W.gE ++ (DsF W.ds ++ ((gb, C g.c 127) :: (g.st.E ++ (g.qE ++ ((g.rb, MD (kInt .u32) g.rl g.rn) :: (g.oE ++ ((W.lb, C (LdV.c (⟨W.l.d, W.l.dn, W.l.fl, if 0 < o.A then o.A else 0, oddP o.B⟩ : LdV)) 91) :: (W.l.d.E ++ Z)))))))))))) hl hh rfl rfl (by repeat (first | exact keeps_nil | apply keeps_cons (by repeat (first | exact find_head | apply find_tail | apply find_skip)) (by first  | rfl) | exact keeps_self | exact keeps_left | apply keeps_app | apply keeps_mv | apply keeps_skip)) ?_
                                    refine StepO.same (W' := { W with l := (⟨W.l.d, W.l.dn, W.l.fl, if 0 < o.A then o.A else 0, oddP o.B⟩ : LdV) }) (led_ok hW ⟨hW.l.d, by simp only; split <;> omega⟩) (Q.fate o.k o.A o.B hJ (.inl ⟨rfl, by omega⟩)) (hn.led rfl rfl) hM3 ?_
                                    unfold WoV.F
                                    rw [show WoV.c { W with l := (⟨W.l.d, W.l.dn, W.l.fl, if 0 < o.A then o.A else 0, oddP o.B⟩ : LdV) } = W.c from wc_same rfl rfl rfl rfl]
                                    simp only [WoV.GF, hg, GF]
                                    try rw [hled]
                                    try simp only [List.append_assoc, List.cons_append]
                                    try rfl
                                · intro hc20
                                  try simp only [decide_eq_true_eq, decide_eq_false_iff_not, Bool.not_eq_true', Bool.not_eq_false', Bool.not_eq_true, Bool.not_eq_false, Bool.and_eq_true, Bool.or_eq_true, Bool.and_eq_false_iff, Bool.or_eq_false_iff, Bool.not_not, ne_eq, Int.not_lt, Int.not_le, Decidable.not_not, beq_iff_eq, bne_iff_ne] at hc20
                                  exfalso; first | contradiction | omega

set_option maxHeartbeats 8000000 in
theorem step_fullu {lb wb : Nat} (L : LawM lb wb) (Q : LawJ L) (Z : List (Nat × Obj)) (W : WoV) (hW : W.ok Z) (n : Nat) (hn9 : n + 200 < 1000000000) (x : L.X) (Fx : List (Nat × Obj)) (hMx : L.M Z x Fx) (hJ : Q.J (W.pl [] []) x) (hn : WI n (W.pl [] [])) (o : OpP) (p : Option Addr) (cap : Nat) (ho : OpOk Z o p cap) (hk : o.k = 16) (gb : Nat) (g : GtV) (hg : W.g = some (gb, g)) : Sp Tryz.prog 12 #[.pointer (some ⟨wb, 0, none⟩), .agg ⟨opC o p cap⟩, Lw L.T lb] (Fx ++ WoV.F wb W Z) (fun v F' => StepO Q Z n v F') := by
  refine f_enter (args := [.pointer (some ⟨wb, 0, none⟩), .agg ⟨[.int .u8 o.k, .int .i64 o.A, .int .i64 o.B, .slice p o.tx.length cap, .int .u8 o.m.k, .int .u8 o.m.d, .int .u32 o.m.e, .int .u32 o.m.b, .bool o.m.y, .int .u32 o.m.r, .int .u32 o.m.s, .string o.m.t, .int .u8 o.v.k, .int .u8 o.v.a, .int .u8 o.v.b, .int .u8 o.v.w, .int .u8 o.v.da, .int .u8 o.v.dl]⟩, .iface L.T (.pointer (some ⟨lb, 0, none⟩))]) Tryz.func12 rfl Tryz.ntmps12 rfl ?_
  intro w0 w a hpre hl hh
  generalize hDD : List.map Prod.fst (Fx ++ WoV.F wb W Z) = D at hh ⊢
  simp only [WoV.F] at hh
  have hct := wc_td W hW.dl
  have hcr := wc_tg W hW.dl
  have hch := wc_hn W hW.dl
  have hcl := wc_led W
  have hwl := wc_len W hW.dl
  have ho1 := ho.k
  have ho2 := ho.A
  have ho3 := ho.B
  have htl := hW.tl
  have hrl := hW.rl
  have hled : g.led = W.lb := (hW.g _ hg).2.1
  simp only [WoV.GF, hg, GF] at hh
  rw [hled] at hh
  try simp only [List.append_assoc, List.cons_append] at hh
  simp only [slotsFrom, Nat.reduceAdd] at hl
  refine c_seq ?_
  refine c_region ?_
  refine wl (w_box hl hh rfl trivial rfl rfl ?_)
  clear hl hh a w; intro k4 a w hl hh
  refine wl (wl_val hl rfl trivial (r_assign hl rfl) ?_)
  clear hl a; intro a hl
  refine w_nil ?_
  have hl2 := hl.add (t := 0) (hl.add (t := 2) (hl.add (t := 4) (hl.nil) rfl) rfl) rfl; clear hl; have hl := hl2; clear hl2
  refine then_normal ?_
  refine c_seq ?_
  refine c_region ?_
  refine wl (wl_val hl rfl trivial (r_move hl rfl) ?_)
  clear hl a; intro a hl
  refine wl (wl_val hl rfl trivial (r_nilCheck hl rfl) ?_)
  clear hl a; intro a hl
  refine wl (wl_val hl rfl trivial (r_field hl rfl fld55_3) ?_)
  clear hl a; intro a hl
  refine wl (wl_val hl rfl trivial (r_assign hl rfl) ?_)
  clear hl a; intro a hl
  refine w_nil ?_
  have hl2 := hl.add (t := 0) (hl.add (t := 2) (hl.add (t := 4) (hl.add (t := 7) (hl.nil) rfl) rfl) rfl) rfl; clear hl; have hl := hl2; clear hl2
  refine then_normal ?_
  refine c_seq ?_
  refine c_seq ?_
  refine c_region ?_
  refine wl (wl_val hl rfl trivial (r_field hl rfl fld45_2) ?_)
  clear hl a; intro a hl
  refine wl (w_load hl hh rfl trivial one3 rfl (by repeat (first | exact find_head | apply find_tail | apply find_skip)) (by first | exact hct | exact hcr | exact hch | exact hcl | rfl) ?_)
  clear hl a; intro a hl
  refine wl (w_call hl hh rfl trivial rfl cal18 rfl (odd_spec _ (by omega)) (by repeat (first | exact keeps_nil | apply keeps_cons (by repeat (first | exact find_head | apply find_tail | apply find_skip)) (by first  | rfl) | exact keeps_self | exact keeps_left | apply keeps_app | apply keeps_mv | apply keeps_skip)) trivial ?_)
  clear hl hh a w; intro vc Fc a w hR hl hh
  obtain ⟨rfl, rfl⟩ := hR
  try simp only [List.cons_append, List.nil_append, List.append_assoc, List.append_nil] at hh
  refine w_nil ?_
  have hl2 := hl.add (t := 0) (hl.add (t := 2) (hl.add (t := 4) (hl.add (t := 7) (hl.add (t := 13) (hl.nil) rfl) rfl) rfl) rfl) rfl; clear hl; have hl := hl2; clear hl2
  refine then_normal ?_
  refine c_cond hl rfl ?_ ?_
  · intro hc0
    try simp only [decide_eq_true_eq, decide_eq_false_iff_not, Bool.not_eq_true', Bool.not_eq_false', Bool.not_eq_true, Bool.not_eq_false, Bool.and_eq_true, Bool.or_eq_true, Bool.and_eq_false_iff, Bool.or_eq_false_iff, Bool.not_not, ne_eq, Int.not_lt, Int.not_le, Decidable.not_not, beq_iff_eq, bne_iff_ne] at hc0
    refine c_region ?_
    refine wl (wl_val hl rfl trivial (r_move hl rfl) ?_)
    clear hl a; intro a hl
    refine wl (wl_val hl rfl trivial (r_nilCheck hl rfl) ?_)
    clear hl a; intro a hl
    refine wl (wl_val hl rfl trivial (r_field hl rfl fld55_4) ?_)
    clear hl a; intro a hl
    refine wl (wl_val hl rfl trivial (r_assign hl rfl) ?_)
    clear hl a; intro a hl
    refine w_nil ?_
    have hl2 := hl.add (t := 0) (hl.add (t := 2) (hl.add (t := 4) (hl.add (t := 7) (hl.nil) rfl) rfl) rfl) rfl; clear hl; have hl := hl2; clear hl2
    refine then_normal ?_
    refine c_seq ?_
    refine c_seq ?_
    refine c_region ?_
    refine wl (wl_val hl rfl trivial (r_field hl rfl fld45_0) ?_)
    clear hl a; intro a hl
    refine wl (w_load hl hh rfl trivial one33 rfl (by repeat (first | exact find_head | apply find_tail | apply find_skip)) (by first | exact hct | exact hcr | exact hch | exact hcl | rfl) ?_)
    clear hl a; intro a hl
    refine w_nil ?_
    have hl2 := hl.add (t := 0) (hl.add (t := 2) (hl.add (t := 4) (hl.add (t := 7) (hl.add (t := 18) (hl.nil) rfl) rfl) rfl) rfl) rfl; clear hl; have hl := hl2; clear hl2
    refine then_normal ?_
    refine wp_block ?_
    refine c_seq ?_
    refine c_region ?_
    refine wl (wl_val hl rfl trivial (r_eql hl rfl rfl) ?_)
    clear hl a; intro a hl
    refine wl (wl_val hl rfl trivial (r_assign hl rfl) ?_)
    clear hl a; intro a hl
    refine w_nil ?_
    have hl2 := hl.add (t := 0) (hl.add (t := 2) (hl.add (t := 4) (hl.add (t := 7) (hl.add (t := 18) (hl.add (t := 19) (hl.nil) rfl) rfl) rfl) rfl) rfl) rfl; clear hl; have hl := hl2; clear hl2
    refine then_normal ?_
    refine c_cond hl rfl ?_ ?_
    · intro hc1
      try simp only [decide_eq_true_eq, decide_eq_false_iff_not, Bool.not_eq_true', Bool.not_eq_false', Bool.not_eq_true, Bool.not_eq_false, Bool.and_eq_true, Bool.or_eq_true, Bool.and_eq_false_iff, Bool.or_eq_false_iff, Bool.not_not, ne_eq, Int.not_lt, Int.not_le, Decidable.not_not, beq_iff_eq, bne_iff_ne] at hc1
      exfalso; first | contradiction | omega
    · intro hc1
      try simp only [decide_eq_true_eq, decide_eq_false_iff_not, Bool.not_eq_true', Bool.not_eq_false', Bool.not_eq_true, Bool.not_eq_false, Bool.and_eq_true, Bool.or_eq_true, Bool.and_eq_false_iff, Bool.or_eq_false_iff, Bool.not_not, ne_eq, Int.not_lt, Int.not_le, Decidable.not_not, beq_iff_eq, bne_iff_ne] at hc1
      refine c_seq ?_
      refine c_seq ?_
      refine c_region ?_
      refine wl (wl_val hl rfl trivial (r_eql hl rfl rfl) ?_)
      clear hl a; intro a hl
      refine wl (wl_val hl rfl trivial (r_assign hl rfl) ?_)
      clear hl a; intro a hl
      refine w_nil ?_
      have hl2 := hl.add (t := 0) (hl.add (t := 2) (hl.add (t := 4) (hl.add (t := 7) (hl.add (t := 18) (hl.add (t := 27) (hl.nil) rfl) rfl) rfl) rfl) rfl) rfl; clear hl; have hl := hl2; clear hl2
      refine then_normal ?_
      refine c_cond hl rfl ?_ ?_
      · intro hc2
        try simp only [decide_eq_true_eq, decide_eq_false_iff_not, Bool.not_eq_true', Bool.not_eq_false', Bool.not_eq_true, Bool.not_eq_false, Bool.and_eq_true, Bool.or_eq_true, Bool.and_eq_false_iff, Bool.or_eq_false_iff, Bool.not_not, ne_eq, Int.not_lt, Int.not_le, Decidable.not_not, beq_iff_eq, bne_iff_ne] at hc2
        exfalso; first | contradiction | omega
      · intro hc2
        try simp only [decide_eq_true_eq, decide_eq_false_iff_not, Bool.not_eq_true', Bool.not_eq_false', Bool.not_eq_true, Bool.not_eq_false, Bool.and_eq_true, Bool.or_eq_true, Bool.and_eq_false_iff, Bool.or_eq_false_iff, Bool.not_not, ne_eq, Int.not_lt, Int.not_le, Decidable.not_not, beq_iff_eq, bne_iff_ne] at hc2
        refine c_region ?_
        refine wl (wl_val hl rfl trivial (r_eql hl rfl rfl) ?_)
        clear hl a; intro a hl
        refine wl (wl_val hl rfl trivial (r_assign hl rfl) ?_)
        clear hl a; intro a hl
        refine w_nil ?_
        have hl2 := hl.add (t := 0) (hl.add (t := 2) (hl.add (t := 4) (hl.add (t := 7) (hl.add (t := 18) (hl.add (t := 27) (hl.nil) rfl) rfl) rfl) rfl) rfl) rfl; clear hl; have hl := hl2; clear hl2
        refine then_normal ?_
        refine c_cond hl rfl ?_ ?_
        · intro hc3
          try simp only [decide_eq_true_eq, decide_eq_false_iff_not, Bool.not_eq_true', Bool.not_eq_false', Bool.not_eq_true, Bool.not_eq_false, Bool.and_eq_true, Bool.or_eq_true, Bool.and_eq_false_iff, Bool.or_eq_false_iff, Bool.not_not, ne_eq, Int.not_lt, Int.not_le, Decidable.not_not, beq_iff_eq, bne_iff_ne] at hc3
          exfalso; first | contradiction | omega
        · intro hc3
          try simp only [decide_eq_true_eq, decide_eq_false_iff_not, Bool.not_eq_true', Bool.not_eq_false', Bool.not_eq_true, Bool.not_eq_false, Bool.and_eq_true, Bool.or_eq_true, Bool.and_eq_false_iff, Bool.or_eq_false_iff, Bool.not_not, ne_eq, Int.not_lt, Int.not_le, Decidable.not_not, beq_iff_eq, bne_iff_ne] at hc3
          refine c_seq ?_
          refine c_seq ?_
          refine c_region ?_
          refine wl (wl_val hl rfl trivial (r_eql hl rfl rfl) ?_)
          clear hl a; intro a hl
          refine wl (wl_val hl rfl trivial (r_assign hl rfl) ?_)
          clear hl a; intro a hl
          refine w_nil ?_
          have hl2 := hl.add (t := 0) (hl.add (t := 2) (hl.add (t := 4) (hl.add (t := 7) (hl.add (t := 18) (hl.add (t := 39) (hl.nil) rfl) rfl) rfl) rfl) rfl) rfl; clear hl; have hl := hl2; clear hl2
          refine then_normal ?_
          refine c_cond hl rfl ?_ ?_
          · intro hc4
            try simp only [decide_eq_true_eq, decide_eq_false_iff_not, Bool.not_eq_true', Bool.not_eq_false', Bool.not_eq_true, Bool.not_eq_false, Bool.and_eq_true, Bool.or_eq_true, Bool.and_eq_false_iff, Bool.or_eq_false_iff, Bool.not_not, ne_eq, Int.not_lt, Int.not_le, Decidable.not_not, beq_iff_eq, bne_iff_ne] at hc4
            exfalso; first | contradiction | omega
          · intro hc4
            try simp only [decide_eq_true_eq, decide_eq_false_iff_not, Bool.not_eq_true', Bool.not_eq_false', Bool.not_eq_true, Bool.not_eq_false, Bool.and_eq_true, Bool.or_eq_true, Bool.and_eq_false_iff, Bool.or_eq_false_iff, Bool.not_not, ne_eq, Int.not_lt, Int.not_le, Decidable.not_not, beq_iff_eq, bne_iff_ne] at hc4
            refine c_region ?_
            refine wl (wl_val hl rfl trivial (r_eql hl rfl rfl) ?_)
            clear hl a; intro a hl
            refine wl (wl_val hl rfl trivial (r_assign hl rfl) ?_)
            clear hl a; intro a hl
            refine w_nil ?_
            have hl2 := hl.add (t := 0) (hl.add (t := 2) (hl.add (t := 4) (hl.add (t := 7) (hl.add (t := 18) (hl.add (t := 39) (hl.nil) rfl) rfl) rfl) rfl) rfl) rfl; clear hl; have hl := hl2; clear hl2
            refine then_normal ?_
            refine c_cond hl rfl ?_ ?_
            · intro hc5
              try simp only [decide_eq_true_eq, decide_eq_false_iff_not, Bool.not_eq_true', Bool.not_eq_false', Bool.not_eq_true, Bool.not_eq_false, Bool.and_eq_true, Bool.or_eq_true, Bool.and_eq_false_iff, Bool.or_eq_false_iff, Bool.not_not, ne_eq, Int.not_lt, Int.not_le, Decidable.not_not, beq_iff_eq, bne_iff_ne] at hc5
              exfalso; first | contradiction | omega
            · intro hc5
              try simp only [decide_eq_true_eq, decide_eq_false_iff_not, Bool.not_eq_true', Bool.not_eq_false', Bool.not_eq_true, Bool.not_eq_false, Bool.and_eq_true, Bool.or_eq_true, Bool.and_eq_false_iff, Bool.or_eq_false_iff, Bool.not_not, ne_eq, Int.not_lt, Int.not_le, Decidable.not_not, beq_iff_eq, bne_iff_ne] at hc5
              refine c_seq ?_
              refine c_region ?_
              refine wl (wl_val hl rfl trivial (r_eql hl rfl rfl) ?_)
              clear hl a; intro a hl
              refine wl (wl_val hl rfl trivial (r_assign hl rfl) ?_)
              clear hl a; intro a hl
              refine w_nil ?_
              have hl2 := hl.add (t := 0) (hl.add (t := 2) (hl.add (t := 4) (hl.add (t := 7) (hl.add (t := 18) (hl.add (t := 50) (hl.nil) rfl) rfl) rfl) rfl) rfl) rfl; clear hl; have hl := hl2; clear hl2
              refine then_normal ?_
              refine c_cond hl rfl ?_ ?_
              · intro hc6
                try simp only [decide_eq_true_eq, decide_eq_false_iff_not, Bool.not_eq_true', Bool.not_eq_false', Bool.not_eq_true, Bool.not_eq_false, Bool.and_eq_true, Bool.or_eq_true, Bool.and_eq_false_iff, Bool.or_eq_false_iff, Bool.not_not, ne_eq, Int.not_lt, Int.not_le, Decidable.not_not, beq_iff_eq, bne_iff_ne] at hc6
                exfalso; first | contradiction | omega
              · intro hc6
                try simp only [decide_eq_true_eq, decide_eq_false_iff_not, Bool.not_eq_true', Bool.not_eq_false', Bool.not_eq_true, Bool.not_eq_false, Bool.and_eq_true, Bool.or_eq_true, Bool.and_eq_false_iff, Bool.or_eq_false_iff, Bool.not_not, ne_eq, Int.not_lt, Int.not_le, Decidable.not_not, beq_iff_eq, bne_iff_ne] at hc6
                refine c_seq ?_
                refine c_region ?_
                refine wl (wl_val hl rfl trivial (r_eql hl rfl rfl) ?_)
                clear hl a; intro a hl
                refine wl (wl_val hl rfl trivial (r_assign hl rfl) ?_)
                clear hl a; intro a hl
                refine w_nil ?_
                have hl2 := hl.add (t := 0) (hl.add (t := 2) (hl.add (t := 4) (hl.add (t := 7) (hl.add (t := 18) (hl.add (t := 62) (hl.nil) rfl) rfl) rfl) rfl) rfl) rfl; clear hl; have hl := hl2; clear hl2
                refine then_normal ?_
                refine c_cond hl rfl ?_ ?_
                · intro hc7
                  try simp only [decide_eq_true_eq, decide_eq_false_iff_not, Bool.not_eq_true', Bool.not_eq_false', Bool.not_eq_true, Bool.not_eq_false, Bool.and_eq_true, Bool.or_eq_true, Bool.and_eq_false_iff, Bool.or_eq_false_iff, Bool.not_not, ne_eq, Int.not_lt, Int.not_le, Decidable.not_not, beq_iff_eq, bne_iff_ne] at hc7
                  exfalso; first | contradiction | omega
                · intro hc7
                  try simp only [decide_eq_true_eq, decide_eq_false_iff_not, Bool.not_eq_true', Bool.not_eq_false', Bool.not_eq_true, Bool.not_eq_false, Bool.and_eq_true, Bool.or_eq_true, Bool.and_eq_false_iff, Bool.or_eq_false_iff, Bool.not_not, ne_eq, Int.not_lt, Int.not_le, Decidable.not_not, beq_iff_eq, bne_iff_ne] at hc7
                  refine c_seq ?_
                  refine c_region ?_
                  refine wl (wl_val hl rfl trivial (r_eql hl rfl rfl) ?_)
                  clear hl a; intro a hl
                  refine wl (wl_val hl rfl trivial (r_assign hl rfl) ?_)
                  clear hl a; intro a hl
                  refine w_nil ?_
                  have hl2 := hl.add (t := 0) (hl.add (t := 2) (hl.add (t := 4) (hl.add (t := 7) (hl.add (t := 18) (hl.add (t := 68) (hl.nil) rfl) rfl) rfl) rfl) rfl) rfl; clear hl; have hl := hl2; clear hl2
                  refine then_normal ?_
                  refine c_cond hl rfl ?_ ?_
                  · intro hc8
                    try simp only [decide_eq_true_eq, decide_eq_false_iff_not, Bool.not_eq_true', Bool.not_eq_false', Bool.not_eq_true, Bool.not_eq_false, Bool.and_eq_true, Bool.or_eq_true, Bool.and_eq_false_iff, Bool.or_eq_false_iff, Bool.not_not, ne_eq, Int.not_lt, Int.not_le, Decidable.not_not, beq_iff_eq, bne_iff_ne] at hc8
                    exfalso; first | contradiction | omega
                  · intro hc8
                    try simp only [decide_eq_true_eq, decide_eq_false_iff_not, Bool.not_eq_true', Bool.not_eq_false', Bool.not_eq_true, Bool.not_eq_false, Bool.and_eq_true, Bool.or_eq_true, Bool.and_eq_false_iff, Bool.or_eq_false_iff, Bool.not_not, ne_eq, Int.not_lt, Int.not_le, Decidable.not_not, beq_iff_eq, bne_iff_ne] at hc8
                    refine c_seq ?_
                    refine c_region ?_
                    refine wl (wl_val hl rfl trivial (r_eql hl rfl rfl) ?_)
                    clear hl a; intro a hl
                    refine wl (wl_val hl rfl trivial (r_assign hl rfl) ?_)
                    clear hl a; intro a hl
                    refine w_nil ?_
                    have hl2 := hl.add (t := 0) (hl.add (t := 2) (hl.add (t := 4) (hl.add (t := 7) (hl.add (t := 18) (hl.add (t := 90) (hl.nil) rfl) rfl) rfl) rfl) rfl) rfl; clear hl; have hl := hl2; clear hl2
                    refine then_normal ?_
                    refine c_cond hl rfl ?_ ?_
                    · intro hc10
                      try simp only [decide_eq_true_eq, decide_eq_false_iff_not, Bool.not_eq_true', Bool.not_eq_false', Bool.not_eq_true, Bool.not_eq_false, Bool.and_eq_true, Bool.or_eq_true, Bool.and_eq_false_iff, Bool.or_eq_false_iff, Bool.not_not, ne_eq, Int.not_lt, Int.not_le, Decidable.not_not, beq_iff_eq, bne_iff_ne] at hc10
                      exfalso; first | contradiction | omega
                    · intro hc10
                      try simp only [decide_eq_true_eq, decide_eq_false_iff_not, Bool.not_eq_true', Bool.not_eq_false', Bool.not_eq_true, Bool.not_eq_false, Bool.and_eq_true, Bool.or_eq_true, Bool.and_eq_false_iff, Bool.or_eq_false_iff, Bool.not_not, ne_eq, Int.not_lt, Int.not_le, Decidable.not_not, beq_iff_eq, bne_iff_ne] at hc10
                      refine c_seq ?_
                      refine c_region ?_
                      refine wl (wl_val hl rfl trivial (r_eql hl rfl rfl) ?_)
                      clear hl a; intro a hl
                      refine wl (wl_val hl rfl trivial (r_assign hl rfl) ?_)
                      clear hl a; intro a hl
                      refine w_nil ?_
                      have hl2 := hl.add (t := 0) (hl.add (t := 2) (hl.add (t := 4) (hl.add (t := 7) (hl.add (t := 18) (hl.add (t := 114) (hl.nil) rfl) rfl) rfl) rfl) rfl) rfl; clear hl; have hl := hl2; clear hl2
                      refine then_normal ?_
                      refine c_cond hl rfl ?_ ?_
                      · intro hc12
                        try simp only [decide_eq_true_eq, decide_eq_false_iff_not, Bool.not_eq_true', Bool.not_eq_false', Bool.not_eq_true, Bool.not_eq_false, Bool.and_eq_true, Bool.or_eq_true, Bool.and_eq_false_iff, Bool.or_eq_false_iff, Bool.not_not, ne_eq, Int.not_lt, Int.not_le, Decidable.not_not, beq_iff_eq, bne_iff_ne] at hc12
                        exfalso; first | contradiction | omega
                      · intro hc12
                        try simp only [decide_eq_true_eq, decide_eq_false_iff_not, Bool.not_eq_true', Bool.not_eq_false', Bool.not_eq_true, Bool.not_eq_false, Bool.and_eq_true, Bool.or_eq_true, Bool.and_eq_false_iff, Bool.or_eq_false_iff, Bool.not_not, ne_eq, Int.not_lt, Int.not_le, Decidable.not_not, beq_iff_eq, bne_iff_ne] at hc12
                        refine c_seq ?_
                        refine c_region ?_
                        refine wl (wl_val hl rfl trivial (r_eql hl rfl rfl) ?_)
                        clear hl a; intro a hl
                        refine wl (wl_val hl rfl trivial (r_assign hl rfl) ?_)
                        clear hl a; intro a hl
                        refine w_nil ?_
                        have hl2 := hl.add (t := 0) (hl.add (t := 2) (hl.add (t := 4) (hl.add (t := 7) (hl.add (t := 18) (hl.add (t := 130) (hl.nil) rfl) rfl) rfl) rfl) rfl) rfl; clear hl; have hl := hl2; clear hl2
                        refine then_normal ?_
                        refine c_cond hl rfl ?_ ?_
                        · intro hc14
                          try simp only [decide_eq_true_eq, decide_eq_false_iff_not, Bool.not_eq_true', Bool.not_eq_false', Bool.not_eq_true, Bool.not_eq_false, Bool.and_eq_true, Bool.or_eq_true, Bool.and_eq_false_iff, Bool.or_eq_false_iff, Bool.not_not, ne_eq, Int.not_lt, Int.not_le, Decidable.not_not, beq_iff_eq, bne_iff_ne] at hc14
                          exfalso; first | contradiction | omega
                        · intro hc14
                          try simp only [decide_eq_true_eq, decide_eq_false_iff_not, Bool.not_eq_true', Bool.not_eq_false', Bool.not_eq_true, Bool.not_eq_false, Bool.and_eq_true, Bool.or_eq_true, Bool.and_eq_false_iff, Bool.or_eq_false_iff, Bool.not_not, ne_eq, Int.not_lt, Int.not_le, Decidable.not_not, beq_iff_eq, bne_iff_ne] at hc14
                          refine c_seq ?_
                          refine c_region ?_
                          refine wl (wl_val hl rfl trivial (r_eql hl rfl rfl) ?_)
                          clear hl a; intro a hl
                          refine wl (wl_val hl rfl trivial (r_assign hl rfl) ?_)
                          clear hl a; intro a hl
                          refine w_nil ?_
                          have hl2 := hl.add (t := 0) (hl.add (t := 2) (hl.add (t := 4) (hl.add (t := 18) (hl.add (t := 152) (hl.nil) rfl) rfl) rfl) rfl) rfl; clear hl; have hl := hl2; clear hl2
                          refine then_normal ?_
                          refine c_cond hl rfl ?_ ?_
                          · intro hc16
                            try simp only [decide_eq_true_eq, decide_eq_false_iff_not, Bool.not_eq_true', Bool.not_eq_false', Bool.not_eq_true, Bool.not_eq_false, Bool.and_eq_true, Bool.or_eq_true, Bool.and_eq_false_iff, Bool.or_eq_false_iff, Bool.not_not, ne_eq, Int.not_lt, Int.not_le, Decidable.not_not, beq_iff_eq, bne_iff_ne] at hc16
                            exfalso; first | contradiction | omega
                          · intro hc16
                            try simp only [decide_eq_true_eq, decide_eq_false_iff_not, Bool.not_eq_true', Bool.not_eq_false', Bool.not_eq_true, Bool.not_eq_false, Bool.and_eq_true, Bool.or_eq_true, Bool.and_eq_false_iff, Bool.or_eq_false_iff, Bool.not_not, ne_eq, Int.not_lt, Int.not_le, Decidable.not_not, beq_iff_eq, bne_iff_ne] at hc16
                            refine c_seq ?_
                            refine c_region ?_
                            refine wl (wl_val hl rfl trivial (r_eql hl rfl rfl) ?_)
                            clear hl a; intro a hl
                            refine wl (wl_val hl rfl trivial (r_assign hl rfl) ?_)
                            clear hl a; intro a hl
                            refine w_nil ?_
                            have hl2 := hl.add (t := 0) (hl.add (t := 2) (hl.add (t := 4) (hl.add (t := 18) (hl.add (t := 157) (hl.nil) rfl) rfl) rfl) rfl) rfl; clear hl; have hl := hl2; clear hl2
                            refine then_normal ?_
                            refine c_cond hl rfl ?_ ?_
                            · intro hc17
                              try simp only [decide_eq_true_eq, decide_eq_false_iff_not, Bool.not_eq_true', Bool.not_eq_false', Bool.not_eq_true, Bool.not_eq_false, Bool.and_eq_true, Bool.or_eq_true, Bool.and_eq_false_iff, Bool.or_eq_false_iff, Bool.not_not, ne_eq, Int.not_lt, Int.not_le, Decidable.not_not, beq_iff_eq, bne_iff_ne] at hc17
                              exfalso; first | contradiction | omega
                            · intro hc17
                              try simp only [decide_eq_true_eq, decide_eq_false_iff_not, Bool.not_eq_true', Bool.not_eq_false', Bool.not_eq_true, Bool.not_eq_false, Bool.and_eq_true, Bool.or_eq_true, Bool.and_eq_false_iff, Bool.or_eq_false_iff, Bool.not_not, ne_eq, Int.not_lt, Int.not_le, Decidable.not_not, beq_iff_eq, bne_iff_ne] at hc17
                              refine c_seq ?_
                              refine c_region ?_
                              refine wl (wl_val hl rfl trivial (r_eql hl rfl rfl) ?_)
                              clear hl a; intro a hl
                              refine wl (wl_val hl rfl trivial (r_assign hl rfl) ?_)
                              clear hl a; intro a hl
                              refine w_nil ?_
                              have hl2 := hl.add (t := 0) (hl.add (t := 2) (hl.add (t := 4) (hl.add (t := 18) (hl.add (t := 170) (hl.nil) rfl) rfl) rfl) rfl) rfl; clear hl; have hl := hl2; clear hl2
                              refine then_normal ?_
                              refine c_cond hl rfl ?_ ?_
                              · intro hc19
                                try simp only [decide_eq_true_eq, decide_eq_false_iff_not, Bool.not_eq_true', Bool.not_eq_false', Bool.not_eq_true, Bool.not_eq_false, Bool.and_eq_true, Bool.or_eq_true, Bool.and_eq_false_iff, Bool.or_eq_false_iff, Bool.not_not, ne_eq, Int.not_lt, Int.not_le, Decidable.not_not, beq_iff_eq, bne_iff_ne] at hc19
                                exfalso; first | contradiction | omega
                              · intro hc19
                                try simp only [decide_eq_true_eq, decide_eq_false_iff_not, Bool.not_eq_true', Bool.not_eq_false', Bool.not_eq_true, Bool.not_eq_false, Bool.and_eq_true, Bool.or_eq_true, Bool.and_eq_false_iff, Bool.or_eq_false_iff, Bool.not_not, ne_eq, Int.not_lt, Int.not_le, Decidable.not_not, beq_iff_eq, bne_iff_ne] at hc19
                                refine c_seq ?_
                                refine c_region ?_
                                refine wl (wl_val hl rfl trivial (r_eql hl rfl rfl) ?_)
                                clear hl a; intro a hl
                                refine wl (wl_val hl rfl trivial (r_assign hl rfl) ?_)
                                clear hl a; intro a hl
                                refine w_nil ?_
                                have hl2 := hl.add (t := 0) (hl.add (t := 2) (hl.add (t := 4) (hl.add (t := 18) (hl.add (t := 185) (hl.nil) rfl) rfl) rfl) rfl) rfl; clear hl; have hl := hl2; clear hl2
                                refine then_normal ?_
                                refine c_cond hl rfl ?_ ?_
                                · intro hc20
                                  try simp only [decide_eq_true_eq, decide_eq_false_iff_not, Bool.not_eq_true', Bool.not_eq_false', Bool.not_eq_true, Bool.not_eq_false, Bool.and_eq_true, Bool.or_eq_true, Bool.and_eq_false_iff, Bool.or_eq_false_iff, Bool.not_not, ne_eq, Int.not_lt, Int.not_le, Decidable.not_not, beq_iff_eq, bne_iff_ne] at hc20
                                  exfalso; first | contradiction | omega
                                · intro hc20
                                  try simp only [decide_eq_true_eq, decide_eq_false_iff_not, Bool.not_eq_true', Bool.not_eq_false', Bool.not_eq_true, Bool.not_eq_false, Bool.and_eq_true, Bool.or_eq_true, Bool.and_eq_false_iff, Bool.or_eq_false_iff, Bool.not_not, ne_eq, Int.not_lt, Int.not_le, Decidable.not_not, beq_iff_eq, bne_iff_ne] at hc20
                                  refine c_seq ?_
                                  refine c_region ?_
                                  refine wl (wl_val hl rfl trivial (r_eql hl rfl rfl) ?_)
                                  clear hl a; intro a hl
                                  refine wl (wl_val hl rfl trivial (r_assign hl rfl) ?_)
                                  clear hl a; intro a hl
                                  refine w_nil ?_
                                  have hl2 := hl.add (t := 0) (hl.add (t := 2) (hl.add (t := 4) (hl.add (t := 18) (hl.add (t := 200) (hl.nil) rfl) rfl) rfl) rfl) rfl; clear hl; have hl := hl2; clear hl2
                                  refine then_normal ?_
                                  refine c_cond hl rfl ?_ ?_
                                  · intro hc21
                                    try simp only [decide_eq_true_eq, decide_eq_false_iff_not, Bool.not_eq_true', Bool.not_eq_false', Bool.not_eq_true, Bool.not_eq_false, Bool.and_eq_true, Bool.or_eq_true, Bool.and_eq_false_iff, Bool.or_eq_false_iff, Bool.not_not, ne_eq, Int.not_lt, Int.not_le, Decidable.not_not, beq_iff_eq, bne_iff_ne] at hc21
                                    refine c_seq ?_
                                    refine c_draw [(k4, C [.int .u8 o.k, .int .i64 o.A, .int .i64 o.B, .slice p o.tx.length cap, .int .u8 o.m.k, .int .u8 o.m.d, .int .u32 o.m.e, .int .u32 o.m.b, .bool o.m.y, .int .u32 o.m.r, .int .u32 o.m.s, .string o.m.t, .int .u8 o.v.k, .int .u8 o.v.a, .int .u8 o.v.b, .int .u8 o.v.w, .int .u8 o.v.da, .int .u8 o.v.dl] 45)] [7] mixed hh ?_
                                    clear hh w; intro w hh
                                    have hM : Mem [(k4, C [.int .u8 o.k, .int .i64 o.A, .int .i64 o.B, .slice p o.tx.length cap, .int .u8 o.m.k, .int .u8 o.m.d, .int .u32 o.m.e, .int .u32 o.m.b, .bool o.m.y, .int .u32 o.m.r, .int .u32 o.m.s, .string o.m.t, .int .u8 o.v.k, .int .u8 o.v.a, .int .u8 o.v.b, .int .u8 o.v.w, .int .u8 o.v.da, .int .u8 o.v.dl] 45)] w := (memK hh (by repeat (first | exact keeps_nil | apply keeps_cons (by repeat (first | exact find_head | apply find_tail | apply find_skip)) (by first  | rfl) | exact keeps_self | exact keeps_left | apply keeps_app | apply keeps_mv | apply keeps_skip)))
                                    refine d_take (i := 0) hl rfl (by kernel_rfl) (by kernel_rfl) (by kernel_rfl) (by kernel_rfl) (by kernel_rfl) rfl trivial (fun _ _ _ h => h) hM (fun w hC => r_move hl rfl) rfl ?_
                                    clear hl a; intro a hl
                                    refine d_take (i := 1) hl rfl (by kernel_rfl) (by kernel_rfl) (by kernel_rfl) (by kernel_rfl) (by kernel_rfl) rfl trivial (fun _ _ _ h => h) hM (fun w hC => r_nilCheck hl rfl) rfl ?_
                                    clear hl a; intro a hl
                                    refine d_take (i := 2) hl rfl (by kernel_rfl) (by kernel_rfl) (by kernel_rfl) (by kernel_rfl) (by kernel_rfl) rfl trivial (fun _ _ _ h => h) hM (fun w hC => r_field hl rfl fld55_0) rfl ?_
                                    clear hl a; intro a hl
                                    refine d_take (i := 4) hl rfl (by kernel_rfl) (by kernel_rfl) (by kernel_rfl) (by kernel_rfl) (by kernel_rfl) rfl trivial (fun _ _ _ h => h) hM (fun w hC => r_field hl rfl fld45_1) rfl ?_
                                    clear hl a; intro a hl
                                    refine d_take (i := 5) hl rfl (by kernel_rfl) (by kernel_rfl) (by kernel_rfl) (by kernel_rfl) (by kernel_rfl) rfl trivial (fun _ _ _ h => h) hM (fun w hC => r_loadC hl rfl one3 hC (by repeat (first | exact find_head | apply find_tail | apply find_skip)) (by first | exact hct | exact hcr | exact hch | exact hcl | rfl)) rfl ?_
                                    clear hl a; intro a hl
                                    refine d_two (i := 3) (j := 6) (by kernel_rfl) rfl rfl ?_ ?_
                                    ·
                                      try clear hM
                                      refine id (w_load hl hh rfl trivial one48 rfl (by repeat (first | exact find_head | apply find_tail | apply find_skip)) (by first | exact hct | exact hcr | exact hch | exact hcl | rfl) ?_)
                                      clear hl a; intro a hl
                                      have hM : Mem [(k4, C [.int .u8 o.k, .int .i64 o.A, .int .i64 o.B, .slice p o.tx.length cap, .int .u8 o.m.k, .int .u8 o.m.d, .int .u32 o.m.e, .int .u32 o.m.b, .bool o.m.y, .int .u32 o.m.r, .int .u32 o.m.s, .string o.m.t, .int .u8 o.v.k, .int .u8 o.v.a, .int .u8 o.v.b, .int .u8 o.v.w, .int .u8 o.v.da, .int .u8 o.v.dl] 45)] w := (memK hh (by repeat (first | exact keeps_nil | apply keeps_cons (by repeat (first | exact find_head | apply find_tail | apply find_skip)) (by first  | rfl) | exact keeps_self | exact keeps_left | apply keeps_app | apply keeps_mv | apply keeps_skip)))
                                      refine d_step (fun _ => hM) ?_
                                      refine d_one (i := 6) (by kernel_rfl) rfl ?_
                                      try clear hM
                                      refine id (w_call hl hh rfl trivial rfl cal18 rfl (odd_spec _ (by omega)) (by repeat (first | exact keeps_nil | apply keeps_cons (by repeat (first | exact find_head | apply find_tail | apply find_skip)) (by first  | rfl) | exact keeps_self | exact keeps_left | apply keeps_app | apply keeps_mv | apply keeps_skip)) trivial ?_)
                                      clear hl hh a w; intro vc Fc a w hR hl hh
                                      obtain ⟨rfl, rfl⟩ := hR
                                      try simp only [List.cons_append, List.nil_append, List.append_assoc, List.append_nil] at hh
                                      have hM : Mem [(k4, C [.int .u8 o.k, .int .i64 o.A, .int .i64 o.B, .slice p o.tx.length cap, .int .u8 o.m.k, .int .u8 o.m.d, .int .u32 o.m.e, .int .u32 o.m.b, .bool o.m.y, .int .u32 o.m.r, .int .u32 o.m.s, .string o.m.t, .int .u8 o.v.k, .int .u8 o.v.a, .int .u8 o.v.b, .int .u8 o.v.w, .int .u8 o.v.da, .int .u8 o.v.dl] 45)] w := (memK hh (by repeat (first | exact keeps_nil | apply keeps_cons (by repeat (first | exact find_head | apply find_tail | apply find_skip)) (by first  | rfl) | exact keeps_self | exact keeps_left | apply keeps_app | apply keeps_mv | apply keeps_skip)))
                                      refine d_step (fun _ => hM) ?_
                                      refine d_one (i := 7) (by kernel_rfl) rfl ?_
                                      try clear hM
                                      refine id (w_call hl hh rfl trivial rfl cal25 rfl (full_spec Z W.lb W.l hW.l (oddP o.A)) (by repeat (first | exact keeps_nil | apply keeps_cons (by repeat (first | exact find_head | apply find_tail | apply find_skip)) (by first  | rfl) | exact keeps_self | exact keeps_left | apply keeps_app | apply keeps_mv | apply keeps_skip)) trivial ?_)
                                      clear hl hh a w; intro vc Fc a w hR hl hh
                                      obtain ⟨rfl, rfl⟩ := hR
                                      try simp only [List.cons_append, List.nil_append, List.append_assoc, List.append_nil] at hh
                                      simp only [LdV.F, List.cons_append] at hh
                                      refine d_step (fun h => absurd h (by decide)) ?_
                                      refine d_done (by kernel_rfl) ?_
                                      try clear hM
                                      have hl2 := hl.add (t := 2) (hl.add (t := 4) (hl.nil) rfl) rfl; clear hl; have hl := hl2; clear hl2
                                      refine then_normal ?_
                                      refine c_region ?_
                                      refine wl (wl_val hl rfl trivial (r_move hl rfl) ?_)
                                      clear hl a; intro a hl
                                      refine wl (w_loadA hl hh rfl trivial agg45 rfl (by repeat (first | exact find_head | apply find_tail | apply find_skip)) (by rfl) (by rfl) ?_)
                                      clear hl a; intro a hl
                                      refine wl (w_callP hl hh rfl trivial rfl L.dfate rfl (L.fate Z x Fx o.k o.A o.B _ rfl rfl (by omega) (by omega) (by omega) hMx) (by repeat (first | exact keeps_nil | apply keeps_cons (by repeat (first | exact find_head | apply find_tail | apply find_skip)) (by first  | rfl) | exact keeps_self | exact keeps_left | apply keeps_app | apply keeps_mv | apply keeps_skip)) trivial ?_)
                                      clear hl hh a w; intro vc Fc a w hR hl hh
                                      obtain ⟨rfl, hM3⟩ := hR
                                      try simp only [List.cons_append, List.nil_append, List.append_assoc, List.append_nil] at hh
                                      generalize Fc = F3 at hh hM3
                                      try simp only [List.append_assoc, List.cons_append, List.nil_append] at hh
                                      refine w_nil ?_
                                      have hl2 := hl.nil; clear hl; have hl := hl2; clear hl2
                                      refine blk_normal ?_
                                      refine then_normal ?_
                                      refine c_seq ?_
                                      refine c_region ?_
                                      refine wl (wl_val hl rfl trivial (r_assign hl rfl) ?_)
                                      clear hl a; intro a hl
                                      refine w_nil ?_
                                      have hl2 := hl.add (t := 6) (hl.nil) rfl; clear hl; have hl := hl2; clear hl2
                                      refine then_normal ?_
                                      refine wp_ret ?_
                                      refine f_ret1 (F' := F3 ++ ((wb, C (WoV.c W) 55) :: (W.tE ++ (W.gE ++ (DsF W.ds ++ ((gb, C g.c 127) :: (g.st.E ++ (g.qE ++ ((g.rb, MD (kInt .u32) g.rl g.rn) :: (g.oE ++ ((W.lb, C (LdV.c (⟨W.l.d, W.l.dn, oddP o.A, W.l.fu, W.l.kp⟩ : LdV)) 91) :: (W.l.d.E ++ Z)))))))))))) hl hh rfl rfl (by repeat (first | exact keeps_nil | apply keeps_cons (by repeat (first | exact find_head | apply find_tail | apply find_skip)) (by first  | rfl) | exact keeps_self | exact keeps_left | apply keeps_app | apply keeps_mv | apply keeps_skip)) ?_
                                      refine StepO.same (W' := { W with l := (⟨W.l.d, W.l.dn, oddP o.A, W.l.fu, W.l.kp⟩ : LdV) }) (led_ok hW ⟨hW.l.d, hW.l.fu⟩) (Q.fate o.k o.A o.B hJ (.inr ⟨rfl, by omega⟩)) (hn.led rfl rfl) hM3 ?_
                                      unfold WoV.F
                                      rw [show WoV.c { W with l := (⟨W.l.d, W.l.dn, oddP o.A, W.l.fu, W.l.kp⟩ : LdV) } = W.c from wc_same rfl rfl rfl rfl]
                                      simp only [WoV.GF, hg, GF]
                                      try rw [hled]
                                      try simp only [List.append_assoc, List.cons_append]
                                      try rfl
                                    ·
                                      try clear hM
                                      refine id (w_call hl hh rfl trivial rfl cal18 rfl (odd_spec _ (by omega)) (by repeat (first | exact keeps_nil | apply keeps_cons (by repeat (first | exact find_head | apply find_tail | apply find_skip)) (by first  | rfl) | exact keeps_self | exact keeps_left | apply keeps_app | apply keeps_mv | apply keeps_skip)) trivial ?_)
                                      clear hl hh a w; intro vc Fc a w hR hl hh
                                      obtain ⟨rfl, rfl⟩ := hR
                                      try simp only [List.cons_append, List.nil_append, List.append_assoc, List.append_nil] at hh
                                      have hM : Mem [(k4, C [.int .u8 o.k, .int .i64 o.A, .int .i64 o.B, .slice p o.tx.length cap, .int .u8 o.m.k, .int .u8 o.m.d, .int .u32 o.m.e, .int .u32 o.m.b, .bool o.m.y, .int .u32 o.m.r, .int .u32 o.m.s, .string o.m.t, .int .u8 o.v.k, .int .u8 o.v.a, .int .u8 o.v.b, .int .u8 o.v.w, .int .u8 o.v.da, .int .u8 o.v.dl] 45)] w := (memK hh (by repeat (first | exact keeps_nil | apply keeps_cons (by repeat (first | exact find_head | apply find_tail | apply find_skip)) (by first  | rfl) | exact keeps_self | exact keeps_left | apply keeps_app | apply keeps_mv | apply keeps_skip)))
                                      refine d_step (fun _ => hM) ?_
                                      refine d_one (i := 3) (by kernel_rfl) rfl ?_
                                      try clear hM
                                      refine id (w_load hl hh rfl trivial one48 rfl (by repeat (first | exact find_head | apply find_tail | apply find_skip)) (by first | exact hct | exact hcr | exact hch | exact hcl | rfl) ?_)
                                      clear hl a; intro a hl
                                      have hM : Mem [(k4, C [.int .u8 o.k, .int .i64 o.A, .int .i64 o.B, .slice p o.tx.length cap, .int .u8 o.m.k, .int .u8 o.m.d, .int .u32 o.m.e, .int .u32 o.m.b, .bool o.m.y, .int .u32 o.m.r, .int .u32 o.m.s, .string o.m.t, .int .u8 o.v.k, .int .u8 o.v.a, .int .u8 o.v.b, .int .u8 o.v.w, .int .u8 o.v.da, .int .u8 o.v.dl] 45)] w := (memK hh (by repeat (first | exact keeps_nil | apply keeps_cons (by repeat (first | exact find_head | apply find_tail | apply find_skip)) (by first  | rfl) | exact keeps_self | exact keeps_left | apply keeps_app | apply keeps_mv | apply keeps_skip)))
                                      refine d_step (fun _ => hM) ?_
                                      refine d_one (i := 7) (by kernel_rfl) rfl ?_
                                      try clear hM
                                      refine id (w_call hl hh rfl trivial rfl cal25 rfl (full_spec Z W.lb W.l hW.l (oddP o.A)) (by repeat (first | exact keeps_nil | apply keeps_cons (by repeat (first | exact find_head | apply find_tail | apply find_skip)) (by first  | rfl) | exact keeps_self | exact keeps_left | apply keeps_app | apply keeps_mv | apply keeps_skip)) trivial ?_)
                                      clear hl hh a w; intro vc Fc a w hR hl hh
                                      obtain ⟨rfl, rfl⟩ := hR
                                      try simp only [List.cons_append, List.nil_append, List.append_assoc, List.append_nil] at hh
                                      simp only [LdV.F, List.cons_append] at hh
                                      refine d_step (fun h => absurd h (by decide)) ?_
                                      refine d_done (by kernel_rfl) ?_
                                      try clear hM
                                      have hl2 := hl.add (t := 2) (hl.add (t := 4) (hl.nil) rfl) rfl; clear hl; have hl := hl2; clear hl2
                                      refine then_normal ?_
                                      refine c_region ?_
                                      refine wl (wl_val hl rfl trivial (r_move hl rfl) ?_)
                                      clear hl a; intro a hl
                                      refine wl (w_loadA hl hh rfl trivial agg45 rfl (by repeat (first | exact find_head | apply find_tail | apply find_skip)) (by rfl) (by rfl) ?_)
                                      clear hl a; intro a hl
                                      refine wl (w_callP hl hh rfl trivial rfl L.dfate rfl (L.fate Z x Fx o.k o.A o.B _ rfl rfl (by omega) (by omega) (by omega) hMx) (by repeat (first | exact keeps_nil | apply keeps_cons (by repeat (first | exact find_head | apply find_tail | apply find_skip)) (by first  | rfl) | exact keeps_self | exact keeps_left | apply keeps_app | apply keeps_mv | apply keeps_skip)) trivial ?_)
                                      clear hl hh a w; intro vc Fc a w hR hl hh
                                      obtain ⟨rfl, hM3⟩ := hR
                                      try simp only [List.cons_append, List.nil_append, List.append_assoc, List.append_nil] at hh
                                      generalize Fc = F3 at hh hM3
                                      try simp only [List.append_assoc, List.cons_append, List.nil_append] at hh
                                      refine w_nil ?_
                                      have hl2 := hl.nil; clear hl; have hl := hl2; clear hl2
                                      refine blk_normal ?_
                                      refine then_normal ?_
                                      refine c_seq ?_
                                      refine c_region ?_
                                      refine wl (wl_val hl rfl trivial (r_assign hl rfl) ?_)
                                      clear hl a; intro a hl
                                      refine w_nil ?_
                                      have hl2 := hl.add (t := 6) (hl.nil) rfl; clear hl; have hl := hl2; clear hl2
                                      refine then_normal ?_
                                      refine wp_ret ?_
                                      refine f_ret1 (F' := F3 ++ ((wb, C (WoV.c W) 55) :: (W.tE ++ (W.gE ++ (DsF W.ds ++ ((gb, C g.c 127) :: (g.st.E ++ (g.qE ++ ((g.rb, MD (kInt .u32) g.rl g.rn) :: (g.oE ++ ((W.lb, C (LdV.c (⟨W.l.d, W.l.dn, oddP o.A, W.l.fu, W.l.kp⟩ : LdV)) 91) :: (W.l.d.E ++ Z)))))))))))) hl hh rfl rfl (by repeat (first | exact keeps_nil | apply keeps_cons (by repeat (first | exact find_head | apply find_tail | apply find_skip)) (by first  | rfl) | exact keeps_self | exact keeps_left | apply keeps_app | apply keeps_mv | apply keeps_skip)) ?_
                                      refine StepO.same (W' := { W with l := (⟨W.l.d, W.l.dn, oddP o.A, W.l.fu, W.l.kp⟩ : LdV) }) (led_ok hW ⟨hW.l.d, hW.l.fu⟩) (Q.fate o.k o.A o.B hJ (.inr ⟨rfl, by omega⟩)) (hn.led rfl rfl) hM3 ?_
                                      unfold WoV.F
                                      rw [show WoV.c { W with l := (⟨W.l.d, W.l.dn, oddP o.A, W.l.fu, W.l.kp⟩ : LdV) } = W.c from wc_same rfl rfl rfl rfl]
                                      simp only [WoV.GF, hg, GF]
                                      try rw [hled]
                                      try simp only [List.append_assoc, List.cons_append]
                                      try rfl
                                  · intro hc21
                                    try simp only [decide_eq_true_eq, decide_eq_false_iff_not, Bool.not_eq_true', Bool.not_eq_false', Bool.not_eq_true, Bool.not_eq_false, Bool.and_eq_true, Bool.or_eq_true, Bool.and_eq_false_iff, Bool.or_eq_false_iff, Bool.not_not, ne_eq, Int.not_lt, Int.not_le, Decidable.not_not, beq_iff_eq, bne_iff_ne] at hc21
                                    exfalso; first | contradiction | omega
  · intro hc0
    try simp only [decide_eq_true_eq, decide_eq_false_iff_not, Bool.not_eq_true', Bool.not_eq_false', Bool.not_eq_true, Bool.not_eq_false, Bool.and_eq_true, Bool.or_eq_true, Bool.and_eq_false_iff, Bool.or_eq_false_iff, Bool.not_not, ne_eq, Int.not_lt, Int.not_le, Decidable.not_not, beq_iff_eq, bne_iff_ne] at hc0
    refine wp_skip ?_
    refine then_normal ?_
    refine c_seq ?_
    refine c_seq ?_
    refine c_region ?_
    refine wl (wl_val hl rfl trivial (r_field hl rfl fld45_0) ?_)
    clear hl a; intro a hl
    refine wl (w_load hl hh rfl trivial one33 rfl (by repeat (first | exact find_head | apply find_tail | apply find_skip)) (by first | exact hct | exact hcr | exact hch | exact hcl | rfl) ?_)
    clear hl a; intro a hl
    refine w_nil ?_
    have hl2 := hl.add (t := 0) (hl.add (t := 2) (hl.add (t := 4) (hl.add (t := 7) (hl.add (t := 18) (hl.nil) rfl) rfl) rfl) rfl) rfl; clear hl; have hl := hl2; clear hl2
    refine then_normal ?_
    refine wp_block ?_
    refine c_seq ?_
    refine c_region ?_
    refine wl (wl_val hl rfl trivial (r_eql hl rfl rfl) ?_)
    clear hl a; intro a hl
    refine wl (wl_val hl rfl trivial (r_assign hl rfl) ?_)
    clear hl a; intro a hl
    refine w_nil ?_
    have hl2 := hl.add (t := 0) (hl.add (t := 2) (hl.add (t := 4) (hl.add (t := 7) (hl.add (t := 18) (hl.add (t := 19) (hl.nil) rfl) rfl) rfl) rfl) rfl) rfl; clear hl; have hl := hl2; clear hl2
    refine then_normal ?_
    refine c_cond hl rfl ?_ ?_
    · intro hc1
      try simp only [decide_eq_true_eq, decide_eq_false_iff_not, Bool.not_eq_true', Bool.not_eq_false', Bool.not_eq_true, Bool.not_eq_false, Bool.and_eq_true, Bool.or_eq_true, Bool.and_eq_false_iff, Bool.or_eq_false_iff, Bool.not_not, ne_eq, Int.not_lt, Int.not_le, Decidable.not_not, beq_iff_eq, bne_iff_ne] at hc1
      exfalso; first | contradiction | omega
    · intro hc1
      try simp only [decide_eq_true_eq, decide_eq_false_iff_not, Bool.not_eq_true', Bool.not_eq_false', Bool.not_eq_true, Bool.not_eq_false, Bool.and_eq_true, Bool.or_eq_true, Bool.and_eq_false_iff, Bool.or_eq_false_iff, Bool.not_not, ne_eq, Int.not_lt, Int.not_le, Decidable.not_not, beq_iff_eq, bne_iff_ne] at hc1
      refine c_seq ?_
      refine c_seq ?_
      refine c_region ?_
      refine wl (wl_val hl rfl trivial (r_eql hl rfl rfl) ?_)
      clear hl a; intro a hl
      refine wl (wl_val hl rfl trivial (r_assign hl rfl) ?_)
      clear hl a; intro a hl
      refine w_nil ?_
      have hl2 := hl.add (t := 0) (hl.add (t := 2) (hl.add (t := 4) (hl.add (t := 7) (hl.add (t := 18) (hl.add (t := 27) (hl.nil) rfl) rfl) rfl) rfl) rfl) rfl; clear hl; have hl := hl2; clear hl2
      refine then_normal ?_
      refine c_cond hl rfl ?_ ?_
      · intro hc2
        try simp only [decide_eq_true_eq, decide_eq_false_iff_not, Bool.not_eq_true', Bool.not_eq_false', Bool.not_eq_true, Bool.not_eq_false, Bool.and_eq_true, Bool.or_eq_true, Bool.and_eq_false_iff, Bool.or_eq_false_iff, Bool.not_not, ne_eq, Int.not_lt, Int.not_le, Decidable.not_not, beq_iff_eq, bne_iff_ne] at hc2
        exfalso; first | contradiction | omega
      · intro hc2
        try simp only [decide_eq_true_eq, decide_eq_false_iff_not, Bool.not_eq_true', Bool.not_eq_false', Bool.not_eq_true, Bool.not_eq_false, Bool.and_eq_true, Bool.or_eq_true, Bool.and_eq_false_iff, Bool.or_eq_false_iff, Bool.not_not, ne_eq, Int.not_lt, Int.not_le, Decidable.not_not, beq_iff_eq, bne_iff_ne] at hc2
        refine c_region ?_
        refine wl (wl_val hl rfl trivial (r_eql hl rfl rfl) ?_)
        clear hl a; intro a hl
        refine wl (wl_val hl rfl trivial (r_assign hl rfl) ?_)
        clear hl a; intro a hl
        refine w_nil ?_
        have hl2 := hl.add (t := 0) (hl.add (t := 2) (hl.add (t := 4) (hl.add (t := 7) (hl.add (t := 18) (hl.add (t := 27) (hl.nil) rfl) rfl) rfl) rfl) rfl) rfl; clear hl; have hl := hl2; clear hl2
        refine then_normal ?_
        refine c_cond hl rfl ?_ ?_
        · intro hc3
          try simp only [decide_eq_true_eq, decide_eq_false_iff_not, Bool.not_eq_true', Bool.not_eq_false', Bool.not_eq_true, Bool.not_eq_false, Bool.and_eq_true, Bool.or_eq_true, Bool.and_eq_false_iff, Bool.or_eq_false_iff, Bool.not_not, ne_eq, Int.not_lt, Int.not_le, Decidable.not_not, beq_iff_eq, bne_iff_ne] at hc3
          exfalso; first | contradiction | omega
        · intro hc3
          try simp only [decide_eq_true_eq, decide_eq_false_iff_not, Bool.not_eq_true', Bool.not_eq_false', Bool.not_eq_true, Bool.not_eq_false, Bool.and_eq_true, Bool.or_eq_true, Bool.and_eq_false_iff, Bool.or_eq_false_iff, Bool.not_not, ne_eq, Int.not_lt, Int.not_le, Decidable.not_not, beq_iff_eq, bne_iff_ne] at hc3
          refine c_seq ?_
          refine c_seq ?_
          refine c_region ?_
          refine wl (wl_val hl rfl trivial (r_eql hl rfl rfl) ?_)
          clear hl a; intro a hl
          refine wl (wl_val hl rfl trivial (r_assign hl rfl) ?_)
          clear hl a; intro a hl
          refine w_nil ?_
          have hl2 := hl.add (t := 0) (hl.add (t := 2) (hl.add (t := 4) (hl.add (t := 7) (hl.add (t := 18) (hl.add (t := 39) (hl.nil) rfl) rfl) rfl) rfl) rfl) rfl; clear hl; have hl := hl2; clear hl2
          refine then_normal ?_
          refine c_cond hl rfl ?_ ?_
          · intro hc4
            try simp only [decide_eq_true_eq, decide_eq_false_iff_not, Bool.not_eq_true', Bool.not_eq_false', Bool.not_eq_true, Bool.not_eq_false, Bool.and_eq_true, Bool.or_eq_true, Bool.and_eq_false_iff, Bool.or_eq_false_iff, Bool.not_not, ne_eq, Int.not_lt, Int.not_le, Decidable.not_not, beq_iff_eq, bne_iff_ne] at hc4
            exfalso; first | contradiction | omega
          · intro hc4
            try simp only [decide_eq_true_eq, decide_eq_false_iff_not, Bool.not_eq_true', Bool.not_eq_false', Bool.not_eq_true, Bool.not_eq_false, Bool.and_eq_true, Bool.or_eq_true, Bool.and_eq_false_iff, Bool.or_eq_false_iff, Bool.not_not, ne_eq, Int.not_lt, Int.not_le, Decidable.not_not, beq_iff_eq, bne_iff_ne] at hc4
            refine c_region ?_
            refine wl (wl_val hl rfl trivial (r_eql hl rfl rfl) ?_)
            clear hl a; intro a hl
            refine wl (wl_val hl rfl trivial (r_assign hl rfl) ?_)
            clear hl a; intro a hl
            refine w_nil ?_
            have hl2 := hl.add (t := 0) (hl.add (t := 2) (hl.add (t := 4) (hl.add (t := 7) (hl.add (t := 18) (hl.add (t := 39) (hl.nil) rfl) rfl) rfl) rfl) rfl) rfl; clear hl; have hl := hl2; clear hl2
            refine then_normal ?_
            refine c_cond hl rfl ?_ ?_
            · intro hc5
              try simp only [decide_eq_true_eq, decide_eq_false_iff_not, Bool.not_eq_true', Bool.not_eq_false', Bool.not_eq_true, Bool.not_eq_false, Bool.and_eq_true, Bool.or_eq_true, Bool.and_eq_false_iff, Bool.or_eq_false_iff, Bool.not_not, ne_eq, Int.not_lt, Int.not_le, Decidable.not_not, beq_iff_eq, bne_iff_ne] at hc5
              exfalso; first | contradiction | omega
            · intro hc5
              try simp only [decide_eq_true_eq, decide_eq_false_iff_not, Bool.not_eq_true', Bool.not_eq_false', Bool.not_eq_true, Bool.not_eq_false, Bool.and_eq_true, Bool.or_eq_true, Bool.and_eq_false_iff, Bool.or_eq_false_iff, Bool.not_not, ne_eq, Int.not_lt, Int.not_le, Decidable.not_not, beq_iff_eq, bne_iff_ne] at hc5
              refine c_seq ?_
              refine c_region ?_
              refine wl (wl_val hl rfl trivial (r_eql hl rfl rfl) ?_)
              clear hl a; intro a hl
              refine wl (wl_val hl rfl trivial (r_assign hl rfl) ?_)
              clear hl a; intro a hl
              refine w_nil ?_
              have hl2 := hl.add (t := 0) (hl.add (t := 2) (hl.add (t := 4) (hl.add (t := 7) (hl.add (t := 18) (hl.add (t := 50) (hl.nil) rfl) rfl) rfl) rfl) rfl) rfl; clear hl; have hl := hl2; clear hl2
              refine then_normal ?_
              refine c_cond hl rfl ?_ ?_
              · intro hc6
                try simp only [decide_eq_true_eq, decide_eq_false_iff_not, Bool.not_eq_true', Bool.not_eq_false', Bool.not_eq_true, Bool.not_eq_false, Bool.and_eq_true, Bool.or_eq_true, Bool.and_eq_false_iff, Bool.or_eq_false_iff, Bool.not_not, ne_eq, Int.not_lt, Int.not_le, Decidable.not_not, beq_iff_eq, bne_iff_ne] at hc6
                exfalso; first | contradiction | omega
              · intro hc6
                try simp only [decide_eq_true_eq, decide_eq_false_iff_not, Bool.not_eq_true', Bool.not_eq_false', Bool.not_eq_true, Bool.not_eq_false, Bool.and_eq_true, Bool.or_eq_true, Bool.and_eq_false_iff, Bool.or_eq_false_iff, Bool.not_not, ne_eq, Int.not_lt, Int.not_le, Decidable.not_not, beq_iff_eq, bne_iff_ne] at hc6
                refine c_seq ?_
                refine c_region ?_
                refine wl (wl_val hl rfl trivial (r_eql hl rfl rfl) ?_)
                clear hl a; intro a hl
                refine wl (wl_val hl rfl trivial (r_assign hl rfl) ?_)
                clear hl a; intro a hl
                refine w_nil ?_
                have hl2 := hl.add (t := 0) (hl.add (t := 2) (hl.add (t := 4) (hl.add (t := 7) (hl.add (t := 18) (hl.add (t := 62) (hl.nil) rfl) rfl) rfl) rfl) rfl) rfl; clear hl; have hl := hl2; clear hl2
                refine then_normal ?_
                refine c_cond hl rfl ?_ ?_
                · intro hc7
                  try simp only [decide_eq_true_eq, decide_eq_false_iff_not, Bool.not_eq_true', Bool.not_eq_false', Bool.not_eq_true, Bool.not_eq_false, Bool.and_eq_true, Bool.or_eq_true, Bool.and_eq_false_iff, Bool.or_eq_false_iff, Bool.not_not, ne_eq, Int.not_lt, Int.not_le, Decidable.not_not, beq_iff_eq, bne_iff_ne] at hc7
                  exfalso; first | contradiction | omega
                · intro hc7
                  try simp only [decide_eq_true_eq, decide_eq_false_iff_not, Bool.not_eq_true', Bool.not_eq_false', Bool.not_eq_true, Bool.not_eq_false, Bool.and_eq_true, Bool.or_eq_true, Bool.and_eq_false_iff, Bool.or_eq_false_iff, Bool.not_not, ne_eq, Int.not_lt, Int.not_le, Decidable.not_not, beq_iff_eq, bne_iff_ne] at hc7
                  refine c_seq ?_
                  refine c_region ?_
                  refine wl (wl_val hl rfl trivial (r_eql hl rfl rfl) ?_)
                  clear hl a; intro a hl
                  refine wl (wl_val hl rfl trivial (r_assign hl rfl) ?_)
                  clear hl a; intro a hl
                  refine w_nil ?_
                  have hl2 := hl.add (t := 0) (hl.add (t := 2) (hl.add (t := 4) (hl.add (t := 7) (hl.add (t := 18) (hl.add (t := 68) (hl.nil) rfl) rfl) rfl) rfl) rfl) rfl; clear hl; have hl := hl2; clear hl2
                  refine then_normal ?_
                  refine c_cond hl rfl ?_ ?_
                  · intro hc8
                    try simp only [decide_eq_true_eq, decide_eq_false_iff_not, Bool.not_eq_true', Bool.not_eq_false', Bool.not_eq_true, Bool.not_eq_false, Bool.and_eq_true, Bool.or_eq_true, Bool.and_eq_false_iff, Bool.or_eq_false_iff, Bool.not_not, ne_eq, Int.not_lt, Int.not_le, Decidable.not_not, beq_iff_eq, bne_iff_ne] at hc8
                    exfalso; first | contradiction | omega
                  · intro hc8
                    try simp only [decide_eq_true_eq, decide_eq_false_iff_not, Bool.not_eq_true', Bool.not_eq_false', Bool.not_eq_true, Bool.not_eq_false, Bool.and_eq_true, Bool.or_eq_true, Bool.and_eq_false_iff, Bool.or_eq_false_iff, Bool.not_not, ne_eq, Int.not_lt, Int.not_le, Decidable.not_not, beq_iff_eq, bne_iff_ne] at hc8
                    refine c_seq ?_
                    refine c_region ?_
                    refine wl (wl_val hl rfl trivial (r_eql hl rfl rfl) ?_)
                    clear hl a; intro a hl
                    refine wl (wl_val hl rfl trivial (r_assign hl rfl) ?_)
                    clear hl a; intro a hl
                    refine w_nil ?_
                    have hl2 := hl.add (t := 0) (hl.add (t := 2) (hl.add (t := 4) (hl.add (t := 7) (hl.add (t := 18) (hl.add (t := 90) (hl.nil) rfl) rfl) rfl) rfl) rfl) rfl; clear hl; have hl := hl2; clear hl2
                    refine then_normal ?_
                    refine c_cond hl rfl ?_ ?_
                    · intro hc10
                      try simp only [decide_eq_true_eq, decide_eq_false_iff_not, Bool.not_eq_true', Bool.not_eq_false', Bool.not_eq_true, Bool.not_eq_false, Bool.and_eq_true, Bool.or_eq_true, Bool.and_eq_false_iff, Bool.or_eq_false_iff, Bool.not_not, ne_eq, Int.not_lt, Int.not_le, Decidable.not_not, beq_iff_eq, bne_iff_ne] at hc10
                      exfalso; first | contradiction | omega
                    · intro hc10
                      try simp only [decide_eq_true_eq, decide_eq_false_iff_not, Bool.not_eq_true', Bool.not_eq_false', Bool.not_eq_true, Bool.not_eq_false, Bool.and_eq_true, Bool.or_eq_true, Bool.and_eq_false_iff, Bool.or_eq_false_iff, Bool.not_not, ne_eq, Int.not_lt, Int.not_le, Decidable.not_not, beq_iff_eq, bne_iff_ne] at hc10
                      refine c_seq ?_
                      refine c_region ?_
                      refine wl (wl_val hl rfl trivial (r_eql hl rfl rfl) ?_)
                      clear hl a; intro a hl
                      refine wl (wl_val hl rfl trivial (r_assign hl rfl) ?_)
                      clear hl a; intro a hl
                      refine w_nil ?_
                      have hl2 := hl.add (t := 0) (hl.add (t := 2) (hl.add (t := 4) (hl.add (t := 7) (hl.add (t := 18) (hl.add (t := 114) (hl.nil) rfl) rfl) rfl) rfl) rfl) rfl; clear hl; have hl := hl2; clear hl2
                      refine then_normal ?_
                      refine c_cond hl rfl ?_ ?_
                      · intro hc12
                        try simp only [decide_eq_true_eq, decide_eq_false_iff_not, Bool.not_eq_true', Bool.not_eq_false', Bool.not_eq_true, Bool.not_eq_false, Bool.and_eq_true, Bool.or_eq_true, Bool.and_eq_false_iff, Bool.or_eq_false_iff, Bool.not_not, ne_eq, Int.not_lt, Int.not_le, Decidable.not_not, beq_iff_eq, bne_iff_ne] at hc12
                        exfalso; first | contradiction | omega
                      · intro hc12
                        try simp only [decide_eq_true_eq, decide_eq_false_iff_not, Bool.not_eq_true', Bool.not_eq_false', Bool.not_eq_true, Bool.not_eq_false, Bool.and_eq_true, Bool.or_eq_true, Bool.and_eq_false_iff, Bool.or_eq_false_iff, Bool.not_not, ne_eq, Int.not_lt, Int.not_le, Decidable.not_not, beq_iff_eq, bne_iff_ne] at hc12
                        refine c_seq ?_
                        refine c_region ?_
                        refine wl (wl_val hl rfl trivial (r_eql hl rfl rfl) ?_)
                        clear hl a; intro a hl
                        refine wl (wl_val hl rfl trivial (r_assign hl rfl) ?_)
                        clear hl a; intro a hl
                        refine w_nil ?_
                        have hl2 := hl.add (t := 0) (hl.add (t := 2) (hl.add (t := 4) (hl.add (t := 7) (hl.add (t := 18) (hl.add (t := 130) (hl.nil) rfl) rfl) rfl) rfl) rfl) rfl; clear hl; have hl := hl2; clear hl2
                        refine then_normal ?_
                        refine c_cond hl rfl ?_ ?_
                        · intro hc14
                          try simp only [decide_eq_true_eq, decide_eq_false_iff_not, Bool.not_eq_true', Bool.not_eq_false', Bool.not_eq_true, Bool.not_eq_false, Bool.and_eq_true, Bool.or_eq_true, Bool.and_eq_false_iff, Bool.or_eq_false_iff, Bool.not_not, ne_eq, Int.not_lt, Int.not_le, Decidable.not_not, beq_iff_eq, bne_iff_ne] at hc14
                          exfalso; first | contradiction | omega
                        · intro hc14
                          try simp only [decide_eq_true_eq, decide_eq_false_iff_not, Bool.not_eq_true', Bool.not_eq_false', Bool.not_eq_true, Bool.not_eq_false, Bool.and_eq_true, Bool.or_eq_true, Bool.and_eq_false_iff, Bool.or_eq_false_iff, Bool.not_not, ne_eq, Int.not_lt, Int.not_le, Decidable.not_not, beq_iff_eq, bne_iff_ne] at hc14
                          refine c_seq ?_
                          refine c_region ?_
                          refine wl (wl_val hl rfl trivial (r_eql hl rfl rfl) ?_)
                          clear hl a; intro a hl
                          refine wl (wl_val hl rfl trivial (r_assign hl rfl) ?_)
                          clear hl a; intro a hl
                          refine w_nil ?_
                          have hl2 := hl.add (t := 0) (hl.add (t := 2) (hl.add (t := 4) (hl.add (t := 18) (hl.add (t := 152) (hl.nil) rfl) rfl) rfl) rfl) rfl; clear hl; have hl := hl2; clear hl2
                          refine then_normal ?_
                          refine c_cond hl rfl ?_ ?_
                          · intro hc16
                            try simp only [decide_eq_true_eq, decide_eq_false_iff_not, Bool.not_eq_true', Bool.not_eq_false', Bool.not_eq_true, Bool.not_eq_false, Bool.and_eq_true, Bool.or_eq_true, Bool.and_eq_false_iff, Bool.or_eq_false_iff, Bool.not_not, ne_eq, Int.not_lt, Int.not_le, Decidable.not_not, beq_iff_eq, bne_iff_ne] at hc16
                            exfalso; first | contradiction | omega
                          · intro hc16
                            try simp only [decide_eq_true_eq, decide_eq_false_iff_not, Bool.not_eq_true', Bool.not_eq_false', Bool.not_eq_true, Bool.not_eq_false, Bool.and_eq_true, Bool.or_eq_true, Bool.and_eq_false_iff, Bool.or_eq_false_iff, Bool.not_not, ne_eq, Int.not_lt, Int.not_le, Decidable.not_not, beq_iff_eq, bne_iff_ne] at hc16
                            refine c_seq ?_
                            refine c_region ?_
                            refine wl (wl_val hl rfl trivial (r_eql hl rfl rfl) ?_)
                            clear hl a; intro a hl
                            refine wl (wl_val hl rfl trivial (r_assign hl rfl) ?_)
                            clear hl a; intro a hl
                            refine w_nil ?_
                            have hl2 := hl.add (t := 0) (hl.add (t := 2) (hl.add (t := 4) (hl.add (t := 18) (hl.add (t := 157) (hl.nil) rfl) rfl) rfl) rfl) rfl; clear hl; have hl := hl2; clear hl2
                            refine then_normal ?_
                            refine c_cond hl rfl ?_ ?_
                            · intro hc17
                              try simp only [decide_eq_true_eq, decide_eq_false_iff_not, Bool.not_eq_true', Bool.not_eq_false', Bool.not_eq_true, Bool.not_eq_false, Bool.and_eq_true, Bool.or_eq_true, Bool.and_eq_false_iff, Bool.or_eq_false_iff, Bool.not_not, ne_eq, Int.not_lt, Int.not_le, Decidable.not_not, beq_iff_eq, bne_iff_ne] at hc17
                              exfalso; first | contradiction | omega
                            · intro hc17
                              try simp only [decide_eq_true_eq, decide_eq_false_iff_not, Bool.not_eq_true', Bool.not_eq_false', Bool.not_eq_true, Bool.not_eq_false, Bool.and_eq_true, Bool.or_eq_true, Bool.and_eq_false_iff, Bool.or_eq_false_iff, Bool.not_not, ne_eq, Int.not_lt, Int.not_le, Decidable.not_not, beq_iff_eq, bne_iff_ne] at hc17
                              refine c_seq ?_
                              refine c_region ?_
                              refine wl (wl_val hl rfl trivial (r_eql hl rfl rfl) ?_)
                              clear hl a; intro a hl
                              refine wl (wl_val hl rfl trivial (r_assign hl rfl) ?_)
                              clear hl a; intro a hl
                              refine w_nil ?_
                              have hl2 := hl.add (t := 0) (hl.add (t := 2) (hl.add (t := 4) (hl.add (t := 18) (hl.add (t := 170) (hl.nil) rfl) rfl) rfl) rfl) rfl; clear hl; have hl := hl2; clear hl2
                              refine then_normal ?_
                              refine c_cond hl rfl ?_ ?_
                              · intro hc19
                                try simp only [decide_eq_true_eq, decide_eq_false_iff_not, Bool.not_eq_true', Bool.not_eq_false', Bool.not_eq_true, Bool.not_eq_false, Bool.and_eq_true, Bool.or_eq_true, Bool.and_eq_false_iff, Bool.or_eq_false_iff, Bool.not_not, ne_eq, Int.not_lt, Int.not_le, Decidable.not_not, beq_iff_eq, bne_iff_ne] at hc19
                                exfalso; first | contradiction | omega
                              · intro hc19
                                try simp only [decide_eq_true_eq, decide_eq_false_iff_not, Bool.not_eq_true', Bool.not_eq_false', Bool.not_eq_true, Bool.not_eq_false, Bool.and_eq_true, Bool.or_eq_true, Bool.and_eq_false_iff, Bool.or_eq_false_iff, Bool.not_not, ne_eq, Int.not_lt, Int.not_le, Decidable.not_not, beq_iff_eq, bne_iff_ne] at hc19
                                refine c_seq ?_
                                refine c_region ?_
                                refine wl (wl_val hl rfl trivial (r_eql hl rfl rfl) ?_)
                                clear hl a; intro a hl
                                refine wl (wl_val hl rfl trivial (r_assign hl rfl) ?_)
                                clear hl a; intro a hl
                                refine w_nil ?_
                                have hl2 := hl.add (t := 0) (hl.add (t := 2) (hl.add (t := 4) (hl.add (t := 18) (hl.add (t := 185) (hl.nil) rfl) rfl) rfl) rfl) rfl; clear hl; have hl := hl2; clear hl2
                                refine then_normal ?_
                                refine c_cond hl rfl ?_ ?_
                                · intro hc20
                                  try simp only [decide_eq_true_eq, decide_eq_false_iff_not, Bool.not_eq_true', Bool.not_eq_false', Bool.not_eq_true, Bool.not_eq_false, Bool.and_eq_true, Bool.or_eq_true, Bool.and_eq_false_iff, Bool.or_eq_false_iff, Bool.not_not, ne_eq, Int.not_lt, Int.not_le, Decidable.not_not, beq_iff_eq, bne_iff_ne] at hc20
                                  exfalso; first | contradiction | omega
                                · intro hc20
                                  try simp only [decide_eq_true_eq, decide_eq_false_iff_not, Bool.not_eq_true', Bool.not_eq_false', Bool.not_eq_true, Bool.not_eq_false, Bool.and_eq_true, Bool.or_eq_true, Bool.and_eq_false_iff, Bool.or_eq_false_iff, Bool.not_not, ne_eq, Int.not_lt, Int.not_le, Decidable.not_not, beq_iff_eq, bne_iff_ne] at hc20
                                  refine c_seq ?_
                                  refine c_region ?_
                                  refine wl (wl_val hl rfl trivial (r_eql hl rfl rfl) ?_)
                                  clear hl a; intro a hl
                                  refine wl (wl_val hl rfl trivial (r_assign hl rfl) ?_)
                                  clear hl a; intro a hl
                                  refine w_nil ?_
                                  have hl2 := hl.add (t := 0) (hl.add (t := 2) (hl.add (t := 4) (hl.add (t := 18) (hl.add (t := 200) (hl.nil) rfl) rfl) rfl) rfl) rfl; clear hl; have hl := hl2; clear hl2
                                  refine then_normal ?_
                                  refine c_cond hl rfl ?_ ?_
                                  · intro hc21
                                    try simp only [decide_eq_true_eq, decide_eq_false_iff_not, Bool.not_eq_true', Bool.not_eq_false', Bool.not_eq_true, Bool.not_eq_false, Bool.and_eq_true, Bool.or_eq_true, Bool.and_eq_false_iff, Bool.or_eq_false_iff, Bool.not_not, ne_eq, Int.not_lt, Int.not_le, Decidable.not_not, beq_iff_eq, bne_iff_ne] at hc21
                                    refine c_seq ?_
                                    refine c_draw [(k4, C [.int .u8 o.k, .int .i64 o.A, .int .i64 o.B, .slice p o.tx.length cap, .int .u8 o.m.k, .int .u8 o.m.d, .int .u32 o.m.e, .int .u32 o.m.b, .bool o.m.y, .int .u32 o.m.r, .int .u32 o.m.s, .string o.m.t, .int .u8 o.v.k, .int .u8 o.v.a, .int .u8 o.v.b, .int .u8 o.v.w, .int .u8 o.v.da, .int .u8 o.v.dl] 45)] [7] mixed hh ?_
                                    clear hh w; intro w hh
                                    have hM : Mem [(k4, C [.int .u8 o.k, .int .i64 o.A, .int .i64 o.B, .slice p o.tx.length cap, .int .u8 o.m.k, .int .u8 o.m.d, .int .u32 o.m.e, .int .u32 o.m.b, .bool o.m.y, .int .u32 o.m.r, .int .u32 o.m.s, .string o.m.t, .int .u8 o.v.k, .int .u8 o.v.a, .int .u8 o.v.b, .int .u8 o.v.w, .int .u8 o.v.da, .int .u8 o.v.dl] 45)] w := (memK hh (by repeat (first | exact keeps_nil | apply keeps_cons (by repeat (first | exact find_head | apply find_tail | apply find_skip)) (by first  | rfl) | exact keeps_self | exact keeps_left | apply keeps_app | apply keeps_mv | apply keeps_skip)))
                                    refine d_take (i := 0) hl rfl (by kernel_rfl) (by kernel_rfl) (by kernel_rfl) (by kernel_rfl) (by kernel_rfl) rfl trivial (fun _ _ _ h => h) hM (fun w hC => r_move hl rfl) rfl ?_
                                    clear hl a; intro a hl
                                    refine d_take (i := 1) hl rfl (by kernel_rfl) (by kernel_rfl) (by kernel_rfl) (by kernel_rfl) (by kernel_rfl) rfl trivial (fun _ _ _ h => h) hM (fun w hC => r_nilCheck hl rfl) rfl ?_
                                    clear hl a; intro a hl
                                    refine d_take (i := 2) hl rfl (by kernel_rfl) (by kernel_rfl) (by kernel_rfl) (by kernel_rfl) (by kernel_rfl) rfl trivial (fun _ _ _ h => h) hM (fun w hC => r_field hl rfl fld55_0) rfl ?_
                                    clear hl a; intro a hl
                                    refine d_take (i := 4) hl rfl (by kernel_rfl) (by kernel_rfl) (by kernel_rfl) (by kernel_rfl) (by kernel_rfl) rfl trivial (fun _ _ _ h => h) hM (fun w hC => r_field hl rfl fld45_1) rfl ?_
                                    clear hl a; intro a hl
                                    refine d_take (i := 5) hl rfl (by kernel_rfl) (by kernel_rfl) (by kernel_rfl) (by kernel_rfl) (by kernel_rfl) rfl trivial (fun _ _ _ h => h) hM (fun w hC => r_loadC hl rfl one3 hC (by repeat (first | exact find_head | apply find_tail | apply find_skip)) (by first | exact hct | exact hcr | exact hch | exact hcl | rfl)) rfl ?_
                                    clear hl a; intro a hl
                                    refine d_two (i := 3) (j := 6) (by kernel_rfl) rfl rfl ?_ ?_
                                    ·
                                      try clear hM
                                      refine id (w_load hl hh rfl trivial one48 rfl (by repeat (first | exact find_head | apply find_tail | apply find_skip)) (by first | exact hct | exact hcr | exact hch | exact hcl | rfl) ?_)
                                      clear hl a; intro a hl
                                      have hM : Mem [(k4, C [.int .u8 o.k, .int .i64 o.A, .int .i64 o.B, .slice p o.tx.length cap, .int .u8 o.m.k, .int .u8 o.m.d, .int .u32 o.m.e, .int .u32 o.m.b, .bool o.m.y, .int .u32 o.m.r, .int .u32 o.m.s, .string o.m.t, .int .u8 o.v.k, .int .u8 o.v.a, .int .u8 o.v.b, .int .u8 o.v.w, .int .u8 o.v.da, .int .u8 o.v.dl] 45)] w := (memK hh (by repeat (first | exact keeps_nil | apply keeps_cons (by repeat (first | exact find_head | apply find_tail | apply find_skip)) (by first  | rfl) | exact keeps_self | exact keeps_left | apply keeps_app | apply keeps_mv | apply keeps_skip)))
                                      refine d_step (fun _ => hM) ?_
                                      refine d_one (i := 6) (by kernel_rfl) rfl ?_
                                      try clear hM
                                      refine id (w_call hl hh rfl trivial rfl cal18 rfl (odd_spec _ (by omega)) (by repeat (first | exact keeps_nil | apply keeps_cons (by repeat (first | exact find_head | apply find_tail | apply find_skip)) (by first  | rfl) | exact keeps_self | exact keeps_left | apply keeps_app | apply keeps_mv | apply keeps_skip)) trivial ?_)
                                      clear hl hh a w; intro vc Fc a w hR hl hh
                                      obtain ⟨rfl, rfl⟩ := hR
                                      try simp only [List.cons_append, List.nil_append, List.append_assoc, List.append_nil] at hh
                                      have hM : Mem [(k4, C [.int .u8 o.k, .int .i64 o.A, .int .i64 o.B, .slice p o.tx.length cap, .int .u8 o.m.k, .int .u8 o.m.d, .int .u32 o.m.e, .int .u32 o.m.b, .bool o.m.y, .int .u32 o.m.r, .int .u32 o.m.s, .string o.m.t, .int .u8 o.v.k, .int .u8 o.v.a, .int .u8 o.v.b, .int .u8 o.v.w, .int .u8 o.v.da, .int .u8 o.v.dl] 45)] w := (memK hh (by repeat (first | exact keeps_nil | apply keeps_cons (by repeat (first | exact find_head | apply find_tail | apply find_skip)) (by first  | rfl) | exact keeps_self | exact keeps_left | apply keeps_app | apply keeps_mv | apply keeps_skip)))
                                      refine d_step (fun _ => hM) ?_
                                      refine d_one (i := 7) (by kernel_rfl) rfl ?_
                                      try clear hM
                                      refine id (w_call hl hh rfl trivial rfl cal25 rfl (full_spec Z W.lb W.l hW.l (oddP o.A)) (by repeat (first | exact keeps_nil | apply keeps_cons (by repeat (first | exact find_head | apply find_tail | apply find_skip)) (by first  | rfl) | exact keeps_self | exact keeps_left | apply keeps_app | apply keeps_mv | apply keeps_skip)) trivial ?_)
                                      clear hl hh a w; intro vc Fc a w hR hl hh
                                      obtain ⟨rfl, rfl⟩ := hR
                                      try simp only [List.cons_append, List.nil_append, List.append_assoc, List.append_nil] at hh
                                      simp only [LdV.F, List.cons_append] at hh
                                      refine d_step (fun h => absurd h (by decide)) ?_
                                      refine d_done (by kernel_rfl) ?_
                                      try clear hM
                                      have hl2 := hl.add (t := 2) (hl.add (t := 4) (hl.nil) rfl) rfl; clear hl; have hl := hl2; clear hl2
                                      refine then_normal ?_
                                      refine c_region ?_
                                      refine wl (wl_val hl rfl trivial (r_move hl rfl) ?_)
                                      clear hl a; intro a hl
                                      refine wl (w_loadA hl hh rfl trivial agg45 rfl (by repeat (first | exact find_head | apply find_tail | apply find_skip)) (by rfl) (by rfl) ?_)
                                      clear hl a; intro a hl
                                      refine wl (w_callP hl hh rfl trivial rfl L.dfate rfl (L.fate Z x Fx o.k o.A o.B _ rfl rfl (by omega) (by omega) (by omega) hMx) (by repeat (first | exact keeps_nil | apply keeps_cons (by repeat (first | exact find_head | apply find_tail | apply find_skip)) (by first  | rfl) | exact keeps_self | exact keeps_left | apply keeps_app | apply keeps_mv | apply keeps_skip)) trivial ?_)
                                      clear hl hh a w; intro vc Fc a w hR hl hh
                                      obtain ⟨rfl, hM3⟩ := hR
                                      try simp only [List.cons_append, List.nil_append, List.append_assoc, List.append_nil] at hh
                                      generalize Fc = F3 at hh hM3
                                      try simp only [List.append_assoc, List.cons_append, List.nil_append] at hh
                                      refine w_nil ?_
                                      have hl2 := hl.nil; clear hl; have hl := hl2; clear hl2
                                      refine blk_normal ?_
                                      refine then_normal ?_
                                      refine c_seq ?_
                                      refine c_region ?_
                                      refine wl (wl_val hl rfl trivial (r_assign hl rfl) ?_)
                                      clear hl a; intro a hl
                                      refine w_nil ?_
                                      have hl2 := hl.add (t := 6) (hl.nil) rfl; clear hl; have hl := hl2; clear hl2
                                      refine then_normal ?_
                                      refine wp_ret ?_
                                      refine f_ret1 (F' := F3 ++ ((wb, C (WoV.c W) 55) :: (W.tE ++ (W.gE ++ (DsF W.ds ++ ((gb, C g.c 127) :: (g.st.E ++ (g.qE ++ ((g.rb, MD (kInt .u32) g.rl g.rn) :: (g.oE ++ ((W.lb, C (LdV.c (⟨W.l.d, W.l.dn, oddP o.A, W.l.fu, W.l.kp⟩ : LdV)) 91) :: (W.l.d.E ++ Z)))))))))))) hl hh rfl rfl (by repeat (first | exact keeps_nil | apply keeps_cons (by repeat (first | exact find_head | apply find_tail | apply find_skip)) (by first  | rfl) | exact keeps_self | exact keeps_left | apply keeps_app | apply keeps_mv | apply keeps_skip)) ?_
                                      refine StepO.same (W' := { W with l := (⟨W.l.d, W.l.dn, oddP o.A, W.l.fu, W.l.kp⟩ : LdV) }) (led_ok hW ⟨hW.l.d, hW.l.fu⟩) (Q.fate o.k o.A o.B hJ (.inr ⟨rfl, by omega⟩)) (hn.led rfl rfl) hM3 ?_
                                      unfold WoV.F
                                      rw [show WoV.c { W with l := (⟨W.l.d, W.l.dn, oddP o.A, W.l.fu, W.l.kp⟩ : LdV) } = W.c from wc_same rfl rfl rfl rfl]
                                      simp only [WoV.GF, hg, GF]
                                      try rw [hled]
                                      try simp only [List.append_assoc, List.cons_append]
                                      try rfl
                                    ·
                                      try clear hM
                                      refine id (w_call hl hh rfl trivial rfl cal18 rfl (odd_spec _ (by omega)) (by repeat (first | exact keeps_nil | apply keeps_cons (by repeat (first | exact find_head | apply find_tail | apply find_skip)) (by first  | rfl) | exact keeps_self | exact keeps_left | apply keeps_app | apply keeps_mv | apply keeps_skip)) trivial ?_)
                                      clear hl hh a w; intro vc Fc a w hR hl hh
                                      obtain ⟨rfl, rfl⟩ := hR
                                      try simp only [List.cons_append, List.nil_append, List.append_assoc, List.append_nil] at hh
                                      have hM : Mem [(k4, C [.int .u8 o.k, .int .i64 o.A, .int .i64 o.B, .slice p o.tx.length cap, .int .u8 o.m.k, .int .u8 o.m.d, .int .u32 o.m.e, .int .u32 o.m.b, .bool o.m.y, .int .u32 o.m.r, .int .u32 o.m.s, .string o.m.t, .int .u8 o.v.k, .int .u8 o.v.a, .int .u8 o.v.b, .int .u8 o.v.w, .int .u8 o.v.da, .int .u8 o.v.dl] 45)] w := (memK hh (by repeat (first | exact keeps_nil | apply keeps_cons (by repeat (first | exact find_head | apply find_tail | apply find_skip)) (by first  | rfl) | exact keeps_self | exact keeps_left | apply keeps_app | apply keeps_mv | apply keeps_skip)))
                                      refine d_step (fun _ => hM) ?_
                                      refine d_one (i := 3) (by kernel_rfl) rfl ?_
                                      try clear hM
                                      refine id (w_load hl hh rfl trivial one48 rfl (by repeat (first | exact find_head | apply find_tail | apply find_skip)) (by first | exact hct | exact hcr | exact hch | exact hcl | rfl) ?_)
                                      clear hl a; intro a hl
                                      have hM : Mem [(k4, C [.int .u8 o.k, .int .i64 o.A, .int .i64 o.B, .slice p o.tx.length cap, .int .u8 o.m.k, .int .u8 o.m.d, .int .u32 o.m.e, .int .u32 o.m.b, .bool o.m.y, .int .u32 o.m.r, .int .u32 o.m.s, .string o.m.t, .int .u8 o.v.k, .int .u8 o.v.a, .int .u8 o.v.b, .int .u8 o.v.w, .int .u8 o.v.da, .int .u8 o.v.dl] 45)] w := (memK hh (by repeat (first | exact keeps_nil | apply keeps_cons (by repeat (first | exact find_head | apply find_tail | apply find_skip)) (by first  | rfl) | exact keeps_self | exact keeps_left | apply keeps_app | apply keeps_mv | apply keeps_skip)))
                                      refine d_step (fun _ => hM) ?_
                                      refine d_one (i := 7) (by kernel_rfl) rfl ?_
                                      try clear hM
                                      refine id (w_call hl hh rfl trivial rfl cal25 rfl (full_spec Z W.lb W.l hW.l (oddP o.A)) (by repeat (first | exact keeps_nil | apply keeps_cons (by repeat (first | exact find_head | apply find_tail | apply find_skip)) (by first  | rfl) | exact keeps_self | exact keeps_left | apply keeps_app | apply keeps_mv | apply keeps_skip)) trivial ?_)
                                      clear hl hh a w; intro vc Fc a w hR hl hh
                                      obtain ⟨rfl, rfl⟩ := hR
                                      try simp only [List.cons_append, List.nil_append, List.append_assoc, List.append_nil] at hh
                                      simp only [LdV.F, List.cons_append] at hh
                                      refine d_step (fun h => absurd h (by decide)) ?_
                                      refine d_done (by kernel_rfl) ?_
                                      try clear hM
                                      have hl2 := hl.add (t := 2) (hl.add (t := 4) (hl.nil) rfl) rfl; clear hl; have hl := hl2; clear hl2
                                      refine then_normal ?_
                                      refine c_region ?_
                                      refine wl (wl_val hl rfl trivial (r_move hl rfl) ?_)
                                      clear hl a; intro a hl
                                      refine wl (w_loadA hl hh rfl trivial agg45 rfl (by repeat (first | exact find_head | apply find_tail | apply find_skip)) (by rfl) (by rfl) ?_)
                                      clear hl a; intro a hl
                                      refine wl (w_callP hl hh rfl trivial rfl L.dfate rfl (L.fate Z x Fx o.k o.A o.B _ rfl rfl (by omega) (by omega) (by omega) hMx) (by repeat (first | exact keeps_nil | apply keeps_cons (by repeat (first | exact find_head | apply find_tail | apply find_skip)) (by first  | rfl) | exact keeps_self | exact keeps_left | apply keeps_app | apply keeps_mv | apply keeps_skip)) trivial ?_)
                                      clear hl hh a w; intro vc Fc a w hR hl hh
                                      obtain ⟨rfl, hM3⟩ := hR
                                      try simp only [List.cons_append, List.nil_append, List.append_assoc, List.append_nil] at hh
                                      generalize Fc = F3 at hh hM3
                                      try simp only [List.append_assoc, List.cons_append, List.nil_append] at hh
                                      refine w_nil ?_
                                      have hl2 := hl.nil; clear hl; have hl := hl2; clear hl2
                                      refine blk_normal ?_
                                      refine then_normal ?_
                                      refine c_seq ?_
                                      refine c_region ?_
                                      refine wl (wl_val hl rfl trivial (r_assign hl rfl) ?_)
                                      clear hl a; intro a hl
                                      refine w_nil ?_
                                      have hl2 := hl.add (t := 6) (hl.nil) rfl; clear hl; have hl := hl2; clear hl2
                                      refine then_normal ?_
                                      refine wp_ret ?_
                                      refine f_ret1 (F' := F3 ++ ((wb, C (WoV.c W) 55) :: (W.tE ++ (W.gE ++ (DsF W.ds ++ ((gb, C g.c 127) :: (g.st.E ++ (g.qE ++ ((g.rb, MD (kInt .u32) g.rl g.rn) :: (g.oE ++ ((W.lb, C (LdV.c (⟨W.l.d, W.l.dn, oddP o.A, W.l.fu, W.l.kp⟩ : LdV)) 91) :: (W.l.d.E ++ Z)))))))))))) hl hh rfl rfl (by repeat (first | exact keeps_nil | apply keeps_cons (by repeat (first | exact find_head | apply find_tail | apply find_skip)) (by first  | rfl) | exact keeps_self | exact keeps_left | apply keeps_app | apply keeps_mv | apply keeps_skip)) ?_
                                      refine StepO.same (W' := { W with l := (⟨W.l.d, W.l.dn, oddP o.A, W.l.fu, W.l.kp⟩ : LdV) }) (led_ok hW ⟨hW.l.d, hW.l.fu⟩) (Q.fate o.k o.A o.B hJ (.inr ⟨rfl, by omega⟩)) (hn.led rfl rfl) hM3 ?_
                                      unfold WoV.F
                                      rw [show WoV.c { W with l := (⟨W.l.d, W.l.dn, oddP o.A, W.l.fu, W.l.kp⟩ : LdV) } = W.c from wc_same rfl rfl rfl rfl]
                                      simp only [WoV.GF, hg, GF]
                                      try rw [hled]
                                      try simp only [List.append_assoc, List.cons_append]
                                      try rfl
                                  · intro hc21
                                    try simp only [decide_eq_true_eq, decide_eq_false_iff_not, Bool.not_eq_true', Bool.not_eq_false', Bool.not_eq_true, Bool.not_eq_false, Bool.and_eq_true, Bool.or_eq_true, Bool.and_eq_false_iff, Bool.or_eq_false_iff, Bool.not_not, ne_eq, Int.not_lt, Int.not_le, Decidable.not_not, beq_iff_eq, bne_iff_ne] at hc21
                                    exfalso; first | contradiction | omega

set_option maxHeartbeats 8000000 in
theorem step_crash {lb wb : Nat} (L : LawM lb wb) (Q : LawJ L) (Z : List (Nat × Obj)) (W : WoV) (hW : W.ok Z) (n : Nat) (hn9 : n + 200 < 1000000000) (x : L.X) (Fx : List (Nat × Obj)) (hMx : L.M Z x Fx) (hJ : Q.J (W.pl [] []) x) (hn : WI n (W.pl [] [])) (o : OpP) (p : Option Addr) (cap : Nat) (ho : OpOk Z o p cap) (hk : o.k = 15) (gb : Nat) (g : GtV) (hg : W.g = some (gb, g)) : Sp Tryz.prog 12 #[.pointer (some ⟨wb, 0, none⟩), .agg ⟨opC o p cap⟩, Lw L.T lb] (Fx ++ WoV.F wb W Z) (fun v F' => StepO Q Z n v F') := by
  refine f_enter (args := [.pointer (some ⟨wb, 0, none⟩), .agg ⟨[.int .u8 o.k, .int .i64 o.A, .int .i64 o.B, .slice p o.tx.length cap, .int .u8 o.m.k, .int .u8 o.m.d, .int .u32 o.m.e, .int .u32 o.m.b, .bool o.m.y, .int .u32 o.m.r, .int .u32 o.m.s, .string o.m.t, .int .u8 o.v.k, .int .u8 o.v.a, .int .u8 o.v.b, .int .u8 o.v.w, .int .u8 o.v.da, .int .u8 o.v.dl]⟩, .iface L.T (.pointer (some ⟨lb, 0, none⟩))]) Tryz.func12 rfl Tryz.ntmps12 rfl ?_
  intro w0 w a hpre hl hh
  generalize hDD : List.map Prod.fst (Fx ++ WoV.F wb W Z) = D at hh ⊢
  simp only [WoV.F] at hh
  have hct := wc_td W hW.dl
  have hcr := wc_tg W hW.dl
  have hch := wc_hn W hW.dl
  have hcl := wc_led W
  have hwl := wc_len W hW.dl
  have ho1 := ho.k
  have ho2 := ho.A
  have ho3 := ho.B
  have htl := hW.tl
  have hrl := hW.rl
  have hled : g.led = W.lb := (hW.g _ hg).2.1
  simp only [WoV.GF, hg, GF] at hh
  rw [hled] at hh
  try simp only [List.append_assoc, List.cons_append] at hh
  simp only [slotsFrom, Nat.reduceAdd] at hl
  refine c_seq ?_
  refine c_region ?_
  refine wl (w_box hl hh rfl trivial rfl rfl ?_)
  clear hl hh a w; intro k4 a w hl hh
  refine wl (wl_val hl rfl trivial (r_assign hl rfl) ?_)
  clear hl a; intro a hl
  refine w_nil ?_
  have hl2 := hl.add (t := 0) (hl.add (t := 2) (hl.add (t := 4) (hl.nil) rfl) rfl) rfl; clear hl; have hl := hl2; clear hl2
  refine then_normal ?_
  refine c_seq ?_
  refine c_region ?_
  refine wl (wl_val hl rfl trivial (r_move hl rfl) ?_)
  clear hl a; intro a hl
  refine wl (wl_val hl rfl trivial (r_nilCheck hl rfl) ?_)
  clear hl a; intro a hl
  refine wl (wl_val hl rfl trivial (r_field hl rfl fld55_3) ?_)
  clear hl a; intro a hl
  refine wl (wl_val hl rfl trivial (r_assign hl rfl) ?_)
  clear hl a; intro a hl
  refine w_nil ?_
  have hl2 := hl.add (t := 0) (hl.add (t := 2) (hl.add (t := 4) (hl.add (t := 7) (hl.nil) rfl) rfl) rfl) rfl; clear hl; have hl := hl2; clear hl2
  refine then_normal ?_
  refine c_seq ?_
  refine c_seq ?_
  refine c_region ?_
  refine wl (wl_val hl rfl trivial (r_field hl rfl fld45_2) ?_)
  clear hl a; intro a hl
  refine wl (w_load hl hh rfl trivial one3 rfl (by repeat (first | exact find_head | apply find_tail | apply find_skip)) (by first | exact hct | exact hcr | exact hch | exact hcl | rfl) ?_)
  clear hl a; intro a hl
  refine wl (w_call hl hh rfl trivial rfl cal18 rfl (odd_spec _ (by omega)) (by repeat (first | exact keeps_nil | apply keeps_cons (by repeat (first | exact find_head | apply find_tail | apply find_skip)) (by first  | rfl) | exact keeps_self | exact keeps_left | apply keeps_app | apply keeps_mv | apply keeps_skip)) trivial ?_)
  clear hl hh a w; intro vc Fc a w hR hl hh
  obtain ⟨rfl, rfl⟩ := hR
  try simp only [List.cons_append, List.nil_append, List.append_assoc, List.append_nil] at hh
  refine w_nil ?_
  have hl2 := hl.add (t := 0) (hl.add (t := 2) (hl.add (t := 4) (hl.add (t := 7) (hl.add (t := 13) (hl.nil) rfl) rfl) rfl) rfl) rfl; clear hl; have hl := hl2; clear hl2
  refine then_normal ?_
  refine c_cond hl rfl ?_ ?_
  · intro hc0
    try simp only [decide_eq_true_eq, decide_eq_false_iff_not, Bool.not_eq_true', Bool.not_eq_false', Bool.not_eq_true, Bool.not_eq_false, Bool.and_eq_true, Bool.or_eq_true, Bool.and_eq_false_iff, Bool.or_eq_false_iff, Bool.not_not, ne_eq, Int.not_lt, Int.not_le, Decidable.not_not, beq_iff_eq, bne_iff_ne] at hc0
    refine c_region ?_
    refine wl (wl_val hl rfl trivial (r_move hl rfl) ?_)
    clear hl a; intro a hl
    refine wl (wl_val hl rfl trivial (r_nilCheck hl rfl) ?_)
    clear hl a; intro a hl
    refine wl (wl_val hl rfl trivial (r_field hl rfl fld55_4) ?_)
    clear hl a; intro a hl
    refine wl (wl_val hl rfl trivial (r_assign hl rfl) ?_)
    clear hl a; intro a hl
    refine w_nil ?_
    have hl2 := hl.add (t := 0) (hl.add (t := 2) (hl.add (t := 4) (hl.add (t := 7) (hl.nil) rfl) rfl) rfl) rfl; clear hl; have hl := hl2; clear hl2
    refine then_normal ?_
    refine c_seq ?_
    refine c_seq ?_
    refine c_region ?_
    refine wl (wl_val hl rfl trivial (r_field hl rfl fld45_0) ?_)
    clear hl a; intro a hl
    refine wl (w_load hl hh rfl trivial one33 rfl (by repeat (first | exact find_head | apply find_tail | apply find_skip)) (by first | exact hct | exact hcr | exact hch | exact hcl | rfl) ?_)
    clear hl a; intro a hl
    refine w_nil ?_
    have hl2 := hl.add (t := 0) (hl.add (t := 2) (hl.add (t := 4) (hl.add (t := 7) (hl.add (t := 18) (hl.nil) rfl) rfl) rfl) rfl) rfl; clear hl; have hl := hl2; clear hl2
    refine then_normal ?_
    refine wp_block ?_
    refine c_seq ?_
    refine c_region ?_
    refine wl (wl_val hl rfl trivial (r_eql hl rfl rfl) ?_)
    clear hl a; intro a hl
    refine wl (wl_val hl rfl trivial (r_assign hl rfl) ?_)
    clear hl a; intro a hl
    refine w_nil ?_
    have hl2 := hl.add (t := 0) (hl.add (t := 2) (hl.add (t := 4) (hl.add (t := 7) (hl.add (t := 18) (hl.add (t := 19) (hl.nil) rfl) rfl) rfl) rfl) rfl) rfl; clear hl; have hl := hl2; clear hl2
    refine then_normal ?_
    refine c_cond hl rfl ?_ ?_
    · intro hc1
      try simp only [decide_eq_true_eq, decide_eq_false_iff_not, Bool.not_eq_true', Bool.not_eq_false', Bool.not_eq_true, Bool.not_eq_false, Bool.and_eq_true, Bool.or_eq_true, Bool.and_eq_false_iff, Bool.or_eq_false_iff, Bool.not_not, ne_eq, Int.not_lt, Int.not_le, Decidable.not_not, beq_iff_eq, bne_iff_ne] at hc1
      exfalso; first | contradiction | omega
    · intro hc1
      try simp only [decide_eq_true_eq, decide_eq_false_iff_not, Bool.not_eq_true', Bool.not_eq_false', Bool.not_eq_true, Bool.not_eq_false, Bool.and_eq_true, Bool.or_eq_true, Bool.and_eq_false_iff, Bool.or_eq_false_iff, Bool.not_not, ne_eq, Int.not_lt, Int.not_le, Decidable.not_not, beq_iff_eq, bne_iff_ne] at hc1
      refine c_seq ?_
      refine c_seq ?_
      refine c_region ?_
      refine wl (wl_val hl rfl trivial (r_eql hl rfl rfl) ?_)
      clear hl a; intro a hl
      refine wl (wl_val hl rfl trivial (r_assign hl rfl) ?_)
      clear hl a; intro a hl
      refine w_nil ?_
      have hl2 := hl.add (t := 0) (hl.add (t := 2) (hl.add (t := 4) (hl.add (t := 7) (hl.add (t := 18) (hl.add (t := 27) (hl.nil) rfl) rfl) rfl) rfl) rfl) rfl; clear hl; have hl := hl2; clear hl2
      refine then_normal ?_
      refine c_cond hl rfl ?_ ?_
      · intro hc2
        try simp only [decide_eq_true_eq, decide_eq_false_iff_not, Bool.not_eq_true', Bool.not_eq_false', Bool.not_eq_true, Bool.not_eq_false, Bool.and_eq_true, Bool.or_eq_true, Bool.and_eq_false_iff, Bool.or_eq_false_iff, Bool.not_not, ne_eq, Int.not_lt, Int.not_le, Decidable.not_not, beq_iff_eq, bne_iff_ne] at hc2
        exfalso; first | contradiction | omega
      · intro hc2
        try simp only [decide_eq_true_eq, decide_eq_false_iff_not, Bool.not_eq_true', Bool.not_eq_false', Bool.not_eq_true, Bool.not_eq_false, Bool.and_eq_true, Bool.or_eq_true, Bool.and_eq_false_iff, Bool.or_eq_false_iff, Bool.not_not, ne_eq, Int.not_lt, Int.not_le, Decidable.not_not, beq_iff_eq, bne_iff_ne] at hc2
        refine c_region ?_
        refine wl (wl_val hl rfl trivial (r_eql hl rfl rfl) ?_)
        clear hl a; intro a hl
        refine wl (wl_val hl rfl trivial (r_assign hl rfl) ?_)
        clear hl a; intro a hl
        refine w_nil ?_
        have hl2 := hl.add (t := 0) (hl.add (t := 2) (hl.add (t := 4) (hl.add (t := 7) (hl.add (t := 18) (hl.add (t := 27) (hl.nil) rfl) rfl) rfl) rfl) rfl) rfl; clear hl; have hl := hl2; clear hl2
        refine then_normal ?_
        refine c_cond hl rfl ?_ ?_
        · intro hc3
          try simp only [decide_eq_true_eq, decide_eq_false_iff_not, Bool.not_eq_true', Bool.not_eq_false', Bool.not_eq_true, Bool.not_eq_false, Bool.and_eq_true, Bool.or_eq_true, Bool.and_eq_false_iff, Bool.or_eq_false_iff, Bool.not_not, ne_eq, Int.not_lt, Int.not_le, Decidable.not_not, beq_iff_eq, bne_iff_ne] at hc3
          exfalso; first | contradiction | omega
        · intro hc3
          try simp only [decide_eq_true_eq, decide_eq_false_iff_not, Bool.not_eq_true', Bool.not_eq_false', Bool.not_eq_true, Bool.not_eq_false, Bool.and_eq_true, Bool.or_eq_true, Bool.and_eq_false_iff, Bool.or_eq_false_iff, Bool.not_not, ne_eq, Int.not_lt, Int.not_le, Decidable.not_not, beq_iff_eq, bne_iff_ne] at hc3
          refine c_seq ?_
          refine c_seq ?_
          refine c_region ?_
          refine wl (wl_val hl rfl trivial (r_eql hl rfl rfl) ?_)
          clear hl a; intro a hl
          refine wl (wl_val hl rfl trivial (r_assign hl rfl) ?_)
          clear hl a; intro a hl
          refine w_nil ?_
          have hl2 := hl.add (t := 0) (hl.add (t := 2) (hl.add (t := 4) (hl.add (t := 7) (hl.add (t := 18) (hl.add (t := 39) (hl.nil) rfl) rfl) rfl) rfl) rfl) rfl; clear hl; have hl := hl2; clear hl2
          refine then_normal ?_
          refine c_cond hl rfl ?_ ?_
          · intro hc4
            try simp only [decide_eq_true_eq, decide_eq_false_iff_not, Bool.not_eq_true', Bool.not_eq_false', Bool.not_eq_true, Bool.not_eq_false, Bool.and_eq_true, Bool.or_eq_true, Bool.and_eq_false_iff, Bool.or_eq_false_iff, Bool.not_not, ne_eq, Int.not_lt, Int.not_le, Decidable.not_not, beq_iff_eq, bne_iff_ne] at hc4
            exfalso; first | contradiction | omega
          · intro hc4
            try simp only [decide_eq_true_eq, decide_eq_false_iff_not, Bool.not_eq_true', Bool.not_eq_false', Bool.not_eq_true, Bool.not_eq_false, Bool.and_eq_true, Bool.or_eq_true, Bool.and_eq_false_iff, Bool.or_eq_false_iff, Bool.not_not, ne_eq, Int.not_lt, Int.not_le, Decidable.not_not, beq_iff_eq, bne_iff_ne] at hc4
            refine c_region ?_
            refine wl (wl_val hl rfl trivial (r_eql hl rfl rfl) ?_)
            clear hl a; intro a hl
            refine wl (wl_val hl rfl trivial (r_assign hl rfl) ?_)
            clear hl a; intro a hl
            refine w_nil ?_
            have hl2 := hl.add (t := 0) (hl.add (t := 2) (hl.add (t := 4) (hl.add (t := 7) (hl.add (t := 18) (hl.add (t := 39) (hl.nil) rfl) rfl) rfl) rfl) rfl) rfl; clear hl; have hl := hl2; clear hl2
            refine then_normal ?_
            refine c_cond hl rfl ?_ ?_
            · intro hc5
              try simp only [decide_eq_true_eq, decide_eq_false_iff_not, Bool.not_eq_true', Bool.not_eq_false', Bool.not_eq_true, Bool.not_eq_false, Bool.and_eq_true, Bool.or_eq_true, Bool.and_eq_false_iff, Bool.or_eq_false_iff, Bool.not_not, ne_eq, Int.not_lt, Int.not_le, Decidable.not_not, beq_iff_eq, bne_iff_ne] at hc5
              exfalso; first | contradiction | omega
            · intro hc5
              try simp only [decide_eq_true_eq, decide_eq_false_iff_not, Bool.not_eq_true', Bool.not_eq_false', Bool.not_eq_true, Bool.not_eq_false, Bool.and_eq_true, Bool.or_eq_true, Bool.and_eq_false_iff, Bool.or_eq_false_iff, Bool.not_not, ne_eq, Int.not_lt, Int.not_le, Decidable.not_not, beq_iff_eq, bne_iff_ne] at hc5
              refine c_seq ?_
              refine c_region ?_
              refine wl (wl_val hl rfl trivial (r_eql hl rfl rfl) ?_)
              clear hl a; intro a hl
              refine wl (wl_val hl rfl trivial (r_assign hl rfl) ?_)
              clear hl a; intro a hl
              refine w_nil ?_
              have hl2 := hl.add (t := 0) (hl.add (t := 2) (hl.add (t := 4) (hl.add (t := 7) (hl.add (t := 18) (hl.add (t := 50) (hl.nil) rfl) rfl) rfl) rfl) rfl) rfl; clear hl; have hl := hl2; clear hl2
              refine then_normal ?_
              refine c_cond hl rfl ?_ ?_
              · intro hc6
                try simp only [decide_eq_true_eq, decide_eq_false_iff_not, Bool.not_eq_true', Bool.not_eq_false', Bool.not_eq_true, Bool.not_eq_false, Bool.and_eq_true, Bool.or_eq_true, Bool.and_eq_false_iff, Bool.or_eq_false_iff, Bool.not_not, ne_eq, Int.not_lt, Int.not_le, Decidable.not_not, beq_iff_eq, bne_iff_ne] at hc6
                exfalso; first | contradiction | omega
              · intro hc6
                try simp only [decide_eq_true_eq, decide_eq_false_iff_not, Bool.not_eq_true', Bool.not_eq_false', Bool.not_eq_true, Bool.not_eq_false, Bool.and_eq_true, Bool.or_eq_true, Bool.and_eq_false_iff, Bool.or_eq_false_iff, Bool.not_not, ne_eq, Int.not_lt, Int.not_le, Decidable.not_not, beq_iff_eq, bne_iff_ne] at hc6
                refine c_seq ?_
                refine c_region ?_
                refine wl (wl_val hl rfl trivial (r_eql hl rfl rfl) ?_)
                clear hl a; intro a hl
                refine wl (wl_val hl rfl trivial (r_assign hl rfl) ?_)
                clear hl a; intro a hl
                refine w_nil ?_
                have hl2 := hl.add (t := 0) (hl.add (t := 2) (hl.add (t := 4) (hl.add (t := 7) (hl.add (t := 18) (hl.add (t := 62) (hl.nil) rfl) rfl) rfl) rfl) rfl) rfl; clear hl; have hl := hl2; clear hl2
                refine then_normal ?_
                refine c_cond hl rfl ?_ ?_
                · intro hc7
                  try simp only [decide_eq_true_eq, decide_eq_false_iff_not, Bool.not_eq_true', Bool.not_eq_false', Bool.not_eq_true, Bool.not_eq_false, Bool.and_eq_true, Bool.or_eq_true, Bool.and_eq_false_iff, Bool.or_eq_false_iff, Bool.not_not, ne_eq, Int.not_lt, Int.not_le, Decidable.not_not, beq_iff_eq, bne_iff_ne] at hc7
                  exfalso; first | contradiction | omega
                · intro hc7
                  try simp only [decide_eq_true_eq, decide_eq_false_iff_not, Bool.not_eq_true', Bool.not_eq_false', Bool.not_eq_true, Bool.not_eq_false, Bool.and_eq_true, Bool.or_eq_true, Bool.and_eq_false_iff, Bool.or_eq_false_iff, Bool.not_not, ne_eq, Int.not_lt, Int.not_le, Decidable.not_not, beq_iff_eq, bne_iff_ne] at hc7
                  refine c_seq ?_
                  refine c_region ?_
                  refine wl (wl_val hl rfl trivial (r_eql hl rfl rfl) ?_)
                  clear hl a; intro a hl
                  refine wl (wl_val hl rfl trivial (r_assign hl rfl) ?_)
                  clear hl a; intro a hl
                  refine w_nil ?_
                  have hl2 := hl.add (t := 0) (hl.add (t := 2) (hl.add (t := 4) (hl.add (t := 7) (hl.add (t := 18) (hl.add (t := 68) (hl.nil) rfl) rfl) rfl) rfl) rfl) rfl; clear hl; have hl := hl2; clear hl2
                  refine then_normal ?_
                  refine c_cond hl rfl ?_ ?_
                  · intro hc8
                    try simp only [decide_eq_true_eq, decide_eq_false_iff_not, Bool.not_eq_true', Bool.not_eq_false', Bool.not_eq_true, Bool.not_eq_false, Bool.and_eq_true, Bool.or_eq_true, Bool.and_eq_false_iff, Bool.or_eq_false_iff, Bool.not_not, ne_eq, Int.not_lt, Int.not_le, Decidable.not_not, beq_iff_eq, bne_iff_ne] at hc8
                    exfalso; first | contradiction | omega
                  · intro hc8
                    try simp only [decide_eq_true_eq, decide_eq_false_iff_not, Bool.not_eq_true', Bool.not_eq_false', Bool.not_eq_true, Bool.not_eq_false, Bool.and_eq_true, Bool.or_eq_true, Bool.and_eq_false_iff, Bool.or_eq_false_iff, Bool.not_not, ne_eq, Int.not_lt, Int.not_le, Decidable.not_not, beq_iff_eq, bne_iff_ne] at hc8
                    refine c_seq ?_
                    refine c_region ?_
                    refine wl (wl_val hl rfl trivial (r_eql hl rfl rfl) ?_)
                    clear hl a; intro a hl
                    refine wl (wl_val hl rfl trivial (r_assign hl rfl) ?_)
                    clear hl a; intro a hl
                    refine w_nil ?_
                    have hl2 := hl.add (t := 0) (hl.add (t := 2) (hl.add (t := 4) (hl.add (t := 7) (hl.add (t := 18) (hl.add (t := 90) (hl.nil) rfl) rfl) rfl) rfl) rfl) rfl; clear hl; have hl := hl2; clear hl2
                    refine then_normal ?_
                    refine c_cond hl rfl ?_ ?_
                    · intro hc10
                      try simp only [decide_eq_true_eq, decide_eq_false_iff_not, Bool.not_eq_true', Bool.not_eq_false', Bool.not_eq_true, Bool.not_eq_false, Bool.and_eq_true, Bool.or_eq_true, Bool.and_eq_false_iff, Bool.or_eq_false_iff, Bool.not_not, ne_eq, Int.not_lt, Int.not_le, Decidable.not_not, beq_iff_eq, bne_iff_ne] at hc10
                      exfalso; first | contradiction | omega
                    · intro hc10
                      try simp only [decide_eq_true_eq, decide_eq_false_iff_not, Bool.not_eq_true', Bool.not_eq_false', Bool.not_eq_true, Bool.not_eq_false, Bool.and_eq_true, Bool.or_eq_true, Bool.and_eq_false_iff, Bool.or_eq_false_iff, Bool.not_not, ne_eq, Int.not_lt, Int.not_le, Decidable.not_not, beq_iff_eq, bne_iff_ne] at hc10
                      refine c_seq ?_
                      refine c_region ?_
                      refine wl (wl_val hl rfl trivial (r_eql hl rfl rfl) ?_)
                      clear hl a; intro a hl
                      refine wl (wl_val hl rfl trivial (r_assign hl rfl) ?_)
                      clear hl a; intro a hl
                      refine w_nil ?_
                      have hl2 := hl.add (t := 0) (hl.add (t := 2) (hl.add (t := 4) (hl.add (t := 7) (hl.add (t := 18) (hl.add (t := 114) (hl.nil) rfl) rfl) rfl) rfl) rfl) rfl; clear hl; have hl := hl2; clear hl2
                      refine then_normal ?_
                      refine c_cond hl rfl ?_ ?_
                      · intro hc12
                        try simp only [decide_eq_true_eq, decide_eq_false_iff_not, Bool.not_eq_true', Bool.not_eq_false', Bool.not_eq_true, Bool.not_eq_false, Bool.and_eq_true, Bool.or_eq_true, Bool.and_eq_false_iff, Bool.or_eq_false_iff, Bool.not_not, ne_eq, Int.not_lt, Int.not_le, Decidable.not_not, beq_iff_eq, bne_iff_ne] at hc12
                        exfalso; first | contradiction | omega
                      · intro hc12
                        try simp only [decide_eq_true_eq, decide_eq_false_iff_not, Bool.not_eq_true', Bool.not_eq_false', Bool.not_eq_true, Bool.not_eq_false, Bool.and_eq_true, Bool.or_eq_true, Bool.and_eq_false_iff, Bool.or_eq_false_iff, Bool.not_not, ne_eq, Int.not_lt, Int.not_le, Decidable.not_not, beq_iff_eq, bne_iff_ne] at hc12
                        refine c_seq ?_
                        refine c_region ?_
                        refine wl (wl_val hl rfl trivial (r_eql hl rfl rfl) ?_)
                        clear hl a; intro a hl
                        refine wl (wl_val hl rfl trivial (r_assign hl rfl) ?_)
                        clear hl a; intro a hl
                        refine w_nil ?_
                        have hl2 := hl.add (t := 0) (hl.add (t := 2) (hl.add (t := 4) (hl.add (t := 7) (hl.add (t := 18) (hl.add (t := 130) (hl.nil) rfl) rfl) rfl) rfl) rfl) rfl; clear hl; have hl := hl2; clear hl2
                        refine then_normal ?_
                        refine c_cond hl rfl ?_ ?_
                        · intro hc14
                          try simp only [decide_eq_true_eq, decide_eq_false_iff_not, Bool.not_eq_true', Bool.not_eq_false', Bool.not_eq_true, Bool.not_eq_false, Bool.and_eq_true, Bool.or_eq_true, Bool.and_eq_false_iff, Bool.or_eq_false_iff, Bool.not_not, ne_eq, Int.not_lt, Int.not_le, Decidable.not_not, beq_iff_eq, bne_iff_ne] at hc14
                          exfalso; first | contradiction | omega
                        · intro hc14
                          try simp only [decide_eq_true_eq, decide_eq_false_iff_not, Bool.not_eq_true', Bool.not_eq_false', Bool.not_eq_true, Bool.not_eq_false, Bool.and_eq_true, Bool.or_eq_true, Bool.and_eq_false_iff, Bool.or_eq_false_iff, Bool.not_not, ne_eq, Int.not_lt, Int.not_le, Decidable.not_not, beq_iff_eq, bne_iff_ne] at hc14
                          refine c_seq ?_
                          refine c_region ?_
                          refine wl (wl_val hl rfl trivial (r_eql hl rfl rfl) ?_)
                          clear hl a; intro a hl
                          refine wl (wl_val hl rfl trivial (r_assign hl rfl) ?_)
                          clear hl a; intro a hl
                          refine w_nil ?_
                          have hl2 := hl.add (t := 0) (hl.add (t := 2) (hl.add (t := 4) (hl.add (t := 18) (hl.add (t := 152) (hl.nil) rfl) rfl) rfl) rfl) rfl; clear hl; have hl := hl2; clear hl2
                          refine then_normal ?_
                          refine c_cond hl rfl ?_ ?_
                          · intro hc16
                            try simp only [decide_eq_true_eq, decide_eq_false_iff_not, Bool.not_eq_true', Bool.not_eq_false', Bool.not_eq_true, Bool.not_eq_false, Bool.and_eq_true, Bool.or_eq_true, Bool.and_eq_false_iff, Bool.or_eq_false_iff, Bool.not_not, ne_eq, Int.not_lt, Int.not_le, Decidable.not_not, beq_iff_eq, bne_iff_ne] at hc16
                            exfalso; first | contradiction | omega
                          · intro hc16
                            try simp only [decide_eq_true_eq, decide_eq_false_iff_not, Bool.not_eq_true', Bool.not_eq_false', Bool.not_eq_true, Bool.not_eq_false, Bool.and_eq_true, Bool.or_eq_true, Bool.and_eq_false_iff, Bool.or_eq_false_iff, Bool.not_not, ne_eq, Int.not_lt, Int.not_le, Decidable.not_not, beq_iff_eq, bne_iff_ne] at hc16
                            refine c_seq ?_
                            refine c_region ?_
                            refine wl (wl_val hl rfl trivial (r_eql hl rfl rfl) ?_)
                            clear hl a; intro a hl
                            refine wl (wl_val hl rfl trivial (r_assign hl rfl) ?_)
                            clear hl a; intro a hl
                            refine w_nil ?_
                            have hl2 := hl.add (t := 0) (hl.add (t := 2) (hl.add (t := 4) (hl.add (t := 18) (hl.add (t := 157) (hl.nil) rfl) rfl) rfl) rfl) rfl; clear hl; have hl := hl2; clear hl2
                            refine then_normal ?_
                            refine c_cond hl rfl ?_ ?_
                            · intro hc17
                              try simp only [decide_eq_true_eq, decide_eq_false_iff_not, Bool.not_eq_true', Bool.not_eq_false', Bool.not_eq_true, Bool.not_eq_false, Bool.and_eq_true, Bool.or_eq_true, Bool.and_eq_false_iff, Bool.or_eq_false_iff, Bool.not_not, ne_eq, Int.not_lt, Int.not_le, Decidable.not_not, beq_iff_eq, bne_iff_ne] at hc17
                              exfalso; first | contradiction | omega
                            · intro hc17
                              try simp only [decide_eq_true_eq, decide_eq_false_iff_not, Bool.not_eq_true', Bool.not_eq_false', Bool.not_eq_true, Bool.not_eq_false, Bool.and_eq_true, Bool.or_eq_true, Bool.and_eq_false_iff, Bool.or_eq_false_iff, Bool.not_not, ne_eq, Int.not_lt, Int.not_le, Decidable.not_not, beq_iff_eq, bne_iff_ne] at hc17
                              refine c_seq ?_
                              refine c_region ?_
                              refine wl (wl_val hl rfl trivial (r_eql hl rfl rfl) ?_)
                              clear hl a; intro a hl
                              refine wl (wl_val hl rfl trivial (r_assign hl rfl) ?_)
                              clear hl a; intro a hl
                              refine w_nil ?_
                              have hl2 := hl.add (t := 0) (hl.add (t := 2) (hl.add (t := 4) (hl.add (t := 18) (hl.add (t := 170) (hl.nil) rfl) rfl) rfl) rfl) rfl; clear hl; have hl := hl2; clear hl2
                              refine then_normal ?_
                              refine c_cond hl rfl ?_ ?_
                              · intro hc19
                                try simp only [decide_eq_true_eq, decide_eq_false_iff_not, Bool.not_eq_true', Bool.not_eq_false', Bool.not_eq_true, Bool.not_eq_false, Bool.and_eq_true, Bool.or_eq_true, Bool.and_eq_false_iff, Bool.or_eq_false_iff, Bool.not_not, ne_eq, Int.not_lt, Int.not_le, Decidable.not_not, beq_iff_eq, bne_iff_ne] at hc19
                                exfalso; first | contradiction | omega
                              · intro hc19
                                try simp only [decide_eq_true_eq, decide_eq_false_iff_not, Bool.not_eq_true', Bool.not_eq_false', Bool.not_eq_true, Bool.not_eq_false, Bool.and_eq_true, Bool.or_eq_true, Bool.and_eq_false_iff, Bool.or_eq_false_iff, Bool.not_not, ne_eq, Int.not_lt, Int.not_le, Decidable.not_not, beq_iff_eq, bne_iff_ne] at hc19
                                refine c_seq ?_
                                refine c_region ?_
                                refine wl (wl_val hl rfl trivial (r_eql hl rfl rfl) ?_)
                                clear hl a; intro a hl
                                refine wl (wl_val hl rfl trivial (r_assign hl rfl) ?_)
                                clear hl a; intro a hl
                                refine w_nil ?_
                                have hl2 := hl.add (t := 0) (hl.add (t := 2) (hl.add (t := 4) (hl.add (t := 18) (hl.add (t := 185) (hl.nil) rfl) rfl) rfl) rfl) rfl; clear hl; have hl := hl2; clear hl2
                                refine then_normal ?_
                                refine c_cond hl rfl ?_ ?_
                                · intro hc20
                                  try simp only [decide_eq_true_eq, decide_eq_false_iff_not, Bool.not_eq_true', Bool.not_eq_false', Bool.not_eq_true, Bool.not_eq_false, Bool.and_eq_true, Bool.or_eq_true, Bool.and_eq_false_iff, Bool.or_eq_false_iff, Bool.not_not, ne_eq, Int.not_lt, Int.not_le, Decidable.not_not, beq_iff_eq, bne_iff_ne] at hc20
                                  exfalso; first | contradiction | omega
                                · intro hc20
                                  try simp only [decide_eq_true_eq, decide_eq_false_iff_not, Bool.not_eq_true', Bool.not_eq_false', Bool.not_eq_true, Bool.not_eq_false, Bool.and_eq_true, Bool.or_eq_true, Bool.and_eq_false_iff, Bool.or_eq_false_iff, Bool.not_not, ne_eq, Int.not_lt, Int.not_le, Decidable.not_not, beq_iff_eq, bne_iff_ne] at hc20
                                  refine c_seq ?_
                                  refine c_region ?_
                                  refine wl (wl_val hl rfl trivial (r_eql hl rfl rfl) ?_)
                                  clear hl a; intro a hl
                                  refine wl (wl_val hl rfl trivial (r_assign hl rfl) ?_)
                                  clear hl a; intro a hl
                                  refine w_nil ?_
                                  have hl2 := hl.add (t := 0) (hl.add (t := 2) (hl.add (t := 4) (hl.add (t := 18) (hl.add (t := 200) (hl.nil) rfl) rfl) rfl) rfl) rfl; clear hl; have hl := hl2; clear hl2
                                  refine then_normal ?_
                                  refine c_cond hl rfl ?_ ?_
                                  · intro hc21
                                    try simp only [decide_eq_true_eq, decide_eq_false_iff_not, Bool.not_eq_true', Bool.not_eq_false', Bool.not_eq_true, Bool.not_eq_false, Bool.and_eq_true, Bool.or_eq_true, Bool.and_eq_false_iff, Bool.or_eq_false_iff, Bool.not_not, ne_eq, Int.not_lt, Int.not_le, Decidable.not_not, beq_iff_eq, bne_iff_ne] at hc21
                                    exfalso; first | contradiction | omega
                                  · intro hc21
                                    try simp only [decide_eq_true_eq, decide_eq_false_iff_not, Bool.not_eq_true', Bool.not_eq_false', Bool.not_eq_true, Bool.not_eq_false, Bool.and_eq_true, Bool.or_eq_true, Bool.and_eq_false_iff, Bool.or_eq_false_iff, Bool.not_not, ne_eq, Int.not_lt, Int.not_le, Decidable.not_not, beq_iff_eq, bne_iff_ne] at hc21
                                    refine c_seq ?_
                                    refine c_region ?_
                                    refine wl (wl_val hl rfl trivial (r_eql hl rfl rfl) ?_)
                                    clear hl a; intro a hl
                                    refine wl (wl_val hl rfl trivial (r_assign hl rfl) ?_)
                                    clear hl a; intro a hl
                                    refine w_nil ?_
                                    have hl2 := hl.add (t := 0) (hl.add (t := 2) (hl.add (t := 213) (hl.nil) rfl) rfl) rfl; clear hl; have hl := hl2; clear hl2
                                    refine then_normal ?_
                                    refine c_cond hl rfl ?_ ?_
                                    · intro hc22
                                      try simp only [decide_eq_true_eq, decide_eq_false_iff_not, Bool.not_eq_true', Bool.not_eq_false', Bool.not_eq_true, Bool.not_eq_false, Bool.and_eq_true, Bool.or_eq_true, Bool.and_eq_false_iff, Bool.or_eq_false_iff, Bool.not_not, ne_eq, Int.not_lt, Int.not_le, Decidable.not_not, beq_iff_eq, bne_iff_ne] at hc22
                                      refine c_seq ?_
                                      refine c_region ?_
                                      refine wl (wl_val hl rfl trivial (r_move hl rfl) ?_)
                                      clear hl a; intro a hl
                                      refine wl (wl_val hl rfl trivial (r_nilCheck hl rfl) ?_)
                                      clear hl a; intro a hl
                                      refine wl (wl_val hl rfl trivial (r_field hl rfl fld55_0) ?_)
                                      clear hl a; intro a hl
                                      refine wl (w_load hl hh rfl trivial one48 rfl (by repeat (first | exact find_head | apply find_tail | apply find_skip)) (by first | exact hct | exact hcr | exact hch | exact hcl | rfl) ?_)
                                      clear hl a; intro a hl
                                      refine wl (w_call hl hh rfl trivial rfl cal26 rfl (crash_spec Z W.lb W.l hW.l) (by repeat (first | exact keeps_nil | apply keeps_cons (by repeat (first | exact find_head | apply find_tail | apply find_skip)) (by first  | rfl) | exact keeps_self | exact keeps_left | apply keeps_app | apply keeps_mv | apply keeps_skip)) trivial ?_)
                                      clear hl hh a w; intro vc Fc a w hR hl hh
                                      obtain ⟨rfl, rfl⟩ := hR
                                      try simp only [List.cons_append, List.nil_append, List.append_assoc, List.append_nil] at hh
                                      simp only [LdV.F, List.cons_append] at hh
                                      refine w_nil ?_
                                      have hl2 := hl.add (t := 0) (hl.add (t := 2) (hl.nil) rfl) rfl; clear hl; have hl := hl2; clear hl2
                                      refine then_normal ?_
                                      refine c_seq ?_
                                      refine c_region ?_
                                      refine wl (wl_val hl rfl trivial (r_move hl rfl) ?_)
                                      clear hl a; intro a hl
                                      refine wl (wl_val hl rfl trivial (r_nilCheck hl rfl) ?_)
                                      clear hl a; intro a hl
                                      refine wl (wl_val hl rfl trivial (r_field hl rfl fld55_1) ?_)
                                      clear hl a; intro a hl
                                      refine wl (w_store hl hh trivial one50 rfl rfl (by repeat (first | exact find_head | apply find_tail | apply find_skip)) (by first | (simp; done) | (simp; omega) | (rw [hwl]; omega) | (rw [hwl]; simp; done)) (by first | rfl | assumption | (apply Row.one; assumption)) (by first | exact wc_sg _ none | (simp only [setL, List.getElem?_cons_zero, List.getElem?_cons_succ, Value.cells, List.take_zero, List.take_succ_cons, List.take_nil, List.drop_zero, List.drop_succ_cons, List.drop_nil, List.length_cons, List.length_nil, List.cons_append, List.nil_append, List.append_nil, Nat.zero_add, Nat.add_zero, Nat.reduceAdd, Nat.reduceBEq, Nat.reduceEqDiff, Nat.ble, BEq.rfl, Bool.and_true, Bool.and_self, cond_true, beq_self_eq_true]; rfl)) ?_)
                                      clear hh w; intro w hh
                                      refine w_nil ?_
                                      have hl2 := hl.add (t := 2) (hl.nil) rfl; clear hl; have hl := hl2; clear hl2
                                      refine then_normal ?_
                                      refine c_region ?_
                                      refine wl (wl_val hl rfl trivial (r_move hl rfl) ?_)
                                      clear hl a; intro a hl
                                      refine wl (w_callP hl hh rfl trivial rfl L.dfell rfl (L.fell Z x Fx hMx) (by repeat (first | exact keeps_nil | apply keeps_cons (by repeat (first | exact find_head | apply find_tail | apply find_skip)) (by first  | rfl) | exact keeps_self | exact keeps_left | apply keeps_app | apply keeps_mv | apply keeps_skip)) trivial ?_)
                                      clear hl hh a w; intro vc Fc a w hR hl hh
                                      obtain ⟨rfl, hM3⟩ := hR
                                      try simp only [List.cons_append, List.nil_append, List.append_assoc, List.append_nil] at hh
                                      generalize Fc = F3 at hh hM3
                                      try simp only [List.append_assoc, List.cons_append, List.nil_append] at hh
                                      refine w_nil ?_
                                      have hl2 := hl.nil; clear hl; have hl := hl2; clear hl2
                                      refine blk_normal ?_
                                      refine then_normal ?_
                                      refine c_seq ?_
                                      refine c_region ?_
                                      refine wl (wl_val hl rfl trivial (r_assign hl rfl) ?_)
                                      clear hl a; intro a hl
                                      refine w_nil ?_
                                      have hl2 := hl.add (t := 6) (hl.nil) rfl; clear hl; have hl := hl2; clear hl2
                                      refine then_normal ?_
                                      refine wp_ret ?_
                                      refine f_ret1 (F' := F3 ++ ((wb, C (WoV.c { W with g := none }) 55) :: (W.tE ++ (W.gE ++ (DsF W.ds ++ ((W.lb, C (LdV.c (⟨W.l.d, true, W.l.fl, 0, W.l.kp⟩ : LdV)) 91) :: (W.l.d.E ++ Z))))))) hl hh rfl rfl (by repeat (first | exact keeps_nil | apply keeps_cons (by repeat (first | exact find_head | apply find_tail | apply find_skip)) (by first  | rfl) | exact keeps_self | exact keeps_left | apply keeps_app | apply keeps_mv | apply keeps_skip)) ?_
                                      refine StepO.same (W' := { W with l := (⟨W.l.d, true, W.l.fl, 0, W.l.kp⟩ : LdV), g := none }) (dead_ok hW ⟨hW.l.d, by simp⟩) (Q.crash hJ) (hn.dead rfl) hM3 ?_
                                      unfold WoV.F
                                      rw [show WoV.c { W with l := (⟨W.l.d, true, W.l.fl, 0, W.l.kp⟩ : LdV), g := none } = WoV.c { W with g := none } from wc_same rfl rfl rfl rfl]
                                      rfl
                                    · intro hc22
                                      try simp only [decide_eq_true_eq, decide_eq_false_iff_not, Bool.not_eq_true', Bool.not_eq_false', Bool.not_eq_true, Bool.not_eq_false, Bool.and_eq_true, Bool.or_eq_true, Bool.and_eq_false_iff, Bool.or_eq_false_iff, Bool.not_not, ne_eq, Int.not_lt, Int.not_le, Decidable.not_not, beq_iff_eq, bne_iff_ne] at hc22
                                      exfalso; first | contradiction | omega
  · intro hc0
    try simp only [decide_eq_true_eq, decide_eq_false_iff_not, Bool.not_eq_true', Bool.not_eq_false', Bool.not_eq_true, Bool.not_eq_false, Bool.and_eq_true, Bool.or_eq_true, Bool.and_eq_false_iff, Bool.or_eq_false_iff, Bool.not_not, ne_eq, Int.not_lt, Int.not_le, Decidable.not_not, beq_iff_eq, bne_iff_ne] at hc0
    refine wp_skip ?_
    refine then_normal ?_
    refine c_seq ?_
    refine c_seq ?_
    refine c_region ?_
    refine wl (wl_val hl rfl trivial (r_field hl rfl fld45_0) ?_)
    clear hl a; intro a hl
    refine wl (w_load hl hh rfl trivial one33 rfl (by repeat (first | exact find_head | apply find_tail | apply find_skip)) (by first | exact hct | exact hcr | exact hch | exact hcl | rfl) ?_)
    clear hl a; intro a hl
    refine w_nil ?_
    have hl2 := hl.add (t := 0) (hl.add (t := 2) (hl.add (t := 4) (hl.add (t := 7) (hl.add (t := 18) (hl.nil) rfl) rfl) rfl) rfl) rfl; clear hl; have hl := hl2; clear hl2
    refine then_normal ?_
    refine wp_block ?_
    refine c_seq ?_
    refine c_region ?_
    refine wl (wl_val hl rfl trivial (r_eql hl rfl rfl) ?_)
    clear hl a; intro a hl
    refine wl (wl_val hl rfl trivial (r_assign hl rfl) ?_)
    clear hl a; intro a hl
    refine w_nil ?_
    have hl2 := hl.add (t := 0) (hl.add (t := 2) (hl.add (t := 4) (hl.add (t := 7) (hl.add (t := 18) (hl.add (t := 19) (hl.nil) rfl) rfl) rfl) rfl) rfl) rfl; clear hl; have hl := hl2; clear hl2
    refine then_normal ?_
    refine c_cond hl rfl ?_ ?_
    · intro hc1
      try simp only [decide_eq_true_eq, decide_eq_false_iff_not, Bool.not_eq_true', Bool.not_eq_false', Bool.not_eq_true, Bool.not_eq_false, Bool.and_eq_true, Bool.or_eq_true, Bool.and_eq_false_iff, Bool.or_eq_false_iff, Bool.not_not, ne_eq, Int.not_lt, Int.not_le, Decidable.not_not, beq_iff_eq, bne_iff_ne] at hc1
      exfalso; first | contradiction | omega
    · intro hc1
      try simp only [decide_eq_true_eq, decide_eq_false_iff_not, Bool.not_eq_true', Bool.not_eq_false', Bool.not_eq_true, Bool.not_eq_false, Bool.and_eq_true, Bool.or_eq_true, Bool.and_eq_false_iff, Bool.or_eq_false_iff, Bool.not_not, ne_eq, Int.not_lt, Int.not_le, Decidable.not_not, beq_iff_eq, bne_iff_ne] at hc1
      refine c_seq ?_
      refine c_seq ?_
      refine c_region ?_
      refine wl (wl_val hl rfl trivial (r_eql hl rfl rfl) ?_)
      clear hl a; intro a hl
      refine wl (wl_val hl rfl trivial (r_assign hl rfl) ?_)
      clear hl a; intro a hl
      refine w_nil ?_
      have hl2 := hl.add (t := 0) (hl.add (t := 2) (hl.add (t := 4) (hl.add (t := 7) (hl.add (t := 18) (hl.add (t := 27) (hl.nil) rfl) rfl) rfl) rfl) rfl) rfl; clear hl; have hl := hl2; clear hl2
      refine then_normal ?_
      refine c_cond hl rfl ?_ ?_
      · intro hc2
        try simp only [decide_eq_true_eq, decide_eq_false_iff_not, Bool.not_eq_true', Bool.not_eq_false', Bool.not_eq_true, Bool.not_eq_false, Bool.and_eq_true, Bool.or_eq_true, Bool.and_eq_false_iff, Bool.or_eq_false_iff, Bool.not_not, ne_eq, Int.not_lt, Int.not_le, Decidable.not_not, beq_iff_eq, bne_iff_ne] at hc2
        exfalso; first | contradiction | omega
      · intro hc2
        try simp only [decide_eq_true_eq, decide_eq_false_iff_not, Bool.not_eq_true', Bool.not_eq_false', Bool.not_eq_true, Bool.not_eq_false, Bool.and_eq_true, Bool.or_eq_true, Bool.and_eq_false_iff, Bool.or_eq_false_iff, Bool.not_not, ne_eq, Int.not_lt, Int.not_le, Decidable.not_not, beq_iff_eq, bne_iff_ne] at hc2
        refine c_region ?_
        refine wl (wl_val hl rfl trivial (r_eql hl rfl rfl) ?_)
        clear hl a; intro a hl
        refine wl (wl_val hl rfl trivial (r_assign hl rfl) ?_)
        clear hl a; intro a hl
        refine w_nil ?_
        have hl2 := hl.add (t := 0) (hl.add (t := 2) (hl.add (t := 4) (hl.add (t := 7) (hl.add (t := 18) (hl.add (t := 27) (hl.nil) rfl) rfl) rfl) rfl) rfl) rfl; clear hl; have hl := hl2; clear hl2
        refine then_normal ?_
        refine c_cond hl rfl ?_ ?_
        · intro hc3
          try simp only [decide_eq_true_eq, decide_eq_false_iff_not, Bool.not_eq_true', Bool.not_eq_false', Bool.not_eq_true, Bool.not_eq_false, Bool.and_eq_true, Bool.or_eq_true, Bool.and_eq_false_iff, Bool.or_eq_false_iff, Bool.not_not, ne_eq, Int.not_lt, Int.not_le, Decidable.not_not, beq_iff_eq, bne_iff_ne] at hc3
          exfalso; first | contradiction | omega
        · intro hc3
          try simp only [decide_eq_true_eq, decide_eq_false_iff_not, Bool.not_eq_true', Bool.not_eq_false', Bool.not_eq_true, Bool.not_eq_false, Bool.and_eq_true, Bool.or_eq_true, Bool.and_eq_false_iff, Bool.or_eq_false_iff, Bool.not_not, ne_eq, Int.not_lt, Int.not_le, Decidable.not_not, beq_iff_eq, bne_iff_ne] at hc3
          refine c_seq ?_
          refine c_seq ?_
          refine c_region ?_
          refine wl (wl_val hl rfl trivial (r_eql hl rfl rfl) ?_)
          clear hl a; intro a hl
          refine wl (wl_val hl rfl trivial (r_assign hl rfl) ?_)
          clear hl a; intro a hl
          refine w_nil ?_
          have hl2 := hl.add (t := 0) (hl.add (t := 2) (hl.add (t := 4) (hl.add (t := 7) (hl.add (t := 18) (hl.add (t := 39) (hl.nil) rfl) rfl) rfl) rfl) rfl) rfl; clear hl; have hl := hl2; clear hl2
          refine then_normal ?_
          refine c_cond hl rfl ?_ ?_
          · intro hc4
            try simp only [decide_eq_true_eq, decide_eq_false_iff_not, Bool.not_eq_true', Bool.not_eq_false', Bool.not_eq_true, Bool.not_eq_false, Bool.and_eq_true, Bool.or_eq_true, Bool.and_eq_false_iff, Bool.or_eq_false_iff, Bool.not_not, ne_eq, Int.not_lt, Int.not_le, Decidable.not_not, beq_iff_eq, bne_iff_ne] at hc4
            exfalso; first | contradiction | omega
          · intro hc4
            try simp only [decide_eq_true_eq, decide_eq_false_iff_not, Bool.not_eq_true', Bool.not_eq_false', Bool.not_eq_true, Bool.not_eq_false, Bool.and_eq_true, Bool.or_eq_true, Bool.and_eq_false_iff, Bool.or_eq_false_iff, Bool.not_not, ne_eq, Int.not_lt, Int.not_le, Decidable.not_not, beq_iff_eq, bne_iff_ne] at hc4
            refine c_region ?_
            refine wl (wl_val hl rfl trivial (r_eql hl rfl rfl) ?_)
            clear hl a; intro a hl
            refine wl (wl_val hl rfl trivial (r_assign hl rfl) ?_)
            clear hl a; intro a hl
            refine w_nil ?_
            have hl2 := hl.add (t := 0) (hl.add (t := 2) (hl.add (t := 4) (hl.add (t := 7) (hl.add (t := 18) (hl.add (t := 39) (hl.nil) rfl) rfl) rfl) rfl) rfl) rfl; clear hl; have hl := hl2; clear hl2
            refine then_normal ?_
            refine c_cond hl rfl ?_ ?_
            · intro hc5
              try simp only [decide_eq_true_eq, decide_eq_false_iff_not, Bool.not_eq_true', Bool.not_eq_false', Bool.not_eq_true, Bool.not_eq_false, Bool.and_eq_true, Bool.or_eq_true, Bool.and_eq_false_iff, Bool.or_eq_false_iff, Bool.not_not, ne_eq, Int.not_lt, Int.not_le, Decidable.not_not, beq_iff_eq, bne_iff_ne] at hc5
              exfalso; first | contradiction | omega
            · intro hc5
              try simp only [decide_eq_true_eq, decide_eq_false_iff_not, Bool.not_eq_true', Bool.not_eq_false', Bool.not_eq_true, Bool.not_eq_false, Bool.and_eq_true, Bool.or_eq_true, Bool.and_eq_false_iff, Bool.or_eq_false_iff, Bool.not_not, ne_eq, Int.not_lt, Int.not_le, Decidable.not_not, beq_iff_eq, bne_iff_ne] at hc5
              refine c_seq ?_
              refine c_region ?_
              refine wl (wl_val hl rfl trivial (r_eql hl rfl rfl) ?_)
              clear hl a; intro a hl
              refine wl (wl_val hl rfl trivial (r_assign hl rfl) ?_)
              clear hl a; intro a hl
              refine w_nil ?_
              have hl2 := hl.add (t := 0) (hl.add (t := 2) (hl.add (t := 4) (hl.add (t := 7) (hl.add (t := 18) (hl.add (t := 50) (hl.nil) rfl) rfl) rfl) rfl) rfl) rfl; clear hl; have hl := hl2; clear hl2
              refine then_normal ?_
              refine c_cond hl rfl ?_ ?_
              · intro hc6
                try simp only [decide_eq_true_eq, decide_eq_false_iff_not, Bool.not_eq_true', Bool.not_eq_false', Bool.not_eq_true, Bool.not_eq_false, Bool.and_eq_true, Bool.or_eq_true, Bool.and_eq_false_iff, Bool.or_eq_false_iff, Bool.not_not, ne_eq, Int.not_lt, Int.not_le, Decidable.not_not, beq_iff_eq, bne_iff_ne] at hc6
                exfalso; first | contradiction | omega
              · intro hc6
                try simp only [decide_eq_true_eq, decide_eq_false_iff_not, Bool.not_eq_true', Bool.not_eq_false', Bool.not_eq_true, Bool.not_eq_false, Bool.and_eq_true, Bool.or_eq_true, Bool.and_eq_false_iff, Bool.or_eq_false_iff, Bool.not_not, ne_eq, Int.not_lt, Int.not_le, Decidable.not_not, beq_iff_eq, bne_iff_ne] at hc6
                refine c_seq ?_
                refine c_region ?_
                refine wl (wl_val hl rfl trivial (r_eql hl rfl rfl) ?_)
                clear hl a; intro a hl
                refine wl (wl_val hl rfl trivial (r_assign hl rfl) ?_)
                clear hl a; intro a hl
                refine w_nil ?_
                have hl2 := hl.add (t := 0) (hl.add (t := 2) (hl.add (t := 4) (hl.add (t := 7) (hl.add (t := 18) (hl.add (t := 62) (hl.nil) rfl) rfl) rfl) rfl) rfl) rfl; clear hl; have hl := hl2; clear hl2
                refine then_normal ?_
                refine c_cond hl rfl ?_ ?_
                · intro hc7
                  try simp only [decide_eq_true_eq, decide_eq_false_iff_not, Bool.not_eq_true', Bool.not_eq_false', Bool.not_eq_true, Bool.not_eq_false, Bool.and_eq_true, Bool.or_eq_true, Bool.and_eq_false_iff, Bool.or_eq_false_iff, Bool.not_not, ne_eq, Int.not_lt, Int.not_le, Decidable.not_not, beq_iff_eq, bne_iff_ne] at hc7
                  exfalso; first | contradiction | omega
                · intro hc7
                  try simp only [decide_eq_true_eq, decide_eq_false_iff_not, Bool.not_eq_true', Bool.not_eq_false', Bool.not_eq_true, Bool.not_eq_false, Bool.and_eq_true, Bool.or_eq_true, Bool.and_eq_false_iff, Bool.or_eq_false_iff, Bool.not_not, ne_eq, Int.not_lt, Int.not_le, Decidable.not_not, beq_iff_eq, bne_iff_ne] at hc7
                  refine c_seq ?_
                  refine c_region ?_
                  refine wl (wl_val hl rfl trivial (r_eql hl rfl rfl) ?_)
                  clear hl a; intro a hl
                  refine wl (wl_val hl rfl trivial (r_assign hl rfl) ?_)
                  clear hl a; intro a hl
                  refine w_nil ?_
                  have hl2 := hl.add (t := 0) (hl.add (t := 2) (hl.add (t := 4) (hl.add (t := 7) (hl.add (t := 18) (hl.add (t := 68) (hl.nil) rfl) rfl) rfl) rfl) rfl) rfl; clear hl; have hl := hl2; clear hl2
                  refine then_normal ?_
                  refine c_cond hl rfl ?_ ?_
                  · intro hc8
                    try simp only [decide_eq_true_eq, decide_eq_false_iff_not, Bool.not_eq_true', Bool.not_eq_false', Bool.not_eq_true, Bool.not_eq_false, Bool.and_eq_true, Bool.or_eq_true, Bool.and_eq_false_iff, Bool.or_eq_false_iff, Bool.not_not, ne_eq, Int.not_lt, Int.not_le, Decidable.not_not, beq_iff_eq, bne_iff_ne] at hc8
                    exfalso; first | contradiction | omega
                  · intro hc8
                    try simp only [decide_eq_true_eq, decide_eq_false_iff_not, Bool.not_eq_true', Bool.not_eq_false', Bool.not_eq_true, Bool.not_eq_false, Bool.and_eq_true, Bool.or_eq_true, Bool.and_eq_false_iff, Bool.or_eq_false_iff, Bool.not_not, ne_eq, Int.not_lt, Int.not_le, Decidable.not_not, beq_iff_eq, bne_iff_ne] at hc8
                    refine c_seq ?_
                    refine c_region ?_
                    refine wl (wl_val hl rfl trivial (r_eql hl rfl rfl) ?_)
                    clear hl a; intro a hl
                    refine wl (wl_val hl rfl trivial (r_assign hl rfl) ?_)
                    clear hl a; intro a hl
                    refine w_nil ?_
                    have hl2 := hl.add (t := 0) (hl.add (t := 2) (hl.add (t := 4) (hl.add (t := 7) (hl.add (t := 18) (hl.add (t := 90) (hl.nil) rfl) rfl) rfl) rfl) rfl) rfl; clear hl; have hl := hl2; clear hl2
                    refine then_normal ?_
                    refine c_cond hl rfl ?_ ?_
                    · intro hc10
                      try simp only [decide_eq_true_eq, decide_eq_false_iff_not, Bool.not_eq_true', Bool.not_eq_false', Bool.not_eq_true, Bool.not_eq_false, Bool.and_eq_true, Bool.or_eq_true, Bool.and_eq_false_iff, Bool.or_eq_false_iff, Bool.not_not, ne_eq, Int.not_lt, Int.not_le, Decidable.not_not, beq_iff_eq, bne_iff_ne] at hc10
                      exfalso; first | contradiction | omega
                    · intro hc10
                      try simp only [decide_eq_true_eq, decide_eq_false_iff_not, Bool.not_eq_true', Bool.not_eq_false', Bool.not_eq_true, Bool.not_eq_false, Bool.and_eq_true, Bool.or_eq_true, Bool.and_eq_false_iff, Bool.or_eq_false_iff, Bool.not_not, ne_eq, Int.not_lt, Int.not_le, Decidable.not_not, beq_iff_eq, bne_iff_ne] at hc10
                      refine c_seq ?_
                      refine c_region ?_
                      refine wl (wl_val hl rfl trivial (r_eql hl rfl rfl) ?_)
                      clear hl a; intro a hl
                      refine wl (wl_val hl rfl trivial (r_assign hl rfl) ?_)
                      clear hl a; intro a hl
                      refine w_nil ?_
                      have hl2 := hl.add (t := 0) (hl.add (t := 2) (hl.add (t := 4) (hl.add (t := 7) (hl.add (t := 18) (hl.add (t := 114) (hl.nil) rfl) rfl) rfl) rfl) rfl) rfl; clear hl; have hl := hl2; clear hl2
                      refine then_normal ?_
                      refine c_cond hl rfl ?_ ?_
                      · intro hc12
                        try simp only [decide_eq_true_eq, decide_eq_false_iff_not, Bool.not_eq_true', Bool.not_eq_false', Bool.not_eq_true, Bool.not_eq_false, Bool.and_eq_true, Bool.or_eq_true, Bool.and_eq_false_iff, Bool.or_eq_false_iff, Bool.not_not, ne_eq, Int.not_lt, Int.not_le, Decidable.not_not, beq_iff_eq, bne_iff_ne] at hc12
                        exfalso; first | contradiction | omega
                      · intro hc12
                        try simp only [decide_eq_true_eq, decide_eq_false_iff_not, Bool.not_eq_true', Bool.not_eq_false', Bool.not_eq_true, Bool.not_eq_false, Bool.and_eq_true, Bool.or_eq_true, Bool.and_eq_false_iff, Bool.or_eq_false_iff, Bool.not_not, ne_eq, Int.not_lt, Int.not_le, Decidable.not_not, beq_iff_eq, bne_iff_ne] at hc12
                        refine c_seq ?_
                        refine c_region ?_
                        refine wl (wl_val hl rfl trivial (r_eql hl rfl rfl) ?_)
                        clear hl a; intro a hl
                        refine wl (wl_val hl rfl trivial (r_assign hl rfl) ?_)
                        clear hl a; intro a hl
                        refine w_nil ?_
                        have hl2 := hl.add (t := 0) (hl.add (t := 2) (hl.add (t := 4) (hl.add (t := 7) (hl.add (t := 18) (hl.add (t := 130) (hl.nil) rfl) rfl) rfl) rfl) rfl) rfl; clear hl; have hl := hl2; clear hl2
                        refine then_normal ?_
                        refine c_cond hl rfl ?_ ?_
                        · intro hc14
                          try simp only [decide_eq_true_eq, decide_eq_false_iff_not, Bool.not_eq_true', Bool.not_eq_false', Bool.not_eq_true, Bool.not_eq_false, Bool.and_eq_true, Bool.or_eq_true, Bool.and_eq_false_iff, Bool.or_eq_false_iff, Bool.not_not, ne_eq, Int.not_lt, Int.not_le, Decidable.not_not, beq_iff_eq, bne_iff_ne] at hc14
                          exfalso; first | contradiction | omega
                        · intro hc14
                          try simp only [decide_eq_true_eq, decide_eq_false_iff_not, Bool.not_eq_true', Bool.not_eq_false', Bool.not_eq_true, Bool.not_eq_false, Bool.and_eq_true, Bool.or_eq_true, Bool.and_eq_false_iff, Bool.or_eq_false_iff, Bool.not_not, ne_eq, Int.not_lt, Int.not_le, Decidable.not_not, beq_iff_eq, bne_iff_ne] at hc14
                          refine c_seq ?_
                          refine c_region ?_
                          refine wl (wl_val hl rfl trivial (r_eql hl rfl rfl) ?_)
                          clear hl a; intro a hl
                          refine wl (wl_val hl rfl trivial (r_assign hl rfl) ?_)
                          clear hl a; intro a hl
                          refine w_nil ?_
                          have hl2 := hl.add (t := 0) (hl.add (t := 2) (hl.add (t := 4) (hl.add (t := 18) (hl.add (t := 152) (hl.nil) rfl) rfl) rfl) rfl) rfl; clear hl; have hl := hl2; clear hl2
                          refine then_normal ?_
                          refine c_cond hl rfl ?_ ?_
                          · intro hc16
                            try simp only [decide_eq_true_eq, decide_eq_false_iff_not, Bool.not_eq_true', Bool.not_eq_false', Bool.not_eq_true, Bool.not_eq_false, Bool.and_eq_true, Bool.or_eq_true, Bool.and_eq_false_iff, Bool.or_eq_false_iff, Bool.not_not, ne_eq, Int.not_lt, Int.not_le, Decidable.not_not, beq_iff_eq, bne_iff_ne] at hc16
                            exfalso; first | contradiction | omega
                          · intro hc16
                            try simp only [decide_eq_true_eq, decide_eq_false_iff_not, Bool.not_eq_true', Bool.not_eq_false', Bool.not_eq_true, Bool.not_eq_false, Bool.and_eq_true, Bool.or_eq_true, Bool.and_eq_false_iff, Bool.or_eq_false_iff, Bool.not_not, ne_eq, Int.not_lt, Int.not_le, Decidable.not_not, beq_iff_eq, bne_iff_ne] at hc16
                            refine c_seq ?_
                            refine c_region ?_
                            refine wl (wl_val hl rfl trivial (r_eql hl rfl rfl) ?_)
                            clear hl a; intro a hl
                            refine wl (wl_val hl rfl trivial (r_assign hl rfl) ?_)
                            clear hl a; intro a hl
                            refine w_nil ?_
                            have hl2 := hl.add (t := 0) (hl.add (t := 2) (hl.add (t := 4) (hl.add (t := 18) (hl.add (t := 157) (hl.nil) rfl) rfl) rfl) rfl) rfl; clear hl; have hl := hl2; clear hl2
                            refine then_normal ?_
                            refine c_cond hl rfl ?_ ?_
                            · intro hc17
                              try simp only [decide_eq_true_eq, decide_eq_false_iff_not, Bool.not_eq_true', Bool.not_eq_false', Bool.not_eq_true, Bool.not_eq_false, Bool.and_eq_true, Bool.or_eq_true, Bool.and_eq_false_iff, Bool.or_eq_false_iff, Bool.not_not, ne_eq, Int.not_lt, Int.not_le, Decidable.not_not, beq_iff_eq, bne_iff_ne] at hc17
                              exfalso; first | contradiction | omega
                            · intro hc17
                              try simp only [decide_eq_true_eq, decide_eq_false_iff_not, Bool.not_eq_true', Bool.not_eq_false', Bool.not_eq_true, Bool.not_eq_false, Bool.and_eq_true, Bool.or_eq_true, Bool.and_eq_false_iff, Bool.or_eq_false_iff, Bool.not_not, ne_eq, Int.not_lt, Int.not_le, Decidable.not_not, beq_iff_eq, bne_iff_ne] at hc17
                              refine c_seq ?_
                              refine c_region ?_
                              refine wl (wl_val hl rfl trivial (r_eql hl rfl rfl) ?_)
                              clear hl a; intro a hl
                              refine wl (wl_val hl rfl trivial (r_assign hl rfl) ?_)
                              clear hl a; intro a hl
                              refine w_nil ?_
                              have hl2 := hl.add (t := 0) (hl.add (t := 2) (hl.add (t := 4) (hl.add (t := 18) (hl.add (t := 170) (hl.nil) rfl) rfl) rfl) rfl) rfl; clear hl; have hl := hl2; clear hl2
                              refine then_normal ?_
                              refine c_cond hl rfl ?_ ?_
                              · intro hc19
                                try simp only [decide_eq_true_eq, decide_eq_false_iff_not, Bool.not_eq_true', Bool.not_eq_false', Bool.not_eq_true, Bool.not_eq_false, Bool.and_eq_true, Bool.or_eq_true, Bool.and_eq_false_iff, Bool.or_eq_false_iff, Bool.not_not, ne_eq, Int.not_lt, Int.not_le, Decidable.not_not, beq_iff_eq, bne_iff_ne] at hc19
                                exfalso; first | contradiction | omega
                              · intro hc19
                                try simp only [decide_eq_true_eq, decide_eq_false_iff_not, Bool.not_eq_true', Bool.not_eq_false', Bool.not_eq_true, Bool.not_eq_false, Bool.and_eq_true, Bool.or_eq_true, Bool.and_eq_false_iff, Bool.or_eq_false_iff, Bool.not_not, ne_eq, Int.not_lt, Int.not_le, Decidable.not_not, beq_iff_eq, bne_iff_ne] at hc19
                                refine c_seq ?_
                                refine c_region ?_
                                refine wl (wl_val hl rfl trivial (r_eql hl rfl rfl) ?_)
                                clear hl a; intro a hl
                                refine wl (wl_val hl rfl trivial (r_assign hl rfl) ?_)
                                clear hl a; intro a hl
                                refine w_nil ?_
                                have hl2 := hl.add (t := 0) (hl.add (t := 2) (hl.add (t := 4) (hl.add (t := 18) (hl.add (t := 185) (hl.nil) rfl) rfl) rfl) rfl) rfl; clear hl; have hl := hl2; clear hl2
                                refine then_normal ?_
                                refine c_cond hl rfl ?_ ?_
                                · intro hc20
                                  try simp only [decide_eq_true_eq, decide_eq_false_iff_not, Bool.not_eq_true', Bool.not_eq_false', Bool.not_eq_true, Bool.not_eq_false, Bool.and_eq_true, Bool.or_eq_true, Bool.and_eq_false_iff, Bool.or_eq_false_iff, Bool.not_not, ne_eq, Int.not_lt, Int.not_le, Decidable.not_not, beq_iff_eq, bne_iff_ne] at hc20
                                  exfalso; first | contradiction | omega
                                · intro hc20
                                  try simp only [decide_eq_true_eq, decide_eq_false_iff_not, Bool.not_eq_true', Bool.not_eq_false', Bool.not_eq_true, Bool.not_eq_false, Bool.and_eq_true, Bool.or_eq_true, Bool.and_eq_false_iff, Bool.or_eq_false_iff, Bool.not_not, ne_eq, Int.not_lt, Int.not_le, Decidable.not_not, beq_iff_eq, bne_iff_ne] at hc20
                                  refine c_seq ?_
                                  refine c_region ?_
                                  refine wl (wl_val hl rfl trivial (r_eql hl rfl rfl) ?_)
                                  clear hl a; intro a hl
                                  refine wl (wl_val hl rfl trivial (r_assign hl rfl) ?_)
                                  clear hl a; intro a hl
                                  refine w_nil ?_
                                  have hl2 := hl.add (t := 0) (hl.add (t := 2) (hl.add (t := 4) (hl.add (t := 18) (hl.add (t := 200) (hl.nil) rfl) rfl) rfl) rfl) rfl; clear hl; have hl := hl2; clear hl2
                                  refine then_normal ?_
                                  refine c_cond hl rfl ?_ ?_
                                  · intro hc21
                                    try simp only [decide_eq_true_eq, decide_eq_false_iff_not, Bool.not_eq_true', Bool.not_eq_false', Bool.not_eq_true, Bool.not_eq_false, Bool.and_eq_true, Bool.or_eq_true, Bool.and_eq_false_iff, Bool.or_eq_false_iff, Bool.not_not, ne_eq, Int.not_lt, Int.not_le, Decidable.not_not, beq_iff_eq, bne_iff_ne] at hc21
                                    exfalso; first | contradiction | omega
                                  · intro hc21
                                    try simp only [decide_eq_true_eq, decide_eq_false_iff_not, Bool.not_eq_true', Bool.not_eq_false', Bool.not_eq_true, Bool.not_eq_false, Bool.and_eq_true, Bool.or_eq_true, Bool.and_eq_false_iff, Bool.or_eq_false_iff, Bool.not_not, ne_eq, Int.not_lt, Int.not_le, Decidable.not_not, beq_iff_eq, bne_iff_ne] at hc21
                                    refine c_seq ?_
                                    refine c_region ?_
                                    refine wl (wl_val hl rfl trivial (r_eql hl rfl rfl) ?_)
                                    clear hl a; intro a hl
                                    refine wl (wl_val hl rfl trivial (r_assign hl rfl) ?_)
                                    clear hl a; intro a hl
                                    refine w_nil ?_
                                    have hl2 := hl.add (t := 0) (hl.add (t := 2) (hl.add (t := 213) (hl.nil) rfl) rfl) rfl; clear hl; have hl := hl2; clear hl2
                                    refine then_normal ?_
                                    refine c_cond hl rfl ?_ ?_
                                    · intro hc22
                                      try simp only [decide_eq_true_eq, decide_eq_false_iff_not, Bool.not_eq_true', Bool.not_eq_false', Bool.not_eq_true, Bool.not_eq_false, Bool.and_eq_true, Bool.or_eq_true, Bool.and_eq_false_iff, Bool.or_eq_false_iff, Bool.not_not, ne_eq, Int.not_lt, Int.not_le, Decidable.not_not, beq_iff_eq, bne_iff_ne] at hc22
                                      refine c_seq ?_
                                      refine c_region ?_
                                      refine wl (wl_val hl rfl trivial (r_move hl rfl) ?_)
                                      clear hl a; intro a hl
                                      refine wl (wl_val hl rfl trivial (r_nilCheck hl rfl) ?_)
                                      clear hl a; intro a hl
                                      refine wl (wl_val hl rfl trivial (r_field hl rfl fld55_0) ?_)
                                      clear hl a; intro a hl
                                      refine wl (w_load hl hh rfl trivial one48 rfl (by repeat (first | exact find_head | apply find_tail | apply find_skip)) (by first | exact hct | exact hcr | exact hch | exact hcl | rfl) ?_)
                                      clear hl a; intro a hl
                                      refine wl (w_call hl hh rfl trivial rfl cal26 rfl (crash_spec Z W.lb W.l hW.l) (by repeat (first | exact keeps_nil | apply keeps_cons (by repeat (first | exact find_head | apply find_tail | apply find_skip)) (by first  | rfl) | exact keeps_self | exact keeps_left | apply keeps_app | apply keeps_mv | apply keeps_skip)) trivial ?_)
                                      clear hl hh a w; intro vc Fc a w hR hl hh
                                      obtain ⟨rfl, rfl⟩ := hR
                                      try simp only [List.cons_append, List.nil_append, List.append_assoc, List.append_nil] at hh
                                      simp only [LdV.F, List.cons_append] at hh
                                      refine w_nil ?_
                                      have hl2 := hl.add (t := 0) (hl.add (t := 2) (hl.nil) rfl) rfl; clear hl; have hl := hl2; clear hl2
                                      refine then_normal ?_
                                      refine c_seq ?_
                                      refine c_region ?_
                                      refine wl (wl_val hl rfl trivial (r_move hl rfl) ?_)
                                      clear hl a; intro a hl
                                      refine wl (wl_val hl rfl trivial (r_nilCheck hl rfl) ?_)
                                      clear hl a; intro a hl
                                      refine wl (wl_val hl rfl trivial (r_field hl rfl fld55_1) ?_)
                                      clear hl a; intro a hl
                                      refine wl (w_store hl hh trivial one50 rfl rfl (by repeat (first | exact find_head | apply find_tail | apply find_skip)) (by first | (simp; done) | (simp; omega) | (rw [hwl]; omega) | (rw [hwl]; simp; done)) (by first | rfl | assumption | (apply Row.one; assumption)) (by first | exact wc_sg _ none | (simp only [setL, List.getElem?_cons_zero, List.getElem?_cons_succ, Value.cells, List.take_zero, List.take_succ_cons, List.take_nil, List.drop_zero, List.drop_succ_cons, List.drop_nil, List.length_cons, List.length_nil, List.cons_append, List.nil_append, List.append_nil, Nat.zero_add, Nat.add_zero, Nat.reduceAdd, Nat.reduceBEq, Nat.reduceEqDiff, Nat.ble, BEq.rfl, Bool.and_true, Bool.and_self, cond_true, beq_self_eq_true]; rfl)) ?_)
                                      clear hh w; intro w hh
                                      refine w_nil ?_
                                      have hl2 := hl.add (t := 2) (hl.nil) rfl; clear hl; have hl := hl2; clear hl2
                                      refine then_normal ?_
                                      refine c_region ?_
                                      refine wl (wl_val hl rfl trivial (r_move hl rfl) ?_)
                                      clear hl a; intro a hl
                                      refine wl (w_callP hl hh rfl trivial rfl L.dfell rfl (L.fell Z x Fx hMx) (by repeat (first | exact keeps_nil | apply keeps_cons (by repeat (first | exact find_head | apply find_tail | apply find_skip)) (by first  | rfl) | exact keeps_self | exact keeps_left | apply keeps_app | apply keeps_mv | apply keeps_skip)) trivial ?_)
                                      clear hl hh a w; intro vc Fc a w hR hl hh
                                      obtain ⟨rfl, hM3⟩ := hR
                                      try simp only [List.cons_append, List.nil_append, List.append_assoc, List.append_nil] at hh
                                      generalize Fc = F3 at hh hM3
                                      try simp only [List.append_assoc, List.cons_append, List.nil_append] at hh
                                      refine w_nil ?_
                                      have hl2 := hl.nil; clear hl; have hl := hl2; clear hl2
                                      refine blk_normal ?_
                                      refine then_normal ?_
                                      refine c_seq ?_
                                      refine c_region ?_
                                      refine wl (wl_val hl rfl trivial (r_assign hl rfl) ?_)
                                      clear hl a; intro a hl
                                      refine w_nil ?_
                                      have hl2 := hl.add (t := 6) (hl.nil) rfl; clear hl; have hl := hl2; clear hl2
                                      refine then_normal ?_
                                      refine wp_ret ?_
                                      refine f_ret1 (F' := F3 ++ ((wb, C (WoV.c { W with g := none }) 55) :: (W.tE ++ (W.gE ++ (DsF W.ds ++ ((W.lb, C (LdV.c (⟨W.l.d, true, W.l.fl, 0, W.l.kp⟩ : LdV)) 91) :: (W.l.d.E ++ Z))))))) hl hh rfl rfl (by repeat (first | exact keeps_nil | apply keeps_cons (by repeat (first | exact find_head | apply find_tail | apply find_skip)) (by first  | rfl) | exact keeps_self | exact keeps_left | apply keeps_app | apply keeps_mv | apply keeps_skip)) ?_
                                      refine StepO.same (W' := { W with l := (⟨W.l.d, true, W.l.fl, 0, W.l.kp⟩ : LdV), g := none }) (dead_ok hW ⟨hW.l.d, by simp⟩) (Q.crash hJ) (hn.dead rfl) hM3 ?_
                                      unfold WoV.F
                                      rw [show WoV.c { W with l := (⟨W.l.d, true, W.l.fl, 0, W.l.kp⟩ : LdV), g := none } = WoV.c { W with g := none } from wc_same rfl rfl rfl rfl]
                                      rfl
                                    · intro hc22
                                      try simp only [decide_eq_true_eq, decide_eq_false_iff_not, Bool.not_eq_true', Bool.not_eq_false', Bool.not_eq_true, Bool.not_eq_false, Bool.and_eq_true, Bool.or_eq_true, Bool.and_eq_false_iff, Bool.or_eq_false_iff, Bool.not_not, ne_eq, Int.not_lt, Int.not_le, Decidable.not_not, beq_iff_eq, bne_iff_ne] at hc22
                                      exfalso; first | contradiction | omega

set_option maxHeartbeats 8000000 in
theorem step_armd {lb wb : Nat} (L : LawM lb wb) (Q : LawJ L) (Z : List (Nat × Obj)) (W : WoV) (hW : W.ok Z) (n : Nat) (hn9 : n + 200 < 1000000000) (x : L.X) (Fx : List (Nat × Obj)) (hMx : L.M Z x Fx) (hJ : Q.J (W.pl [] []) x) (hn : WI n (W.pl [] [])) (o : OpP) (p : Option Addr) (cap : Nat) (ho : OpOk Z o p cap) (hk : o.k = 14) (hg : W.g = none) : Sp Tryz.prog 12 #[.pointer (some ⟨wb, 0, none⟩), .agg ⟨opC o p cap⟩, Lw L.T lb] (Fx ++ WoV.F wb W Z) (fun v F' => StepO Q Z n v F') := by
  refine f_enter (args := [.pointer (some ⟨wb, 0, none⟩), .agg ⟨[.int .u8 o.k, .int .i64 o.A, .int .i64 o.B, .slice p o.tx.length cap, .int .u8 o.m.k, .int .u8 o.m.d, .int .u32 o.m.e, .int .u32 o.m.b, .bool o.m.y, .int .u32 o.m.r, .int .u32 o.m.s, .string o.m.t, .int .u8 o.v.k, .int .u8 o.v.a, .int .u8 o.v.b, .int .u8 o.v.w, .int .u8 o.v.da, .int .u8 o.v.dl]⟩, .iface L.T (.pointer (some ⟨lb, 0, none⟩))]) Tryz.func12 rfl Tryz.ntmps12 rfl ?_
  intro w0 w a hpre hl hh
  generalize hDD : List.map Prod.fst (Fx ++ WoV.F wb W Z) = D at hh ⊢
  simp only [WoV.F] at hh
  have hct := wc_td W hW.dl
  have hcr := wc_tg W hW.dl
  have hch := wc_hn W hW.dl
  have hcl := wc_led W
  have hwl := wc_len W hW.dl
  have ho1 := ho.k
  have ho2 := ho.A
  have ho3 := ho.B
  have htl := hW.tl
  have hrl := hW.rl
  simp only [WoV.GF, hg] at hh
  simp only [slotsFrom, Nat.reduceAdd] at hl
  refine c_seq ?_
  refine c_region ?_
  refine wl (w_box hl hh rfl trivial rfl rfl ?_)
  clear hl hh a w; intro k4 a w hl hh
  refine wl (wl_val hl rfl trivial (r_assign hl rfl) ?_)
  clear hl a; intro a hl
  refine w_nil ?_
  have hl2 := hl.add (t := 0) (hl.add (t := 2) (hl.add (t := 4) (hl.nil) rfl) rfl) rfl; clear hl; have hl := hl2; clear hl2
  refine then_normal ?_
  refine c_seq ?_
  refine c_region ?_
  refine wl (wl_val hl rfl trivial (r_move hl rfl) ?_)
  clear hl a; intro a hl
  refine wl (wl_val hl rfl trivial (r_nilCheck hl rfl) ?_)
  clear hl a; intro a hl
  refine wl (wl_val hl rfl trivial (r_field hl rfl fld55_3) ?_)
  clear hl a; intro a hl
  refine wl (wl_val hl rfl trivial (r_assign hl rfl) ?_)
  clear hl a; intro a hl
  refine w_nil ?_
  have hl2 := hl.add (t := 0) (hl.add (t := 2) (hl.add (t := 4) (hl.add (t := 7) (hl.nil) rfl) rfl) rfl) rfl; clear hl; have hl := hl2; clear hl2
  refine then_normal ?_
  refine c_seq ?_
  refine c_seq ?_
  refine c_region ?_
  refine wl (wl_val hl rfl trivial (r_field hl rfl fld45_2) ?_)
  clear hl a; intro a hl
  refine wl (w_load hl hh rfl trivial one3 rfl (by repeat (first | exact find_head | apply find_tail | apply find_skip)) (by first | exact hct | exact hcr | exact hch | exact hcl | rfl) ?_)
  clear hl a; intro a hl
  refine wl (w_call hl hh rfl trivial rfl cal18 rfl (odd_spec _ (by omega)) (by repeat (first | exact keeps_nil | apply keeps_cons (by repeat (first | exact find_head | apply find_tail | apply find_skip)) (by first  | rfl) | exact keeps_self | exact keeps_left | apply keeps_app | apply keeps_mv | apply keeps_skip)) trivial ?_)
  clear hl hh a w; intro vc Fc a w hR hl hh
  obtain ⟨rfl, rfl⟩ := hR
  try simp only [List.cons_append, List.nil_append, List.append_assoc, List.append_nil] at hh
  refine w_nil ?_
  have hl2 := hl.add (t := 0) (hl.add (t := 2) (hl.add (t := 4) (hl.add (t := 7) (hl.add (t := 13) (hl.nil) rfl) rfl) rfl) rfl) rfl; clear hl; have hl := hl2; clear hl2
  refine then_normal ?_
  refine c_cond hl rfl ?_ ?_
  · intro hc0
    try simp only [decide_eq_true_eq, decide_eq_false_iff_not, Bool.not_eq_true', Bool.not_eq_false', Bool.not_eq_true, Bool.not_eq_false, Bool.and_eq_true, Bool.or_eq_true, Bool.and_eq_false_iff, Bool.or_eq_false_iff, Bool.not_not, ne_eq, Int.not_lt, Int.not_le, Decidable.not_not, beq_iff_eq, bne_iff_ne] at hc0
    refine c_region ?_
    refine wl (wl_val hl rfl trivial (r_move hl rfl) ?_)
    clear hl a; intro a hl
    refine wl (wl_val hl rfl trivial (r_nilCheck hl rfl) ?_)
    clear hl a; intro a hl
    refine wl (wl_val hl rfl trivial (r_field hl rfl fld55_4) ?_)
    clear hl a; intro a hl
    refine wl (wl_val hl rfl trivial (r_assign hl rfl) ?_)
    clear hl a; intro a hl
    refine w_nil ?_
    have hl2 := hl.add (t := 0) (hl.add (t := 2) (hl.add (t := 4) (hl.add (t := 7) (hl.nil) rfl) rfl) rfl) rfl; clear hl; have hl := hl2; clear hl2
    refine then_normal ?_
    refine c_seq ?_
    refine c_seq ?_
    refine c_region ?_
    refine wl (wl_val hl rfl trivial (r_field hl rfl fld45_0) ?_)
    clear hl a; intro a hl
    refine wl (w_load hl hh rfl trivial one33 rfl (by repeat (first | exact find_head | apply find_tail | apply find_skip)) (by first | exact hct | exact hcr | exact hch | exact hcl | rfl) ?_)
    clear hl a; intro a hl
    refine w_nil ?_
    have hl2 := hl.add (t := 0) (hl.add (t := 2) (hl.add (t := 4) (hl.add (t := 7) (hl.add (t := 18) (hl.nil) rfl) rfl) rfl) rfl) rfl; clear hl; have hl := hl2; clear hl2
    refine then_normal ?_
    refine wp_block ?_
    refine c_seq ?_
    refine c_region ?_
    refine wl (wl_val hl rfl trivial (r_eql hl rfl rfl) ?_)
    clear hl a; intro a hl
    refine wl (wl_val hl rfl trivial (r_assign hl rfl) ?_)
    clear hl a; intro a hl
    refine w_nil ?_
    have hl2 := hl.add (t := 0) (hl.add (t := 2) (hl.add (t := 4) (hl.add (t := 7) (hl.add (t := 18) (hl.add (t := 19) (hl.nil) rfl) rfl) rfl) rfl) rfl) rfl; clear hl; have hl := hl2; clear hl2
    refine then_normal ?_
    refine c_cond hl rfl ?_ ?_
    · intro hc1
      try simp only [decide_eq_true_eq, decide_eq_false_iff_not, Bool.not_eq_true', Bool.not_eq_false', Bool.not_eq_true, Bool.not_eq_false, Bool.and_eq_true, Bool.or_eq_true, Bool.and_eq_false_iff, Bool.or_eq_false_iff, Bool.not_not, ne_eq, Int.not_lt, Int.not_le, Decidable.not_not, beq_iff_eq, bne_iff_ne] at hc1
      exfalso; first | contradiction | omega
    · intro hc1
      try simp only [decide_eq_true_eq, decide_eq_false_iff_not, Bool.not_eq_true', Bool.not_eq_false', Bool.not_eq_true, Bool.not_eq_false, Bool.and_eq_true, Bool.or_eq_true, Bool.and_eq_false_iff, Bool.or_eq_false_iff, Bool.not_not, ne_eq, Int.not_lt, Int.not_le, Decidable.not_not, beq_iff_eq, bne_iff_ne] at hc1
      refine c_seq ?_
      refine c_seq ?_
      refine c_region ?_
      refine wl (wl_val hl rfl trivial (r_eql hl rfl rfl) ?_)
      clear hl a; intro a hl
      refine wl (wl_val hl rfl trivial (r_assign hl rfl) ?_)
      clear hl a; intro a hl
      refine w_nil ?_
      have hl2 := hl.add (t := 0) (hl.add (t := 2) (hl.add (t := 4) (hl.add (t := 7) (hl.add (t := 18) (hl.add (t := 27) (hl.nil) rfl) rfl) rfl) rfl) rfl) rfl; clear hl; have hl := hl2; clear hl2
      refine then_normal ?_
      refine c_cond hl rfl ?_ ?_
      · intro hc2
        try simp only [decide_eq_true_eq, decide_eq_false_iff_not, Bool.not_eq_true', Bool.not_eq_false', Bool.not_eq_true, Bool.not_eq_false, Bool.and_eq_true, Bool.or_eq_true, Bool.and_eq_false_iff, Bool.or_eq_false_iff, Bool.not_not, ne_eq, Int.not_lt, Int.not_le, Decidable.not_not, beq_iff_eq, bne_iff_ne] at hc2
        exfalso; first | contradiction | omega
      · intro hc2
        try simp only [decide_eq_true_eq, decide_eq_false_iff_not, Bool.not_eq_true', Bool.not_eq_false', Bool.not_eq_true, Bool.not_eq_false, Bool.and_eq_true, Bool.or_eq_true, Bool.and_eq_false_iff, Bool.or_eq_false_iff, Bool.not_not, ne_eq, Int.not_lt, Int.not_le, Decidable.not_not, beq_iff_eq, bne_iff_ne] at hc2
        refine c_region ?_
        refine wl (wl_val hl rfl trivial (r_eql hl rfl rfl) ?_)
        clear hl a; intro a hl
        refine wl (wl_val hl rfl trivial (r_assign hl rfl) ?_)
        clear hl a; intro a hl
        refine w_nil ?_
        have hl2 := hl.add (t := 0) (hl.add (t := 2) (hl.add (t := 4) (hl.add (t := 7) (hl.add (t := 18) (hl.add (t := 27) (hl.nil) rfl) rfl) rfl) rfl) rfl) rfl; clear hl; have hl := hl2; clear hl2
        refine then_normal ?_
        refine c_cond hl rfl ?_ ?_
        · intro hc3
          try simp only [decide_eq_true_eq, decide_eq_false_iff_not, Bool.not_eq_true', Bool.not_eq_false', Bool.not_eq_true, Bool.not_eq_false, Bool.and_eq_true, Bool.or_eq_true, Bool.and_eq_false_iff, Bool.or_eq_false_iff, Bool.not_not, ne_eq, Int.not_lt, Int.not_le, Decidable.not_not, beq_iff_eq, bne_iff_ne] at hc3
          exfalso; first | contradiction | omega
        · intro hc3
          try simp only [decide_eq_true_eq, decide_eq_false_iff_not, Bool.not_eq_true', Bool.not_eq_false', Bool.not_eq_true, Bool.not_eq_false, Bool.and_eq_true, Bool.or_eq_true, Bool.and_eq_false_iff, Bool.or_eq_false_iff, Bool.not_not, ne_eq, Int.not_lt, Int.not_le, Decidable.not_not, beq_iff_eq, bne_iff_ne] at hc3
          refine c_seq ?_
          refine c_seq ?_
          refine c_region ?_
          refine wl (wl_val hl rfl trivial (r_eql hl rfl rfl) ?_)
          clear hl a; intro a hl
          refine wl (wl_val hl rfl trivial (r_assign hl rfl) ?_)
          clear hl a; intro a hl
          refine w_nil ?_
          have hl2 := hl.add (t := 0) (hl.add (t := 2) (hl.add (t := 4) (hl.add (t := 7) (hl.add (t := 18) (hl.add (t := 39) (hl.nil) rfl) rfl) rfl) rfl) rfl) rfl; clear hl; have hl := hl2; clear hl2
          refine then_normal ?_
          refine c_cond hl rfl ?_ ?_
          · intro hc4
            try simp only [decide_eq_true_eq, decide_eq_false_iff_not, Bool.not_eq_true', Bool.not_eq_false', Bool.not_eq_true, Bool.not_eq_false, Bool.and_eq_true, Bool.or_eq_true, Bool.and_eq_false_iff, Bool.or_eq_false_iff, Bool.not_not, ne_eq, Int.not_lt, Int.not_le, Decidable.not_not, beq_iff_eq, bne_iff_ne] at hc4
            exfalso; first | contradiction | omega
          · intro hc4
            try simp only [decide_eq_true_eq, decide_eq_false_iff_not, Bool.not_eq_true', Bool.not_eq_false', Bool.not_eq_true, Bool.not_eq_false, Bool.and_eq_true, Bool.or_eq_true, Bool.and_eq_false_iff, Bool.or_eq_false_iff, Bool.not_not, ne_eq, Int.not_lt, Int.not_le, Decidable.not_not, beq_iff_eq, bne_iff_ne] at hc4
            refine c_region ?_
            refine wl (wl_val hl rfl trivial (r_eql hl rfl rfl) ?_)
            clear hl a; intro a hl
            refine wl (wl_val hl rfl trivial (r_assign hl rfl) ?_)
            clear hl a; intro a hl
            refine w_nil ?_
            have hl2 := hl.add (t := 0) (hl.add (t := 2) (hl.add (t := 4) (hl.add (t := 7) (hl.add (t := 18) (hl.add (t := 39) (hl.nil) rfl) rfl) rfl) rfl) rfl) rfl; clear hl; have hl := hl2; clear hl2
            refine then_normal ?_
            refine c_cond hl rfl ?_ ?_
            · intro hc5
              try simp only [decide_eq_true_eq, decide_eq_false_iff_not, Bool.not_eq_true', Bool.not_eq_false', Bool.not_eq_true, Bool.not_eq_false, Bool.and_eq_true, Bool.or_eq_true, Bool.and_eq_false_iff, Bool.or_eq_false_iff, Bool.not_not, ne_eq, Int.not_lt, Int.not_le, Decidable.not_not, beq_iff_eq, bne_iff_ne] at hc5
              exfalso; first | contradiction | omega
            · intro hc5
              try simp only [decide_eq_true_eq, decide_eq_false_iff_not, Bool.not_eq_true', Bool.not_eq_false', Bool.not_eq_true, Bool.not_eq_false, Bool.and_eq_true, Bool.or_eq_true, Bool.and_eq_false_iff, Bool.or_eq_false_iff, Bool.not_not, ne_eq, Int.not_lt, Int.not_le, Decidable.not_not, beq_iff_eq, bne_iff_ne] at hc5
              refine c_seq ?_
              refine c_region ?_
              refine wl (wl_val hl rfl trivial (r_eql hl rfl rfl) ?_)
              clear hl a; intro a hl
              refine wl (wl_val hl rfl trivial (r_assign hl rfl) ?_)
              clear hl a; intro a hl
              refine w_nil ?_
              have hl2 := hl.add (t := 0) (hl.add (t := 2) (hl.add (t := 4) (hl.add (t := 7) (hl.add (t := 18) (hl.add (t := 50) (hl.nil) rfl) rfl) rfl) rfl) rfl) rfl; clear hl; have hl := hl2; clear hl2
              refine then_normal ?_
              refine c_cond hl rfl ?_ ?_
              · intro hc6
                try simp only [decide_eq_true_eq, decide_eq_false_iff_not, Bool.not_eq_true', Bool.not_eq_false', Bool.not_eq_true, Bool.not_eq_false, Bool.and_eq_true, Bool.or_eq_true, Bool.and_eq_false_iff, Bool.or_eq_false_iff, Bool.not_not, ne_eq, Int.not_lt, Int.not_le, Decidable.not_not, beq_iff_eq, bne_iff_ne] at hc6
                exfalso; first | contradiction | omega
              · intro hc6
                try simp only [decide_eq_true_eq, decide_eq_false_iff_not, Bool.not_eq_true', Bool.not_eq_false', Bool.not_eq_true, Bool.not_eq_false, Bool.and_eq_true, Bool.or_eq_true, Bool.and_eq_false_iff, Bool.or_eq_false_iff, Bool.not_not, ne_eq, Int.not_lt, Int.not_le, Decidable.not_not, beq_iff_eq, bne_iff_ne] at hc6
                refine c_seq ?_
                refine c_region ?_
                refine wl (wl_val hl rfl trivial (r_eql hl rfl rfl) ?_)
                clear hl a; intro a hl
                refine wl (wl_val hl rfl trivial (r_assign hl rfl) ?_)
                clear hl a; intro a hl
                refine w_nil ?_
                have hl2 := hl.add (t := 0) (hl.add (t := 2) (hl.add (t := 4) (hl.add (t := 7) (hl.add (t := 18) (hl.add (t := 62) (hl.nil) rfl) rfl) rfl) rfl) rfl) rfl; clear hl; have hl := hl2; clear hl2
                refine then_normal ?_
                refine c_cond hl rfl ?_ ?_
                · intro hc7
                  try simp only [decide_eq_true_eq, decide_eq_false_iff_not, Bool.not_eq_true', Bool.not_eq_false', Bool.not_eq_true, Bool.not_eq_false, Bool.and_eq_true, Bool.or_eq_true, Bool.and_eq_false_iff, Bool.or_eq_false_iff, Bool.not_not, ne_eq, Int.not_lt, Int.not_le, Decidable.not_not, beq_iff_eq, bne_iff_ne] at hc7
                  exfalso; first | contradiction | omega
                · intro hc7
                  try simp only [decide_eq_true_eq, decide_eq_false_iff_not, Bool.not_eq_true', Bool.not_eq_false', Bool.not_eq_true, Bool.not_eq_false, Bool.and_eq_true, Bool.or_eq_true, Bool.and_eq_false_iff, Bool.or_eq_false_iff, Bool.not_not, ne_eq, Int.not_lt, Int.not_le, Decidable.not_not, beq_iff_eq, bne_iff_ne] at hc7
                  refine c_seq ?_
                  refine c_region ?_
                  refine wl (wl_val hl rfl trivial (r_eql hl rfl rfl) ?_)
                  clear hl a; intro a hl
                  refine wl (wl_val hl rfl trivial (r_assign hl rfl) ?_)
                  clear hl a; intro a hl
                  refine w_nil ?_
                  have hl2 := hl.add (t := 0) (hl.add (t := 2) (hl.add (t := 4) (hl.add (t := 7) (hl.add (t := 18) (hl.add (t := 68) (hl.nil) rfl) rfl) rfl) rfl) rfl) rfl; clear hl; have hl := hl2; clear hl2
                  refine then_normal ?_
                  refine c_cond hl rfl ?_ ?_
                  · intro hc8
                    try simp only [decide_eq_true_eq, decide_eq_false_iff_not, Bool.not_eq_true', Bool.not_eq_false', Bool.not_eq_true, Bool.not_eq_false, Bool.and_eq_true, Bool.or_eq_true, Bool.and_eq_false_iff, Bool.or_eq_false_iff, Bool.not_not, ne_eq, Int.not_lt, Int.not_le, Decidable.not_not, beq_iff_eq, bne_iff_ne] at hc8
                    exfalso; first | contradiction | omega
                  · intro hc8
                    try simp only [decide_eq_true_eq, decide_eq_false_iff_not, Bool.not_eq_true', Bool.not_eq_false', Bool.not_eq_true, Bool.not_eq_false, Bool.and_eq_true, Bool.or_eq_true, Bool.and_eq_false_iff, Bool.or_eq_false_iff, Bool.not_not, ne_eq, Int.not_lt, Int.not_le, Decidable.not_not, beq_iff_eq, bne_iff_ne] at hc8
                    refine c_seq ?_
                    refine c_region ?_
                    refine wl (wl_val hl rfl trivial (r_eql hl rfl rfl) ?_)
                    clear hl a; intro a hl
                    refine wl (wl_val hl rfl trivial (r_assign hl rfl) ?_)
                    clear hl a; intro a hl
                    refine w_nil ?_
                    have hl2 := hl.add (t := 0) (hl.add (t := 2) (hl.add (t := 4) (hl.add (t := 7) (hl.add (t := 18) (hl.add (t := 90) (hl.nil) rfl) rfl) rfl) rfl) rfl) rfl; clear hl; have hl := hl2; clear hl2
                    refine then_normal ?_
                    refine c_cond hl rfl ?_ ?_
                    · intro hc10
                      try simp only [decide_eq_true_eq, decide_eq_false_iff_not, Bool.not_eq_true', Bool.not_eq_false', Bool.not_eq_true, Bool.not_eq_false, Bool.and_eq_true, Bool.or_eq_true, Bool.and_eq_false_iff, Bool.or_eq_false_iff, Bool.not_not, ne_eq, Int.not_lt, Int.not_le, Decidable.not_not, beq_iff_eq, bne_iff_ne] at hc10
                      exfalso; first | contradiction | omega
                    · intro hc10
                      try simp only [decide_eq_true_eq, decide_eq_false_iff_not, Bool.not_eq_true', Bool.not_eq_false', Bool.not_eq_true, Bool.not_eq_false, Bool.and_eq_true, Bool.or_eq_true, Bool.and_eq_false_iff, Bool.or_eq_false_iff, Bool.not_not, ne_eq, Int.not_lt, Int.not_le, Decidable.not_not, beq_iff_eq, bne_iff_ne] at hc10
                      refine c_seq ?_
                      refine c_region ?_
                      refine wl (wl_val hl rfl trivial (r_eql hl rfl rfl) ?_)
                      clear hl a; intro a hl
                      refine wl (wl_val hl rfl trivial (r_assign hl rfl) ?_)
                      clear hl a; intro a hl
                      refine w_nil ?_
                      have hl2 := hl.add (t := 0) (hl.add (t := 2) (hl.add (t := 4) (hl.add (t := 7) (hl.add (t := 18) (hl.add (t := 114) (hl.nil) rfl) rfl) rfl) rfl) rfl) rfl; clear hl; have hl := hl2; clear hl2
                      refine then_normal ?_
                      refine c_cond hl rfl ?_ ?_
                      · intro hc12
                        try simp only [decide_eq_true_eq, decide_eq_false_iff_not, Bool.not_eq_true', Bool.not_eq_false', Bool.not_eq_true, Bool.not_eq_false, Bool.and_eq_true, Bool.or_eq_true, Bool.and_eq_false_iff, Bool.or_eq_false_iff, Bool.not_not, ne_eq, Int.not_lt, Int.not_le, Decidable.not_not, beq_iff_eq, bne_iff_ne] at hc12
                        exfalso; first | contradiction | omega
                      · intro hc12
                        try simp only [decide_eq_true_eq, decide_eq_false_iff_not, Bool.not_eq_true', Bool.not_eq_false', Bool.not_eq_true, Bool.not_eq_false, Bool.and_eq_true, Bool.or_eq_true, Bool.and_eq_false_iff, Bool.or_eq_false_iff, Bool.not_not, ne_eq, Int.not_lt, Int.not_le, Decidable.not_not, beq_iff_eq, bne_iff_ne] at hc12
                        refine c_seq ?_
                        refine c_region ?_
                        refine wl (wl_val hl rfl trivial (r_eql hl rfl rfl) ?_)
                        clear hl a; intro a hl
                        refine wl (wl_val hl rfl trivial (r_assign hl rfl) ?_)
                        clear hl a; intro a hl
                        refine w_nil ?_
                        have hl2 := hl.add (t := 0) (hl.add (t := 2) (hl.add (t := 4) (hl.add (t := 7) (hl.add (t := 18) (hl.add (t := 130) (hl.nil) rfl) rfl) rfl) rfl) rfl) rfl; clear hl; have hl := hl2; clear hl2
                        refine then_normal ?_
                        refine c_cond hl rfl ?_ ?_
                        · intro hc14
                          try simp only [decide_eq_true_eq, decide_eq_false_iff_not, Bool.not_eq_true', Bool.not_eq_false', Bool.not_eq_true, Bool.not_eq_false, Bool.and_eq_true, Bool.or_eq_true, Bool.and_eq_false_iff, Bool.or_eq_false_iff, Bool.not_not, ne_eq, Int.not_lt, Int.not_le, Decidable.not_not, beq_iff_eq, bne_iff_ne] at hc14
                          exfalso; first | contradiction | omega
                        · intro hc14
                          try simp only [decide_eq_true_eq, decide_eq_false_iff_not, Bool.not_eq_true', Bool.not_eq_false', Bool.not_eq_true, Bool.not_eq_false, Bool.and_eq_true, Bool.or_eq_true, Bool.and_eq_false_iff, Bool.or_eq_false_iff, Bool.not_not, ne_eq, Int.not_lt, Int.not_le, Decidable.not_not, beq_iff_eq, bne_iff_ne] at hc14
                          refine c_seq ?_
                          refine c_region ?_
                          refine wl (wl_val hl rfl trivial (r_eql hl rfl rfl) ?_)
                          clear hl a; intro a hl
                          refine wl (wl_val hl rfl trivial (r_assign hl rfl) ?_)
                          clear hl a; intro a hl
                          refine w_nil ?_
                          have hl2 := hl.add (t := 0) (hl.add (t := 2) (hl.add (t := 4) (hl.add (t := 18) (hl.add (t := 152) (hl.nil) rfl) rfl) rfl) rfl) rfl; clear hl; have hl := hl2; clear hl2
                          refine then_normal ?_
                          refine c_cond hl rfl ?_ ?_
                          · intro hc16
                            try simp only [decide_eq_true_eq, decide_eq_false_iff_not, Bool.not_eq_true', Bool.not_eq_false', Bool.not_eq_true, Bool.not_eq_false, Bool.and_eq_true, Bool.or_eq_true, Bool.and_eq_false_iff, Bool.or_eq_false_iff, Bool.not_not, ne_eq, Int.not_lt, Int.not_le, Decidable.not_not, beq_iff_eq, bne_iff_ne] at hc16
                            exfalso; first | contradiction | omega
                          · intro hc16
                            try simp only [decide_eq_true_eq, decide_eq_false_iff_not, Bool.not_eq_true', Bool.not_eq_false', Bool.not_eq_true, Bool.not_eq_false, Bool.and_eq_true, Bool.or_eq_true, Bool.and_eq_false_iff, Bool.or_eq_false_iff, Bool.not_not, ne_eq, Int.not_lt, Int.not_le, Decidable.not_not, beq_iff_eq, bne_iff_ne] at hc16
                            refine c_seq ?_
                            refine c_region ?_
                            refine wl (wl_val hl rfl trivial (r_eql hl rfl rfl) ?_)
                            clear hl a; intro a hl
                            refine wl (wl_val hl rfl trivial (r_assign hl rfl) ?_)
                            clear hl a; intro a hl
                            refine w_nil ?_
                            have hl2 := hl.add (t := 0) (hl.add (t := 2) (hl.add (t := 4) (hl.add (t := 18) (hl.add (t := 157) (hl.nil) rfl) rfl) rfl) rfl) rfl; clear hl; have hl := hl2; clear hl2
                            refine then_normal ?_
                            refine c_cond hl rfl ?_ ?_
                            · intro hc17
                              try simp only [decide_eq_true_eq, decide_eq_false_iff_not, Bool.not_eq_true', Bool.not_eq_false', Bool.not_eq_true, Bool.not_eq_false, Bool.and_eq_true, Bool.or_eq_true, Bool.and_eq_false_iff, Bool.or_eq_false_iff, Bool.not_not, ne_eq, Int.not_lt, Int.not_le, Decidable.not_not, beq_iff_eq, bne_iff_ne] at hc17
                              exfalso; first | contradiction | omega
                            · intro hc17
                              try simp only [decide_eq_true_eq, decide_eq_false_iff_not, Bool.not_eq_true', Bool.not_eq_false', Bool.not_eq_true, Bool.not_eq_false, Bool.and_eq_true, Bool.or_eq_true, Bool.and_eq_false_iff, Bool.or_eq_false_iff, Bool.not_not, ne_eq, Int.not_lt, Int.not_le, Decidable.not_not, beq_iff_eq, bne_iff_ne] at hc17
                              refine c_seq ?_
                              refine c_region ?_
                              refine wl (wl_val hl rfl trivial (r_eql hl rfl rfl) ?_)
                              clear hl a; intro a hl
                              refine wl (wl_val hl rfl trivial (r_assign hl rfl) ?_)
                              clear hl a; intro a hl
                              refine w_nil ?_
                              have hl2 := hl.add (t := 0) (hl.add (t := 2) (hl.add (t := 4) (hl.add (t := 18) (hl.add (t := 170) (hl.nil) rfl) rfl) rfl) rfl) rfl; clear hl; have hl := hl2; clear hl2
                              refine then_normal ?_
                              refine c_cond hl rfl ?_ ?_
                              · intro hc19
                                try simp only [decide_eq_true_eq, decide_eq_false_iff_not, Bool.not_eq_true', Bool.not_eq_false', Bool.not_eq_true, Bool.not_eq_false, Bool.and_eq_true, Bool.or_eq_true, Bool.and_eq_false_iff, Bool.or_eq_false_iff, Bool.not_not, ne_eq, Int.not_lt, Int.not_le, Decidable.not_not, beq_iff_eq, bne_iff_ne] at hc19
                                exfalso; first | contradiction | omega
                              · intro hc19
                                try simp only [decide_eq_true_eq, decide_eq_false_iff_not, Bool.not_eq_true', Bool.not_eq_false', Bool.not_eq_true, Bool.not_eq_false, Bool.and_eq_true, Bool.or_eq_true, Bool.and_eq_false_iff, Bool.or_eq_false_iff, Bool.not_not, ne_eq, Int.not_lt, Int.not_le, Decidable.not_not, beq_iff_eq, bne_iff_ne] at hc19
                                refine c_seq ?_
                                refine c_region ?_
                                refine wl (wl_val hl rfl trivial (r_eql hl rfl rfl) ?_)
                                clear hl a; intro a hl
                                refine wl (wl_val hl rfl trivial (r_assign hl rfl) ?_)
                                clear hl a; intro a hl
                                refine w_nil ?_
                                have hl2 := hl.add (t := 0) (hl.add (t := 2) (hl.add (t := 4) (hl.add (t := 18) (hl.add (t := 185) (hl.nil) rfl) rfl) rfl) rfl) rfl; clear hl; have hl := hl2; clear hl2
                                refine then_normal ?_
                                refine c_cond hl rfl ?_ ?_
                                · intro hc20
                                  try simp only [decide_eq_true_eq, decide_eq_false_iff_not, Bool.not_eq_true', Bool.not_eq_false', Bool.not_eq_true, Bool.not_eq_false, Bool.and_eq_true, Bool.or_eq_true, Bool.and_eq_false_iff, Bool.or_eq_false_iff, Bool.not_not, ne_eq, Int.not_lt, Int.not_le, Decidable.not_not, beq_iff_eq, bne_iff_ne] at hc20
                                  refine c_seq ?_
                                  refine c_draw [(k4, C [.int .u8 o.k, .int .i64 o.A, .int .i64 o.B, .slice p o.tx.length cap, .int .u8 o.m.k, .int .u8 o.m.d, .int .u32 o.m.e, .int .u32 o.m.b, .bool o.m.y, .int .u32 o.m.r, .int .u32 o.m.s, .string o.m.t, .int .u8 o.v.k, .int .u8 o.v.a, .int .u8 o.v.b, .int .u8 o.v.w, .int .u8 o.v.da, .int .u8 o.v.dl] 45)] [9] mixed hh ?_
                                  clear hh w; intro w hh
                                  have hM : Mem [(k4, C [.int .u8 o.k, .int .i64 o.A, .int .i64 o.B, .slice p o.tx.length cap, .int .u8 o.m.k, .int .u8 o.m.d, .int .u32 o.m.e, .int .u32 o.m.b, .bool o.m.y, .int .u32 o.m.r, .int .u32 o.m.s, .string o.m.t, .int .u8 o.v.k, .int .u8 o.v.a, .int .u8 o.v.b, .int .u8 o.v.w, .int .u8 o.v.da, .int .u8 o.v.dl] 45)] w := (memK hh (by repeat (first | exact keeps_nil | apply keeps_cons (by repeat (first | exact find_head | apply find_tail | apply find_skip)) (by first  | rfl) | exact keeps_self | exact keeps_left | apply keeps_app | apply keeps_mv | apply keeps_skip)))
                                  refine d_take (i := 0) hl rfl (by kernel_rfl) (by kernel_rfl) (by kernel_rfl) (by kernel_rfl) (by kernel_rfl) rfl trivial (fun _ _ _ h => h) hM (fun w hC => r_move hl rfl) rfl ?_
                                  clear hl a; intro a hl
                                  refine d_take (i := 1) hl rfl (by kernel_rfl) (by kernel_rfl) (by kernel_rfl) (by kernel_rfl) (by kernel_rfl) rfl trivial (fun _ _ _ h => h) hM (fun w hC => r_nilCheck hl rfl) rfl ?_
                                  clear hl a; intro a hl
                                  refine d_take (i := 2) hl rfl (by kernel_rfl) (by kernel_rfl) (by kernel_rfl) (by kernel_rfl) (by kernel_rfl) rfl trivial (fun _ _ _ h => h) hM (fun w hC => r_field hl rfl fld55_0) rfl ?_
                                  clear hl a; intro a hl
                                  refine d_take (i := 4) hl rfl (by kernel_rfl) (by kernel_rfl) (by kernel_rfl) (by kernel_rfl) (by kernel_rfl) rfl trivial (fun _ _ _ h => h) hM (fun w hC => r_field hl rfl fld45_1) rfl ?_
                                  clear hl a; intro a hl
                                  refine d_take (i := 5) hl rfl (by kernel_rfl) (by kernel_rfl) (by kernel_rfl) (by kernel_rfl) (by kernel_rfl) rfl trivial (fun _ _ _ h => h) hM (fun w hC => r_loadC hl rfl one3 hC (by repeat (first | exact find_head | apply find_tail | apply find_skip)) (by first | exact hct | exact hcr | exact hch | exact hcl | rfl)) rfl ?_
                                  clear hl a; intro a hl
                                  refine d_take (i := 6) hl rfl (by kernel_rfl) (by kernel_rfl) (by kernel_rfl) (by kernel_rfl) (by kernel_rfl) rfl trivial (fun _ _ _ h => h) hM (fun w hC => r_field hl rfl fld45_2) rfl ?_
                                  clear hl a; intro a hl
                                  refine d_take (i := 7) hl rfl (by kernel_rfl) (by kernel_rfl) (by kernel_rfl) (by kernel_rfl) (by kernel_rfl) rfl trivial (fun _ _ _ h => h) hM (fun w hC => r_loadC hl rfl one3 hC (by repeat (first | exact find_head | apply find_tail | apply find_skip)) (by first | exact hct | exact hcr | exact hch | exact hcl | rfl)) rfl ?_
                                  clear hl a; intro a hl
                                  refine d_two (i := 3) (j := 8) (by kernel_rfl) rfl rfl ?_ ?_
                                  ·
                                    try clear hM
                                    refine id (w_load hl hh rfl trivial one48 rfl (by repeat (first | exact find_head | apply find_tail | apply find_skip)) (by first | exact hct | exact hcr | exact hch | exact hcl | rfl) ?_)
                                    clear hl a; intro a hl
                                    have hM : Mem [(k4, C [.int .u8 o.k, .int .i64 o.A, .int .i64 o.B, .slice p o.tx.length cap, .int .u8 o.m.k, .int .u8 o.m.d, .int .u32 o.m.e, .int .u32 o.m.b, .bool o.m.y, .int .u32 o.m.r, .int .u32 o.m.s, .string o.m.t, .int .u8 o.v.k, .int .u8 o.v.a, .int .u8 o.v.b, .int .u8 o.v.w, .int .u8 o.v.da, .int .u8 o.v.dl] 45)] w := (memK hh (by repeat (first | exact keeps_nil | apply keeps_cons (by repeat (first | exact find_head | apply find_tail | apply find_skip)) (by first  | rfl) | exact keeps_self | exact keeps_left | apply keeps_app | apply keeps_mv | apply keeps_skip)))
                                    refine d_step (fun _ => hM) ?_
                                    refine d_one (i := 8) (by kernel_rfl) rfl ?_
                                    try clear hM
                                    refine id (w_call hl hh rfl trivial rfl cal18 rfl (odd_spec _ (by omega)) (by repeat (first | exact keeps_nil | apply keeps_cons (by repeat (first | exact find_head | apply find_tail | apply find_skip)) (by first  | rfl) | exact keeps_self | exact keeps_left | apply keeps_app | apply keeps_mv | apply keeps_skip)) trivial ?_)
                                    clear hl hh a w; intro vc Fc a w hR hl hh
                                    obtain ⟨rfl, rfl⟩ := hR
                                    try simp only [List.cons_append, List.nil_append, List.append_assoc, List.append_nil] at hh
                                    have hM : Mem [(k4, C [.int .u8 o.k, .int .i64 o.A, .int .i64 o.B, .slice p o.tx.length cap, .int .u8 o.m.k, .int .u8 o.m.d, .int .u32 o.m.e, .int .u32 o.m.b, .bool o.m.y, .int .u32 o.m.r, .int .u32 o.m.s, .string o.m.t, .int .u8 o.v.k, .int .u8 o.v.a, .int .u8 o.v.b, .int .u8 o.v.w, .int .u8 o.v.da, .int .u8 o.v.dl] 45)] w := (memK hh (by repeat (first | exact keeps_nil | apply keeps_cons (by repeat (first | exact find_head | apply find_tail | apply find_skip)) (by first  | rfl) | exact keeps_self | exact keeps_left | apply keeps_app | apply keeps_mv | apply keeps_skip)))
                                    refine d_step (fun _ => hM) ?_
                                    refine d_one (i := 9) (by kernel_rfl) rfl ?_
                                    try clear hM
                                    refine id (w_call hl hh rfl trivial rfl cal24 rfl (arm_spec Z W.lb W.l hW.l o.A (by omega) (oddP o.B)) (by repeat (first | exact keeps_nil | apply keeps_cons (by repeat (first | exact find_head | apply find_tail | apply find_skip)) (by first  | rfl) | exact keeps_self | exact keeps_left | apply keeps_app | apply keeps_mv | apply keeps_skip)) trivial ?_)
                                    clear hl hh a w; intro vc Fc a w hR hl hh
                                    obtain ⟨rfl, rfl⟩ := hR
                                    try simp only [List.cons_append, List.nil_append, List.append_assoc, List.append_nil] at hh
                                    simp only [LdV.F, List.cons_append] at hh
                                    refine d_step (fun h => absurd h (by decide)) ?_
                                    refine d_done (by kernel_rfl) ?_
                                    try clear hM
                                    have hl2 := hl.add (t := 2) (hl.add (t := 4) (hl.nil) rfl) rfl; clear hl; have hl := hl2; clear hl2
                                    refine then_normal ?_
                                    refine c_region ?_
                                    refine wl (wl_val hl rfl trivial (r_move hl rfl) ?_)
                                    clear hl a; intro a hl
                                    refine wl (w_loadA hl hh rfl trivial agg45 rfl (by repeat (first | exact find_head | apply find_tail | apply find_skip)) (by rfl) (by rfl) ?_)
                                    clear hl a; intro a hl
                                    refine wl (w_callP hl hh rfl trivial rfl L.dfate rfl (L.fate Z x Fx o.k o.A o.B _ rfl rfl (by omega) (by omega) (by omega) hMx) (by repeat (first | exact keeps_nil | apply keeps_cons (by repeat (first | exact find_head | apply find_tail | apply find_skip)) (by first  | rfl) | exact keeps_self | exact keeps_left | apply keeps_app | apply keeps_mv | apply keeps_skip)) trivial ?_)
                                    clear hl hh a w; intro vc Fc a w hR hl hh
                                    obtain ⟨rfl, hM3⟩ := hR
                                    try simp only [List.cons_append, List.nil_append, List.append_assoc, List.append_nil] at hh
                                    generalize Fc = F3 at hh hM3
                                    try simp only [List.append_assoc, List.cons_append, List.nil_append] at hh
                                    refine w_nil ?_
                                    have hl2 := hl.nil; clear hl; have hl := hl2; clear hl2
                                    refine blk_normal ?_
                                    refine then_normal ?_
                                    refine c_seq ?_
                                    refine c_region ?_
                                    refine wl (wl_val hl rfl trivial (r_assign hl rfl) ?_)
                                    clear hl a; intro a hl
                                    refine w_nil ?_
                                    have hl2 := hl.add (t := 6) (hl.nil) rfl; clear hl; have hl := hl2; clear hl2
                                    refine then_normal ?_
                                    refine wp_ret ?_
                                    refine f_ret1 (F' := F3 ++ ((wb, C (WoV.c W) 55) :: (W.tE ++ (W.gE ++ (DsF W.ds ++ ((W.lb, C (LdV.c (⟨W.l.d, W.l.dn, W.l.fl, if 0 < o.A then o.A else 0, oddP o.B⟩ : LdV)) 91) :: (W.l.d.E ++ Z))))))) hl hh rfl rfl (by repeat (first | exact keeps_nil | apply keeps_cons (by repeat (first | exact find_head | apply find_tail | apply find_skip)) (by first  | rfl) | exact keeps_self | exact keeps_left | apply keeps_app | apply keeps_mv | apply keeps_skip)) ?_
                                    refine StepO.same (W' := { W with l := (⟨W.l.d, W.l.dn, W.l.fl, if 0 < o.A then o.A else 0, oddP o.B⟩ : LdV) }) (led_ok hW ⟨hW.l.d, by simp only; split <;> omega⟩) (Q.fate o.k o.A o.B hJ (.inl ⟨rfl, by omega⟩)) (hn.led rfl rfl) hM3 ?_
                                    unfold WoV.F
                                    rw [show WoV.c { W with l := (⟨W.l.d, W.l.dn, W.l.fl, if 0 < o.A then o.A else 0, oddP o.B⟩ : LdV) } = W.c from wc_same rfl rfl rfl rfl]
                                    simp only [WoV.GF, hg]
                                    try rfl
                                  ·
                                    try clear hM
                                    refine id (w_call hl hh rfl trivial rfl cal18 rfl (odd_spec _ (by omega)) (by repeat (first | exact keeps_nil | apply keeps_cons (by repeat (first | exact find_head | apply find_tail | apply find_skip)) (by first  | rfl) | exact keeps_self | exact keeps_left | apply keeps_app | apply keeps_mv | apply keeps_skip)) trivial ?_)
                                    clear hl hh a w; intro vc Fc a w hR hl hh
                                    obtain ⟨rfl, rfl⟩ := hR
                                    try simp only [List.cons_append, List.nil_append, List.append_assoc, List.append_nil] at hh
                                    have hM : Mem [(k4, C [.int .u8 o.k, .int .i64 o.A, .int .i64 o.B, .slice p o.tx.length cap, .int .u8 o.m.k, .int .u8 o.m.d, .int .u32 o.m.e, .int .u32 o.m.b, .bool o.m.y, .int .u32 o.m.r, .int .u32 o.m.s, .string o.m.t, .int .u8 o.v.k, .int .u8 o.v.a, .int .u8 o.v.b, .int .u8 o.v.w, .int .u8 o.v.da, .int .u8 o.v.dl] 45)] w := (memK hh (by repeat (first | exact keeps_nil | apply keeps_cons (by repeat (first | exact find_head | apply find_tail | apply find_skip)) (by first  | rfl) | exact keeps_self | exact keeps_left | apply keeps_app | apply keeps_mv | apply keeps_skip)))
                                    refine d_step (fun _ => hM) ?_
                                    refine d_one (i := 3) (by kernel_rfl) rfl ?_
                                    try clear hM
                                    refine id (w_load hl hh rfl trivial one48 rfl (by repeat (first | exact find_head | apply find_tail | apply find_skip)) (by first | exact hct | exact hcr | exact hch | exact hcl | rfl) ?_)
                                    clear hl a; intro a hl
                                    have hM : Mem [(k4, C [.int .u8 o.k, .int .i64 o.A, .int .i64 o.B, .slice p o.tx.length cap, .int .u8 o.m.k, .int .u8 o.m.d, .int .u32 o.m.e, .int .u32 o.m.b, .bool o.m.y, .int .u32 o.m.r, .int .u32 o.m.s, .string o.m.t, .int .u8 o.v.k, .int .u8 o.v.a, .int .u8 o.v.b, .int .u8 o.v.w, .int .u8 o.v.da, .int .u8 o.v.dl] 45)] w := (memK hh (by repeat (first | exact keeps_nil | apply keeps_cons (by repeat (first | exact find_head | apply find_tail | apply find_skip)) (by first  | rfl) | exact keeps_self | exact keeps_left | apply keeps_app | apply keeps_mv | apply keeps_skip)))
                                    refine d_step (fun _ => hM) ?_
                                    refine d_one (i := 9) (by kernel_rfl) rfl ?_
                                    try clear hM
                                    refine id (w_call hl hh rfl trivial rfl cal24 rfl (arm_spec Z W.lb W.l hW.l o.A (by omega) (oddP o.B)) (by repeat (first | exact keeps_nil | apply keeps_cons (by repeat (first | exact find_head | apply find_tail | apply find_skip)) (by first  | rfl) | exact keeps_self | exact keeps_left | apply keeps_app | apply keeps_mv | apply keeps_skip)) trivial ?_)
                                    clear hl hh a w; intro vc Fc a w hR hl hh
                                    obtain ⟨rfl, rfl⟩ := hR
                                    try simp only [List.cons_append, List.nil_append, List.append_assoc, List.append_nil] at hh
                                    simp only [LdV.F, List.cons_append] at hh
                                    refine d_step (fun h => absurd h (by decide)) ?_
                                    refine d_done (by kernel_rfl) ?_
                                    try clear hM
                                    have hl2 := hl.add (t := 2) (hl.add (t := 4) (hl.nil) rfl) rfl; clear hl; have hl := hl2; clear hl2
                                    refine then_normal ?_
                                    refine c_region ?_
                                    refine wl (wl_val hl rfl trivial (r_move hl rfl) ?_)
                                    clear hl a; intro a hl
                                    refine wl (w_loadA hl hh rfl trivial agg45 rfl (by repeat (first | exact find_head | apply find_tail | apply find_skip)) (by rfl) (by rfl) ?_)
                                    clear hl a; intro a hl
                                    refine wl (w_callP hl hh rfl trivial rfl L.dfate rfl (L.fate Z x Fx o.k o.A o.B _ rfl rfl (by omega) (by omega) (by omega) hMx) (by repeat (first | exact keeps_nil | apply keeps_cons (by repeat (first | exact find_head | apply find_tail | apply find_skip)) (by first  | rfl) | exact keeps_self | exact keeps_left | apply keeps_app | apply keeps_mv | apply keeps_skip)) trivial ?_)
                                    clear hl hh a w; intro vc Fc a w hR hl hh
                                    obtain ⟨rfl, hM3⟩ := hR
                                    try simp only [List.cons_append, List.nil_append, List.append_assoc, List.append_nil] at hh
                                    generalize Fc = F3 at hh hM3
                                    try simp only [List.append_assoc, List.cons_append, List.nil_append] at hh
                                    refine w_nil ?_
                                    have hl2 := hl.nil; clear hl; have hl := hl2; clear hl2
                                    refine blk_normal ?_
                                    refine then_normal ?_
                                    refine c_seq ?_
                                    refine c_region ?_
                                    refine wl (wl_val hl rfl trivial (r_assign hl rfl) ?_)
                                    clear hl a; intro a hl
                                    refine w_nil ?_
                                    have hl2 := hl.add (t := 6) (hl.nil) rfl; clear hl; have hl := hl2; clear hl2
                                    refine then_normal ?_
                                    refine wp_ret ?_
                                    refine f_ret1 (F' := F3 ++ ((wb, C (WoV.c W) 55) :: (W.tE ++ (W.gE ++ (DsF W.ds ++ ((W.lb, C (LdV.c (⟨W.l.d, W.l.dn, W.l.fl, if 0 < o.A then o.A else 0, oddP o.B⟩ : LdV)) 91) :: (W.l.d.E ++ Z))))))) hl hh rfl rfl (by repeat (first | exact keeps_nil | apply keeps_cons (by repeat (first | exact find_head | apply find_tail | apply find_skip)) (by first  | rfl) | exact keeps_self | exact keeps_left | apply keeps_app | apply keeps_mv | apply keeps_skip)) ?_
                                    refine StepO.same (W' := { W with l := (⟨W.l.d, W.l.dn, W.l.fl, if 0 < o.A then o.A else 0, oddP o.B⟩ : LdV) }) (led_ok hW ⟨hW.l.d, by simp only; split <;> omega⟩) (Q.fate o.k o.A o.B hJ (.inl ⟨rfl, by omega⟩)) (hn.led rfl rfl) hM3 ?_
                                    unfold WoV.F
                                    rw [show WoV.c { W with l := (⟨W.l.d, W.l.dn, W.l.fl, if 0 < o.A then o.A else 0, oddP o.B⟩ : LdV) } = W.c from wc_same rfl rfl rfl rfl]
                                    simp only [WoV.GF, hg]
                                    try rfl
                                · intro hc20
                                  try simp only [decide_eq_true_eq, decide_eq_false_iff_not, Bool.not_eq_true', Bool.not_eq_false', Bool.not_eq_true, Bool.not_eq_false, Bool.and_eq_true, Bool.or_eq_true, Bool.and_eq_false_iff, Bool.or_eq_false_iff, Bool.not_not, ne_eq, Int.not_lt, Int.not_le, Decidable.not_not, beq_iff_eq, bne_iff_ne] at hc20
                                  exfalso; first | contradiction | omega
  · intro hc0
    try simp only [decide_eq_true_eq, decide_eq_false_iff_not, Bool.not_eq_true', Bool.not_eq_false', Bool.not_eq_true, Bool.not_eq_false, Bool.and_eq_true, Bool.or_eq_true, Bool.and_eq_false_iff, Bool.or_eq_false_iff, Bool.not_not, ne_eq, Int.not_lt, Int.not_le, Decidable.not_not, beq_iff_eq, bne_iff_ne] at hc0
    refine wp_skip ?_
    refine then_normal ?_
    refine c_seq ?_
    refine c_seq ?_
    refine c_region ?_
    refine wl (wl_val hl rfl trivial (r_field hl rfl fld45_0) ?_)
    clear hl a; intro a hl
    refine wl (w_load hl hh rfl trivial one33 rfl (by repeat (first | exact find_head | apply find_tail | apply find_skip)) (by first | exact hct | exact hcr | exact hch | exact hcl | rfl) ?_)
    clear hl a; intro a hl
    refine w_nil ?_
    have hl2 := hl.add (t := 0) (hl.add (t := 2) (hl.add (t := 4) (hl.add (t := 7) (hl.add (t := 18) (hl.nil) rfl) rfl) rfl) rfl) rfl; clear hl; have hl := hl2; clear hl2
    refine then_normal ?_
    refine wp_block ?_
    refine c_seq ?_
    refine c_region ?_
    refine wl (wl_val hl rfl trivial (r_eql hl rfl rfl) ?_)
    clear hl a; intro a hl
    refine wl (wl_val hl rfl trivial (r_assign hl rfl) ?_)
    clear hl a; intro a hl
    refine w_nil ?_
    have hl2 := hl.add (t := 0) (hl.add (t := 2) (hl.add (t := 4) (hl.add (t := 7) (hl.add (t := 18) (hl.add (t := 19) (hl.nil) rfl) rfl) rfl) rfl) rfl) rfl; clear hl; have hl := hl2; clear hl2
    refine then_normal ?_
    refine c_cond hl rfl ?_ ?_
    · intro hc1
      try simp only [decide_eq_true_eq, decide_eq_false_iff_not, Bool.not_eq_true', Bool.not_eq_false', Bool.not_eq_true, Bool.not_eq_false, Bool.and_eq_true, Bool.or_eq_true, Bool.and_eq_false_iff, Bool.or_eq_false_iff, Bool.not_not, ne_eq, Int.not_lt, Int.not_le, Decidable.not_not, beq_iff_eq, bne_iff_ne] at hc1
      exfalso; first | contradiction | omega
    · intro hc1
      try simp only [decide_eq_true_eq, decide_eq_false_iff_not, Bool.not_eq_true', Bool.not_eq_false', Bool.not_eq_true, Bool.not_eq_false, Bool.and_eq_true, Bool.or_eq_true, Bool.and_eq_false_iff, Bool.or_eq_false_iff, Bool.not_not, ne_eq, Int.not_lt, Int.not_le, Decidable.not_not, beq_iff_eq, bne_iff_ne] at hc1
      refine c_seq ?_
      refine c_seq ?_
      refine c_region ?_
      refine wl (wl_val hl rfl trivial (r_eql hl rfl rfl) ?_)
      clear hl a; intro a hl
      refine wl (wl_val hl rfl trivial (r_assign hl rfl) ?_)
      clear hl a; intro a hl
      refine w_nil ?_
      have hl2 := hl.add (t := 0) (hl.add (t := 2) (hl.add (t := 4) (hl.add (t := 7) (hl.add (t := 18) (hl.add (t := 27) (hl.nil) rfl) rfl) rfl) rfl) rfl) rfl; clear hl; have hl := hl2; clear hl2
      refine then_normal ?_
      refine c_cond hl rfl ?_ ?_
      · intro hc2
        try simp only [decide_eq_true_eq, decide_eq_false_iff_not, Bool.not_eq_true', Bool.not_eq_false', Bool.not_eq_true, Bool.not_eq_false, Bool.and_eq_true, Bool.or_eq_true, Bool.and_eq_false_iff, Bool.or_eq_false_iff, Bool.not_not, ne_eq, Int.not_lt, Int.not_le, Decidable.not_not, beq_iff_eq, bne_iff_ne] at hc2
        exfalso; first | contradiction | omega
      · intro hc2
        try simp only [decide_eq_true_eq, decide_eq_false_iff_not, Bool.not_eq_true', Bool.not_eq_false', Bool.not_eq_true, Bool.not_eq_false, Bool.and_eq_true, Bool.or_eq_true, Bool.and_eq_false_iff, Bool.or_eq_false_iff, Bool.not_not, ne_eq, Int.not_lt, Int.not_le, Decidable.not_not, beq_iff_eq, bne_iff_ne] at hc2
        refine c_region ?_
        refine wl (wl_val hl rfl trivial (r_eql hl rfl rfl) ?_)
        clear hl a; intro a hl
        refine wl (wl_val hl rfl trivial (r_assign hl rfl) ?_)
        clear hl a; intro a hl
        refine w_nil ?_
        have hl2 := hl.add (t := 0) (hl.add (t := 2) (hl.add (t := 4) (hl.add (t := 7) (hl.add (t := 18) (hl.add (t := 27) (hl.nil) rfl) rfl) rfl) rfl) rfl) rfl; clear hl; have hl := hl2; clear hl2
        refine then_normal ?_
        refine c_cond hl rfl ?_ ?_
        · intro hc3
          try simp only [decide_eq_true_eq, decide_eq_false_iff_not, Bool.not_eq_true', Bool.not_eq_false', Bool.not_eq_true, Bool.not_eq_false, Bool.and_eq_true, Bool.or_eq_true, Bool.and_eq_false_iff, Bool.or_eq_false_iff, Bool.not_not, ne_eq, Int.not_lt, Int.not_le, Decidable.not_not, beq_iff_eq, bne_iff_ne] at hc3
          exfalso; first | contradiction | omega
        · intro hc3
          try simp only [decide_eq_true_eq, decide_eq_false_iff_not, Bool.not_eq_true', Bool.not_eq_false', Bool.not_eq_true, Bool.not_eq_false, Bool.and_eq_true, Bool.or_eq_true, Bool.and_eq_false_iff, Bool.or_eq_false_iff, Bool.not_not, ne_eq, Int.not_lt, Int.not_le, Decidable.not_not, beq_iff_eq, bne_iff_ne] at hc3
          refine c_seq ?_
          refine c_seq ?_
          refine c_region ?_
          refine wl (wl_val hl rfl trivial (r_eql hl rfl rfl) ?_)
          clear hl a; intro a hl
          refine wl (wl_val hl rfl trivial (r_assign hl rfl) ?_)
          clear hl a; intro a hl
          refine w_nil ?_
          have hl2 := hl.add (t := 0) (hl.add (t := 2) (hl.add (t := 4) (hl.add (t := 7) (hl.add (t := 18) (hl.add (t := 39) (hl.nil) rfl) rfl) rfl) rfl) rfl) rfl; clear hl; have hl := hl2; clear hl2
          refine then_normal ?_
          refine c_cond hl rfl ?_ ?_
          · intro hc4
            try simp only [decide_eq_true_eq, decide_eq_false_iff_not, Bool.not_eq_true', Bool.not_eq_false', Bool.not_eq_true, Bool.not_eq_false, Bool.and_eq_true, Bool.or_eq_true, Bool.and_eq_false_iff, Bool.or_eq_false_iff, Bool.not_not, ne_eq, Int.not_lt, Int.not_le, Decidable.not_not, beq_iff_eq, bne_iff_ne] at hc4
            exfalso; first | contradiction | omega
          · intro hc4
            try simp only [decide_eq_true_eq, decide_eq_false_iff_not, Bool.not_eq_true', Bool.not_eq_false', Bool.not_eq_true, Bool.not_eq_false, Bool.and_eq_true, Bool.or_eq_true, Bool.and_eq_false_iff, Bool.or_eq_false_iff, Bool.not_not, ne_eq, Int.not_lt, Int.not_le, Decidable.not_not, beq_iff_eq, bne_iff_ne] at hc4
            refine c_region ?_
            refine wl (wl_val hl rfl trivial (r_eql hl rfl rfl) ?_)
            clear hl a; intro a hl
            refine wl (wl_val hl rfl trivial (r_assign hl rfl) ?_)
            clear hl a; intro a hl
            refine w_nil ?_
            have hl2 := hl.add (t := 0) (hl.add (t := 2) (hl.add (t := 4) (hl.add (t := 7) (hl.add (t := 18) (hl.add (t := 39) (hl.nil) rfl) rfl) rfl) rfl) rfl) rfl; clear hl; have hl := hl2; clear hl2
            refine then_normal ?_
            refine c_cond hl rfl ?_ ?_
            · intro hc5
              try simp only [decide_eq_true_eq, decide_eq_false_iff_not, Bool.not_eq_true', Bool.not_eq_false', Bool.not_eq_true, Bool.not_eq_false, Bool.and_eq_true, Bool.or_eq_true, Bool.and_eq_false_iff, Bool.or_eq_false_iff, Bool.not_not, ne_eq, Int.not_lt, Int.not_le, Decidable.not_not, beq_iff_eq, bne_iff_ne] at hc5
              exfalso; first | contradiction | omega
            · intro hc5
              try simp only [decide_eq_true_eq, decide_eq_false_iff_not, Bool.not_eq_true', Bool.not_eq_false', Bool.not_eq_true, Bool.not_eq_false, Bool.and_eq_true, Bool.or_eq_true, Bool.and_eq_false_iff, Bool.or_eq_false_iff, Bool.not_not, ne_eq, Int.not_lt, Int.not_le, Decidable.not_not, beq_iff_eq, bne_iff_ne] at hc5
              refine c_seq ?_
              refine c_region ?_
              refine wl (wl_val hl rfl trivial (r_eql hl rfl rfl) ?_)
              clear hl a; intro a hl
              refine wl (wl_val hl rfl trivial (r_assign hl rfl) ?_)
              clear hl a; intro a hl
              refine w_nil ?_
              have hl2 := hl.add (t := 0) (hl.add (t := 2) (hl.add (t := 4) (hl.add (t := 7) (hl.add (t := 18) (hl.add (t := 50) (hl.nil) rfl) rfl) rfl) rfl) rfl) rfl; clear hl; have hl := hl2; clear hl2
              refine then_normal ?_
              refine c_cond hl rfl ?_ ?_
              · intro hc6
                try simp only [decide_eq_true_eq, decide_eq_false_iff_not, Bool.not_eq_true', Bool.not_eq_false', Bool.not_eq_true, Bool.not_eq_false, Bool.and_eq_true, Bool.or_eq_true, Bool.and_eq_false_iff, Bool.or_eq_false_iff, Bool.not_not, ne_eq, Int.not_lt, Int.not_le, Decidable.not_not, beq_iff_eq, bne_iff_ne] at hc6
                exfalso; first | contradiction | omega
              · intro hc6
                try simp only [decide_eq_true_eq, decide_eq_false_iff_not, Bool.not_eq_true', Bool.not_eq_false', Bool.not_eq_true, Bool.not_eq_false, Bool.and_eq_true, Bool.or_eq_true, Bool.and_eq_false_iff, Bool.or_eq_false_iff, Bool.not_not, ne_eq, Int.not_lt, Int.not_le, Decidable.not_not, beq_iff_eq, bne_iff_ne] at hc6
                refine c_seq ?_
                refine c_region ?_
                refine wl (wl_val hl rfl trivial (r_eql hl rfl rfl) ?_)
                clear hl a; intro a hl
                refine wl (wl_val hl rfl trivial (r_assign hl rfl) ?_)
                clear hl a; intro a hl
                refine w_nil ?_
                have hl2 := hl.add (t := 0) (hl.add (t := 2) (hl.add (t := 4) (hl.add (t := 7) (hl.add (t := 18) (hl.add (t := 62) (hl.nil) rfl) rfl) rfl) rfl) rfl) rfl; clear hl; have hl := hl2; clear hl2
                refine then_normal ?_
                refine c_cond hl rfl ?_ ?_
                · intro hc7
                  try simp only [decide_eq_true_eq, decide_eq_false_iff_not, Bool.not_eq_true', Bool.not_eq_false', Bool.not_eq_true, Bool.not_eq_false, Bool.and_eq_true, Bool.or_eq_true, Bool.and_eq_false_iff, Bool.or_eq_false_iff, Bool.not_not, ne_eq, Int.not_lt, Int.not_le, Decidable.not_not, beq_iff_eq, bne_iff_ne] at hc7
                  exfalso; first | contradiction | omega
                · intro hc7
                  try simp only [decide_eq_true_eq, decide_eq_false_iff_not, Bool.not_eq_true', Bool.not_eq_false', Bool.not_eq_true, Bool.not_eq_false, Bool.and_eq_true, Bool.or_eq_true, Bool.and_eq_false_iff, Bool.or_eq_false_iff, Bool.not_not, ne_eq, Int.not_lt, Int.not_le, Decidable.not_not, beq_iff_eq, bne_iff_ne] at hc7
                  refine c_seq ?_
                  refine c_region ?_
                  refine wl (wl_val hl rfl trivial (r_eql hl rfl rfl) ?_)
                  clear hl a; intro a hl
                  refine wl (wl_val hl rfl trivial (r_assign hl rfl) ?_)
                  clear hl a; intro a hl
                  refine w_nil ?_
                  have hl2 := hl.add (t := 0) (hl.add (t := 2) (hl.add (t := 4) (hl.add (t := 7) (hl.add (t := 18) (hl.add (t := 68) (hl.nil) rfl) rfl) rfl) rfl) rfl) rfl; clear hl; have hl := hl2; clear hl2
                  refine then_normal ?_
                  refine c_cond hl rfl ?_ ?_
                  · intro hc8
                    try simp only [decide_eq_true_eq, decide_eq_false_iff_not, Bool.not_eq_true', Bool.not_eq_false', Bool.not_eq_true, Bool.not_eq_false, Bool.and_eq_true, Bool.or_eq_true, Bool.and_eq_false_iff, Bool.or_eq_false_iff, Bool.not_not, ne_eq, Int.not_lt, Int.not_le, Decidable.not_not, beq_iff_eq, bne_iff_ne] at hc8
                    exfalso; first | contradiction | omega
                  · intro hc8
                    try simp only [decide_eq_true_eq, decide_eq_false_iff_not, Bool.not_eq_true', Bool.not_eq_false', Bool.not_eq_true, Bool.not_eq_false, Bool.and_eq_true, Bool.or_eq_true, Bool.and_eq_false_iff, Bool.or_eq_false_iff, Bool.not_not, ne_eq, Int.not_lt, Int.not_le, Decidable.not_not, beq_iff_eq, bne_iff_ne] at hc8
                    refine c_seq ?_
                    refine c_region ?_
                    refine wl (wl_val hl rfl trivial (r_eql hl rfl rfl) ?_)
                    clear hl a; intro a hl
                    refine wl (wl_val hl rfl trivial (r_assign hl rfl) ?_)
                    clear hl a; intro a hl
                    refine w_nil ?_
                    have hl2 := hl.add (t := 0) (hl.add (t := 2) (hl.add (t := 4) (hl.add (t := 7) (hl.add (t := 18) (hl.add (t := 90) (hl.nil) rfl) rfl) rfl) rfl) rfl) rfl; clear hl; have hl := hl2; clear hl2
                    refine then_normal ?_
                    refine c_cond hl rfl ?_ ?_
                    · intro hc10
                      try simp only [decide_eq_true_eq, decide_eq_false_iff_not, Bool.not_eq_true', Bool.not_eq_false', Bool.not_eq_true, Bool.not_eq_false, Bool.and_eq_true, Bool.or_eq_true, Bool.and_eq_false_iff, Bool.or_eq_false_iff, Bool.not_not, ne_eq, Int.not_lt, Int.not_le, Decidable.not_not, beq_iff_eq, bne_iff_ne] at hc10
                      exfalso; first | contradiction | omega
                    · intro hc10
                      try simp only [decide_eq_true_eq, decide_eq_false_iff_not, Bool.not_eq_true', Bool.not_eq_false', Bool.not_eq_true, Bool.not_eq_false, Bool.and_eq_true, Bool.or_eq_true, Bool.and_eq_false_iff, Bool.or_eq_false_iff, Bool.not_not, ne_eq, Int.not_lt, Int.not_le, Decidable.not_not, beq_iff_eq, bne_iff_ne] at hc10
                      refine c_seq ?_
                      refine c_region ?_
                      refine wl (wl_val hl rfl trivial (r_eql hl rfl rfl) ?_)
                      clear hl a; intro a hl
                      refine wl (wl_val hl rfl trivial (r_assign hl rfl) ?_)
                      clear hl a; intro a hl
                      refine w_nil ?_
                      have hl2 := hl.add (t := 0) (hl.add (t := 2) (hl.add (t := 4) (hl.add (t := 7) (hl.add (t := 18) (hl.add (t := 114) (hl.nil) rfl) rfl) rfl) rfl) rfl) rfl; clear hl; have hl := hl2; clear hl2
                      refine then_normal ?_
                      refine c_cond hl rfl ?_ ?_
                      · intro hc12
                        try simp only [decide_eq_true_eq, decide_eq_false_iff_not, Bool.not_eq_true', Bool.not_eq_false', Bool.not_eq_true, Bool.not_eq_false, Bool.and_eq_true, Bool.or_eq_true, Bool.and_eq_false_iff, Bool.or_eq_false_iff, Bool.not_not, ne_eq, Int.not_lt, Int.not_le, Decidable.not_not, beq_iff_eq, bne_iff_ne] at hc12
                        exfalso; first | contradiction | omega
                      · intro hc12
                        try simp only [decide_eq_true_eq, decide_eq_false_iff_not, Bool.not_eq_true', Bool.not_eq_false', Bool.not_eq_true, Bool.not_eq_false, Bool.and_eq_true, Bool.or_eq_true, Bool.and_eq_false_iff, Bool.or_eq_false_iff, Bool.not_not, ne_eq, Int.not_lt, Int.not_le, Decidable.not_not, beq_iff_eq, bne_iff_ne] at hc12
                        refine c_seq ?_
                        refine c_region ?_
                        refine wl (wl_val hl rfl trivial (r_eql hl rfl rfl) ?_)
                        clear hl a; intro a hl
                        refine wl (wl_val hl rfl trivial (r_assign hl rfl) ?_)
                        clear hl a; intro a hl
                        refine w_nil ?_
                        have hl2 := hl.add (t := 0) (hl.add (t := 2) (hl.add (t := 4) (hl.add (t := 7) (hl.add (t := 18) (hl.add (t := 130) (hl.nil) rfl) rfl) rfl) rfl) rfl) rfl; clear hl; have hl := hl2; clear hl2
                        refine then_normal ?_
                        refine c_cond hl rfl ?_ ?_
                        · intro hc14
                          try simp only [decide_eq_true_eq, decide_eq_false_iff_not, Bool.not_eq_true', Bool.not_eq_false', Bool.not_eq_true, Bool.not_eq_false, Bool.and_eq_true, Bool.or_eq_true, Bool.and_eq_false_iff, Bool.or_eq_false_iff, Bool.not_not, ne_eq, Int.not_lt, Int.not_le, Decidable.not_not, beq_iff_eq, bne_iff_ne] at hc14
                          exfalso; first | contradiction | omega
                        · intro hc14
                          try simp only [decide_eq_true_eq, decide_eq_false_iff_not, Bool.not_eq_true', Bool.not_eq_false', Bool.not_eq_true, Bool.not_eq_false, Bool.and_eq_true, Bool.or_eq_true, Bool.and_eq_false_iff, Bool.or_eq_false_iff, Bool.not_not, ne_eq, Int.not_lt, Int.not_le, Decidable.not_not, beq_iff_eq, bne_iff_ne] at hc14
                          refine c_seq ?_
                          refine c_region ?_
                          refine wl (wl_val hl rfl trivial (r_eql hl rfl rfl) ?_)
                          clear hl a; intro a hl
                          refine wl (wl_val hl rfl trivial (r_assign hl rfl) ?_)
                          clear hl a; intro a hl
                          refine w_nil ?_
                          have hl2 := hl.add (t := 0) (hl.add (t := 2) (hl.add (t := 4) (hl.add (t := 18) (hl.add (t := 152) (hl.nil) rfl) rfl) rfl) rfl) rfl; clear hl; have hl := hl2; clear hl2
                          refine then_normal ?_
                          refine c_cond hl rfl ?_ ?_
                          · intro hc16
                            try simp only [decide_eq_true_eq, decide_eq_false_iff_not, Bool.not_eq_true', Bool.not_eq_false', Bool.not_eq_true, Bool.not_eq_false, Bool.and_eq_true, Bool.or_eq_true, Bool.and_eq_false_iff, Bool.or_eq_false_iff, Bool.not_not, ne_eq, Int.not_lt, Int.not_le, Decidable.not_not, beq_iff_eq, bne_iff_ne] at hc16
                            exfalso; first | contradiction | omega
                          · intro hc16
                            try simp only [decide_eq_true_eq, decide_eq_false_iff_not, Bool.not_eq_true', Bool.not_eq_false', Bool.not_eq_true, Bool.not_eq_false, Bool.and_eq_true, Bool.or_eq_true, Bool.and_eq_false_iff, Bool.or_eq_false_iff, Bool.not_not, ne_eq, Int.not_lt, Int.not_le, Decidable.not_not, beq_iff_eq, bne_iff_ne] at hc16
                            refine c_seq ?_
                            refine c_region ?_
                            refine wl (wl_val hl rfl trivial (r_eql hl rfl rfl) ?_)
                            clear hl a; intro a hl
                            refine wl (wl_val hl rfl trivial (r_assign hl rfl) ?_)
                            clear hl a; intro a hl
                            refine w_nil ?_
                            have hl2 := hl.add (t := 0) (hl.add (t := 2) (hl.add (t := 4) (hl.add (t := 18) (hl.add (t := 157) (hl.nil) rfl) rfl) rfl) rfl) rfl; clear hl; have hl := hl2; clear hl2
                            refine then_normal ?_
                            refine c_cond hl rfl ?_ ?_
                            · intro hc17
                              try simp only [decide_eq_true_eq, decide_eq_false_iff_not, Bool.not_eq_true', Bool.not_eq_false', Bool.not_eq_true, Bool.not_eq_false, Bool.and_eq_true, Bool.or_eq_true, Bool.and_eq_false_iff, Bool.or_eq_false_iff, Bool.not_not, ne_eq, Int.not_lt, Int.not_le, Decidable.not_not, beq_iff_eq, bne_iff_ne] at hc17
                              exfalso; first | contradiction | omega
                            · intro hc17
                              try simp only [decide_eq_true_eq, decide_eq_false_iff_not, Bool.not_eq_true', Bool.not_eq_false', Bool.not_eq_true, Bool.not_eq_false, Bool.and_eq_true, Bool.or_eq_true, Bool.and_eq_false_iff, Bool.or_eq_false_iff, Bool.not_not, ne_eq, Int.not_lt, Int.not_le, Decidable.not_not, beq_iff_eq, bne_iff_ne] at hc17
                              refine c_seq ?_
                              refine c_region ?_
                              refine wl (wl_val hl rfl trivial (r_eql hl rfl rfl) ?_)
                              clear hl a; intro a hl
                              refine wl (wl_val hl rfl trivial (r_assign hl rfl) ?_)
                              clear hl a; intro a hl
                              refine w_nil ?_
                              have hl2 := hl.add (t := 0) (hl.add (t := 2) (hl.add (t := 4) (hl.add (t := 18) (hl.add (t := 170) (hl.nil) rfl) rfl) rfl) rfl) rfl; clear hl; have hl := hl2; clear hl2
                              refine then_normal ?_
                              refine c_cond hl rfl ?_ ?_
                              · intro hc19
                                try simp only [decide_eq_true_eq, decide_eq_false_iff_not, Bool.not_eq_true', Bool.not_eq_false', Bool.not_eq_true, Bool.not_eq_false, Bool.and_eq_true, Bool.or_eq_true, Bool.and_eq_false_iff, Bool.or_eq_false_iff, Bool.not_not, ne_eq, Int.not_lt, Int.not_le, Decidable.not_not, beq_iff_eq, bne_iff_ne] at hc19
                                exfalso; first | contradiction | omega
                              · intro hc19
                                try simp only [decide_eq_true_eq, decide_eq_false_iff_not, Bool.not_eq_true', Bool.not_eq_false', Bool.not_eq_true, Bool.not_eq_false, Bool.and_eq_true, Bool.or_eq_true, Bool.and_eq_false_iff, Bool.or_eq_false_iff, Bool.not_not, ne_eq, Int.not_lt, Int.not_le, Decidable.not_not, beq_iff_eq, bne_iff_ne] at hc19
                                refine c_seq ?_
                                refine c_region ?_
                                refine wl (wl_val hl rfl trivial (r_eql hl rfl rfl) ?_)
                                clear hl a; intro a hl
                                refine wl (wl_val hl rfl trivial (r_assign hl rfl) ?_)
                                clear hl a; intro a hl
                                refine w_nil ?_
                                have hl2 := hl.add (t := 0) (hl.add (t := 2) (hl.add (t := 4) (hl.add (t := 18) (hl.add (t := 185) (hl.nil) rfl) rfl) rfl) rfl) rfl; clear hl; have hl := hl2; clear hl2
                                refine then_normal ?_
                                refine c_cond hl rfl ?_ ?_
                                · intro hc20
                                  try simp only [decide_eq_true_eq, decide_eq_false_iff_not, Bool.not_eq_true', Bool.not_eq_false', Bool.not_eq_true, Bool.not_eq_false, Bool.and_eq_true, Bool.or_eq_true, Bool.and_eq_false_iff, Bool.or_eq_false_iff, Bool.not_not, ne_eq, Int.not_lt, Int.not_le, Decidable.not_not, beq_iff_eq, bne_iff_ne] at hc20
                                  refine c_seq ?_
                                  refine c_draw [(k4, C [.int .u8 o.k, .int .i64 o.A, .int .i64 o.B, .slice p o.tx.length cap, .int .u8 o.m.k, .int .u8 o.m.d, .int .u32 o.m.e, .int .u32 o.m.b, .bool o.m.y, .int .u32 o.m.r, .int .u32 o.m.s, .string o.m.t, .int .u8 o.v.k, .int .u8 o.v.a, .int .u8 o.v.b, .int .u8 o.v.w, .int .u8 o.v.da, .int .u8 o.v.dl] 45)] [9] mixed hh ?_
                                  clear hh w; intro w hh
                                  have hM : Mem [(k4, C [.int .u8 o.k, .int .i64 o.A, .int .i64 o.B, .slice p o.tx.length cap, .int .u8 o.m.k, .int .u8 o.m.d, .int .u32 o.m.e, .int .u32 o.m.b, .bool o.m.y, .int .u32 o.m.r, .int .u32 o.m.s, .string o.m.t, .int .u8 o.v.k, .int .u8 o.v.a, .int .u8 o.v.b, .int .u8 o.v.w, .int .u8 o.v.da, .int .u8 o.v.dl] 45)] w := (memK hh (by repeat (first | exact keeps_nil | apply keeps_cons (by repeat (first | exact find_head | apply find_tail | apply find_skip)) (by first  | rfl) | exact keeps_self | exact keeps_left | apply keeps_app | apply keeps_mv | apply keeps_skip)))
                                  refine d_take (i := 0) hl rfl (by kernel_rfl) (by kernel_rfl) (by kernel_rfl) (by kernel_rfl) (by kernel_rfl) rfl trivial (fun _ _ _ h => h) hM (fun w hC => r_move hl rfl) rfl ?_
                                  clear hl a; intro a hl
                                  refine d_take (i := 1) hl rfl (by kernel_rfl) (by kernel_rfl) (by kernel_rfl) (by kernel_rfl) (by kernel_rfl) rfl trivial (fun _ _ _ h => h) hM (fun w hC => r_nilCheck hl rfl) rfl ?_
                                  clear hl a; intro a hl
                                  refine d_take (i := 2) hl rfl (by kernel_rfl) (by kernel_rfl) (by kernel_rfl) (by kernel_rfl) (by kernel_rfl) rfl trivial (fun _ _ _ h => h) hM (fun w hC => r_field hl rfl fld55_0) rfl ?_
                                  clear hl a; intro a hl
                                  refine d_take (i := 4) hl rfl (by kernel_rfl) (by kernel_rfl) (by kernel_rfl) (by kernel_rfl) (by kernel_rfl) rfl trivial (fun _ _ _ h => h) hM (fun w hC => r_field hl rfl fld45_1) rfl ?_
                                  clear hl a; intro a hl
                                  refine d_take (i := 5) hl rfl (by kernel_rfl) (by kernel_rfl) (by kernel_rfl) (by kernel_rfl) (by kernel_rfl) rfl trivial (fun _ _ _ h => h) hM (fun w hC => r_loadC hl rfl one3 hC (by repeat (first | exact find_head | apply find_tail | apply find_skip)) (by first | exact hct | exact hcr | exact hch | exact hcl | rfl)) rfl ?_
                                  clear hl a; intro a hl
                                  refine d_take (i := 6) hl rfl (by kernel_rfl) (by kernel_rfl) (by kernel_rfl) (by kernel_rfl) (by kernel_rfl) rfl trivial (fun _ _ _ h => h) hM (fun w hC => r_field hl rfl fld45_2) rfl ?_
                                  clear hl a; intro a hl
                                  refine d_take (i := 7) hl rfl (by kernel_rfl) (by kernel_rfl) (by kernel_rfl) (by kernel_rfl) (by kernel_rfl) rfl trivial (fun _ _ _ h => h) hM (fun w hC => r_loadC hl rfl one3 hC (by repeat (first | exact find_head | apply find_tail | apply find_skip)) (by first | exact hct | exact hcr | exact hch | exact hcl | rfl)) rfl ?_
                                  clear hl a; intro a hl
                                  refine d_two (i := 3) (j := 8) (by kernel_rfl) rfl rfl ?_ ?_
                                  ·
                                    try clear hM
                                    refine id (w_load hl hh rfl trivial one48 rfl (by repeat (first | exact find_head | apply find_tail | apply find_skip)) (by first | exact hct | exact hcr | exact hch | exact hcl | rfl) ?_)
                                    clear hl a; intro a hl
                                    have hM : Mem [(k4, C [.int .u8 o.k, .int .i64 o.A, .int .i64 o.B, .slice p o.tx.length cap, .int .u8 o.m.k, .int .u8 o.m.d, .int .u32 o.m.e, .int .u32 o.m.b, .bool o.m.y, .int .u32 o.m.r, .int .u32 o.m.s, .string o.m.t, .int .u8 o.v.k, .int .u8 o.v.a, .int .u8 o.v.b, .int .u8 o.v.w, .int .u8 o.v.da, .int .u8 o.v.dl] 45)] w := (memK hh (by repeat (first | exact keeps_nil | apply keeps_cons (by repeat (first | exact find_head | apply find_tail | apply find_skip)) (by first  | rfl) | exact keeps_self | exact keeps_left | apply keeps_app | apply keeps_mv | apply keeps_skip)))
                                    refine d_step (fun _ => hM) ?_
                                    refine d_one (i := 8) (by kernel_rfl) rfl ?_
                                    try clear hM
                                    refine id (w_call hl hh rfl trivial rfl cal18 rfl (odd_spec _ (by omega)) (by repeat (first | exact keeps_nil | apply keeps_cons (by repeat (first | exact find_head | apply find_tail | apply find_skip)) (by first  | rfl) | exact keeps_self | exact keeps_left | apply keeps_app | apply keeps_mv | apply keeps_skip)) trivial ?_)
                                    clear hl hh a w; intro vc Fc a w hR hl hh
                                    obtain ⟨rfl, rfl⟩ := hR
                                    try simp only [List.cons_append, List.nil_append, List.append_assoc, List.append_nil] at hh
                                    have hM : Mem [(k4, C [.int .u8 o.k, .int .i64 o.A, .int .i64 o.B, .slice p o.tx.length cap, .int .u8 o.m.k, .int .u8 o.m.d, .int .u32 o.m.e, .int .u32 o.m.b, .bool o.m.y, .int .u32 o.m.r, .int .u32 o.m.s, .string o.m.t, .int .u8 o.v.k, .int .u8 o.v.a, .int .u8 o.v.b, .int .u8 o.v.w, .int .u8 o.v.da, .int .u8 o.v.dl] 45)] w := (memK hh (by repeat (first | exact keeps_nil | apply keeps_cons (by repeat (first | exact find_head | apply find_tail | apply find_skip)) (by first  | rfl) | exact keeps_self | exact keeps_left | apply keeps_app | apply keeps_mv | apply keeps_skip)))
                                    refine d_step (fun _ => hM) ?_
                                    refine d_one (i := 9) (by kernel_rfl) rfl ?_
                                    try clear hM
                                    refine id (w_call hl hh rfl trivial rfl cal24 rfl (arm_spec Z W.lb W.l hW.l o.A (by omega) (oddP o.B)) (by repeat (first | exact keeps_nil | apply keeps_cons (by repeat (first | exact find_head | apply find_tail | apply find_skip)) (by first  | rfl) | exact keeps_self | exact keeps_left | apply keeps_app | apply keeps_mv | apply keeps_skip)) trivial ?_)
                                    clear hl hh a w; intro vc Fc a w hR hl hh
                                    obtain ⟨rfl, rfl⟩ := hR
                                    try simp only [List.cons_append, List.nil_append, List.append_assoc, List.append_nil] at hh
                                    simp only [LdV.F, List.cons_append] at hh
                                    refine d_step (fun h => absurd h (by decide)) ?_
                                    refine d_done (by kernel_rfl) ?_
                                    try clear hM
                                    have hl2 := hl.add (t := 2) (hl.add (t := 4) (hl.nil) rfl) rfl; clear hl; have hl := hl2; clear hl2
                                    refine then_normal ?_
                                    refine c_region ?_
                                    refine wl (wl_val hl rfl trivial (r_move hl rfl) ?_)
                                    clear hl a; intro a hl
                                    refine wl (w_loadA hl hh rfl trivial agg45 rfl (by repeat (first | exact find_head | apply find_tail | apply find_skip)) (by rfl) (by rfl) ?_)
                                    clear hl a; intro a hl
                                    refine wl (w_callP hl hh rfl trivial rfl L.dfate rfl (L.fate Z x Fx o.k o.A o.B _ rfl rfl (by omega) (by omega) (by omega) hMx) (by repeat (first | exact keeps_nil | apply keeps_cons (by repeat (first | exact find_head | apply find_tail | apply find_skip)) (by first  | rfl) | exact keeps_self | exact keeps_left | apply keeps_app | apply keeps_mv | apply keeps_skip)) trivial ?_)
                                    clear hl hh a w; intro vc Fc a w hR hl hh
                                    obtain ⟨rfl, hM3⟩ := hR
                                    try simp only [List.cons_append, List.nil_append, List.append_assoc, List.append_nil] at hh
                                    generalize Fc = F3 at hh hM3
                                    try simp only [List.append_assoc, List.cons_append, List.nil_append] at hh
                                    refine w_nil ?_
                                    have hl2 := hl.nil; clear hl; have hl := hl2; clear hl2
                                    refine blk_normal ?_
                                    refine then_normal ?_
                                    refine c_seq ?_
                                    refine c_region ?_
                                    refine wl (wl_val hl rfl trivial (r_assign hl rfl) ?_)
                                    clear hl a; intro a hl
                                    refine w_nil ?_
                                    have hl2 := hl.add (t := 6) (hl.nil) rfl; clear hl; have hl := hl2; clear hl2
                                    refine then_normal ?_
                                    refine wp_ret ?_
                                    refine f_ret1 (F' := F3 ++ ((wb, C (WoV.c W) 55) :: (W.tE ++ (W.gE ++ (DsF W.ds ++ ((W.lb, C (LdV.c (⟨W.l.d, W.l.dn, W.l.fl, if 0 < o.A then o.A else 0, oddP o.B⟩ : LdV)) 91) :: (W.l.d.E ++ Z))))))) hl hh rfl rfl (by repeat (first | exact keeps_nil | apply keeps_cons (by repeat (first | exact find_head | apply find_tail | apply find_skip)) (by first  | rfl) | exact keeps_self | exact keeps_left | apply keeps_app | apply keeps_mv | apply keeps_skip)) ?_
                                    refine StepO.same (W' := { W with l := (⟨W.l.d, W.l.dn, W.l.fl, if 0 < o.A then o.A else 0, oddP o.B⟩ : LdV) }) (led_ok hW ⟨hW.l.d, by simp only; split <;> omega⟩) (Q.fate o.k o.A o.B hJ (.inl ⟨rfl, by omega⟩)) (hn.led rfl rfl) hM3 ?_
                                    unfold WoV.F
                                    rw [show WoV.c { W with l := (⟨W.l.d, W.l.dn, W.l.fl, if 0 < o.A then o.A else 0, oddP o.B⟩ : LdV) } = W.c from wc_same rfl rfl rfl rfl]
                                    simp only [WoV.GF, hg]
                                    try rfl
                                  ·
                                    try clear hM
                                    refine id (w_call hl hh rfl trivial rfl cal18 rfl (odd_spec _ (by omega)) (by repeat (first | exact keeps_nil | apply keeps_cons (by repeat (first | exact find_head | apply find_tail | apply find_skip)) (by first  | rfl) | exact keeps_self | exact keeps_left | apply keeps_app | apply keeps_mv | apply keeps_skip)) trivial ?_)
                                    clear hl hh a w; intro vc Fc a w hR hl hh
                                    obtain ⟨rfl, rfl⟩ := hR
                                    try simp only [List.cons_append, List.nil_append, List.append_assoc, List.append_nil] at hh
                                    have hM : Mem [(k4, C [.int .u8 o.k, .int .i64 o.A, .int .i64 o.B, .slice p o.tx.length cap, .int .u8 o.m.k, .int .u8 o.m.d, .int .u32 o.m.e, .int .u32 o.m.b, .bool o.m.y, .int .u32 o.m.r, .int .u32 o.m.s, .string o.m.t, .int .u8 o.v.k, .int .u8 o.v.a, .int .u8 o.v.b, .int .u8 o.v.w, .int .u8 o.v.da, .int .u8 o.v.dl] 45)] w := (memK hh (by repeat (first | exact keeps_nil | apply keeps_cons (by repeat (first | exact find_head | apply find_tail | apply find_skip)) (by first  | rfl) | exact keeps_self | exact keeps_left | apply keeps_app | apply keeps_mv | apply keeps_skip)))
                                    refine d_step (fun _ => hM) ?_
                                    refine d_one (i := 3) (by kernel_rfl) rfl ?_
                                    try clear hM
                                    refine id (w_load hl hh rfl trivial one48 rfl (by repeat (first | exact find_head | apply find_tail | apply find_skip)) (by first | exact hct | exact hcr | exact hch | exact hcl | rfl) ?_)
                                    clear hl a; intro a hl
                                    have hM : Mem [(k4, C [.int .u8 o.k, .int .i64 o.A, .int .i64 o.B, .slice p o.tx.length cap, .int .u8 o.m.k, .int .u8 o.m.d, .int .u32 o.m.e, .int .u32 o.m.b, .bool o.m.y, .int .u32 o.m.r, .int .u32 o.m.s, .string o.m.t, .int .u8 o.v.k, .int .u8 o.v.a, .int .u8 o.v.b, .int .u8 o.v.w, .int .u8 o.v.da, .int .u8 o.v.dl] 45)] w := (memK hh (by repeat (first | exact keeps_nil | apply keeps_cons (by repeat (first | exact find_head | apply find_tail | apply find_skip)) (by first  | rfl) | exact keeps_self | exact keeps_left | apply keeps_app | apply keeps_mv | apply keeps_skip)))
                                    refine d_step (fun _ => hM) ?_
                                    refine d_one (i := 9) (by kernel_rfl) rfl ?_
                                    try clear hM
                                    refine id (w_call hl hh rfl trivial rfl cal24 rfl (arm_spec Z W.lb W.l hW.l o.A (by omega) (oddP o.B)) (by repeat (first | exact keeps_nil | apply keeps_cons (by repeat (first | exact find_head | apply find_tail | apply find_skip)) (by first  | rfl) | exact keeps_self | exact keeps_left | apply keeps_app | apply keeps_mv | apply keeps_skip)) trivial ?_)
                                    clear hl hh a w; intro vc Fc a w hR hl hh
                                    obtain ⟨rfl, rfl⟩ := hR
                                    try simp only [List.cons_append, List.nil_append, List.append_assoc, List.append_nil] at hh
                                    simp only [LdV.F, List.cons_append] at hh
                                    refine d_step (fun h => absurd h (by decide)) ?_
                                    refine d_done (by kernel_rfl) ?_
                                    try clear hM
                                    have hl2 := hl.add (t := 2) (hl.add (t := 4) (hl.nil) rfl) rfl; clear hl; have hl := hl2; clear hl2
                                    refine then_normal ?_
                                    refine c_region ?_
                                    refine wl (wl_val hl rfl trivial (r_move hl rfl) ?_)
                                    clear hl a; intro a hl
                                    refine wl (w_loadA hl hh rfl trivial agg45 rfl (by repeat (first | exact find_head | apply find_tail | apply find_skip)) (by rfl) (by rfl) ?_)
                                    clear hl a; intro a hl
                                    refine wl (w_callP hl hh rfl trivial rfl L.dfate rfl (L.fate Z x Fx o.k o.A o.B _ rfl rfl (by omega) (by omega) (by omega) hMx) (by repeat (first | exact keeps_nil | apply keeps_cons (by repeat (first | exact find_head | apply find_tail | apply find_skip)) (by first  | rfl) | exact keeps_self | exact keeps_left | apply keeps_app | apply keeps_mv | apply keeps_skip)) trivial ?_)
                                    clear hl hh a w; intro vc Fc a w hR hl hh
                                    obtain ⟨rfl, hM3⟩ := hR
                                    try simp only [List.cons_append, List.nil_append, List.append_assoc, List.append_nil] at hh
                                    generalize Fc = F3 at hh hM3
                                    try simp only [List.append_assoc, List.cons_append, List.nil_append] at hh
                                    refine w_nil ?_
                                    have hl2 := hl.nil; clear hl; have hl := hl2; clear hl2
                                    refine blk_normal ?_
                                    refine then_normal ?_
                                    refine c_seq ?_
                                    refine c_region ?_
                                    refine wl (wl_val hl rfl trivial (r_assign hl rfl) ?_)
                                    clear hl a; intro a hl
                                    refine w_nil ?_
                                    have hl2 := hl.add (t := 6) (hl.nil) rfl; clear hl; have hl := hl2; clear hl2
                                    refine then_normal ?_
                                    refine wp_ret ?_
                                    refine f_ret1 (F' := F3 ++ ((wb, C (WoV.c W) 55) :: (W.tE ++ (W.gE ++ (DsF W.ds ++ ((W.lb, C (LdV.c (⟨W.l.d, W.l.dn, W.l.fl, if 0 < o.A then o.A else 0, oddP o.B⟩ : LdV)) 91) :: (W.l.d.E ++ Z))))))) hl hh rfl rfl (by repeat (first | exact keeps_nil | apply keeps_cons (by repeat (first | exact find_head | apply find_tail | apply find_skip)) (by first  | rfl) | exact keeps_self | exact keeps_left | apply keeps_app | apply keeps_mv | apply keeps_skip)) ?_
                                    refine StepO.same (W' := { W with l := (⟨W.l.d, W.l.dn, W.l.fl, if 0 < o.A then o.A else 0, oddP o.B⟩ : LdV) }) (led_ok hW ⟨hW.l.d, by simp only; split <;> omega⟩) (Q.fate o.k o.A o.B hJ (.inl ⟨rfl, by omega⟩)) (hn.led rfl rfl) hM3 ?_
                                    unfold WoV.F
                                    rw [show WoV.c { W with l := (⟨W.l.d, W.l.dn, W.l.fl, if 0 < o.A then o.A else 0, oddP o.B⟩ : LdV) } = W.c from wc_same rfl rfl rfl rfl]
                                    simp only [WoV.GF, hg]
                                    try rfl
                                · intro hc20
                                  try simp only [decide_eq_true_eq, decide_eq_false_iff_not, Bool.not_eq_true', Bool.not_eq_false', Bool.not_eq_true, Bool.not_eq_false, Bool.and_eq_true, Bool.or_eq_true, Bool.and_eq_false_iff, Bool.or_eq_false_iff, Bool.not_not, ne_eq, Int.not_lt, Int.not_le, Decidable.not_not, beq_iff_eq, bne_iff_ne] at hc20
                                  exfalso; first | contradiction | omega

set_option maxHeartbeats 8000000 in
theorem step_fulld {lb wb : Nat} (L : LawM lb wb) (Q : LawJ L) (Z : List (Nat × Obj)) (W : WoV) (hW : W.ok Z) (n : Nat) (hn9 : n + 200 < 1000000000) (x : L.X) (Fx : List (Nat × Obj)) (hMx : L.M Z x Fx) (hJ : Q.J (W.pl [] []) x) (hn : WI n (W.pl [] [])) (o : OpP) (p : Option Addr) (cap : Nat) (ho : OpOk Z o p cap) (hk : o.k = 16) (hg : W.g = none) : Sp Tryz.prog 12 #[.pointer (some ⟨wb, 0, none⟩), .agg ⟨opC o p cap⟩, Lw L.T lb] (Fx ++ WoV.F wb W Z) (fun v F' => StepO Q Z n v F') := by
  refine f_enter (args := [.pointer (some ⟨wb, 0, none⟩), .agg ⟨[.int .u8 o.k, .int .i64 o.A, .int .i64 o.B, .slice p o.tx.length cap, .int .u8 o.m.k, .int .u8 o.m.d, .int .u32 o.m.e, .int .u32 o.m.b, .bool o.m.y, .int .u32 o.m.r, .int .u32 o.m.s, .string o.m.t, .int .u8 o.v.k, .int .u8 o.v.a, .int .u8 o.v.b, .int .u8 o.v.w, .int .u8 o.v.da, .int .u8 o.v.dl]⟩, .iface L.T (.pointer (some ⟨lb, 0, none⟩))]) Tryz.func12 rfl Tryz.ntmps12 rfl ?_
  intro w0 w a hpre hl hh
  generalize hDD : List.map Prod.fst (Fx ++ WoV.F wb W Z) = D at hh ⊢
  simp only [WoV.F] at hh
  have hct := wc_td W hW.dl
  have hcr := wc_tg W hW.dl
  have hch := wc_hn W hW.dl
  have hcl := wc_led W
  have hwl := wc_len W hW.dl
  have ho1 := ho.k
  have ho2 := ho.A
  have ho3 := ho.B
  have htl := hW.tl
  have hrl := hW.rl
  simp only [WoV.GF, hg] at hh
  simp only [slotsFrom, Nat.reduceAdd] at hl
  refine c_seq ?_
  refine c_region ?_
  refine wl (w_box hl hh rfl trivial rfl rfl ?_)
  clear hl hh a w; intro k4 a w hl hh
  refine wl (wl_val hl rfl trivial (r_assign hl rfl) ?_)
  clear hl a; intro a hl
  refine w_nil ?_
  have hl2 := hl.add (t := 0) (hl.add (t := 2) (hl.add (t := 4) (hl.nil) rfl) rfl) rfl; clear hl; have hl := hl2; clear hl2
  refine then_normal ?_
  refine c_seq ?_
  refine c_region ?_
  refine wl (wl_val hl rfl trivial (r_move hl rfl) ?_)
  clear hl a; intro a hl
  refine wl (wl_val hl rfl trivial (r_nilCheck hl rfl) ?_)
  clear hl a; intro a hl
  refine wl (wl_val hl rfl trivial (r_field hl rfl fld55_3) ?_)
  clear hl a; intro a hl
  refine wl (wl_val hl rfl trivial (r_assign hl rfl) ?_)
  clear hl a; intro a hl
  refine w_nil ?_
  have hl2 := hl.add (t := 0) (hl.add (t := 2) (hl.add (t := 4) (hl.add (t := 7) (hl.nil) rfl) rfl) rfl) rfl; clear hl; have hl := hl2; clear hl2
  refine then_normal ?_
  refine c_seq ?_
  refine c_seq ?_
  refine c_region ?_
  refine wl (wl_val hl rfl trivial (r_field hl rfl fld45_2) ?_)
  clear hl a; intro a hl
  refine wl (w_load hl hh rfl trivial one3 rfl (by repeat (first | exact find_head | apply find_tail | apply find_skip)) (by first | exact hct | exact hcr | exact hch | exact hcl | rfl) ?_)
  clear hl a; intro a hl
  refine wl (w_call hl hh rfl trivial rfl cal18 rfl (odd_spec _ (by omega)) (by repeat (first | exact keeps_nil | apply keeps_cons (by repeat (first | exact find_head | apply find_tail | apply find_skip)) (by first  | rfl) | exact keeps_self | exact keeps_left | apply keeps_app | apply keeps_mv | apply keeps_skip)) trivial ?_)
  clear hl hh a w; intro vc Fc a w hR hl hh
  obtain ⟨rfl, rfl⟩ := hR
  try simp only [List.cons_append, List.nil_append, List.append_assoc, List.append_nil] at hh
  refine w_nil ?_
  have hl2 := hl.add (t := 0) (hl.add (t := 2) (hl.add (t := 4) (hl.add (t := 7) (hl.add (t := 13) (hl.nil) rfl) rfl) rfl) rfl) rfl; clear hl; have hl := hl2; clear hl2
  refine then_normal ?_
  refine c_cond hl rfl ?_ ?_
  · intro hc0
    try simp only [decide_eq_true_eq, decide_eq_false_iff_not, Bool.not_eq_true', Bool.not_eq_false', Bool.not_eq_true, Bool.not_eq_false, Bool.and_eq_true, Bool.or_eq_true, Bool.and_eq_false_iff, Bool.or_eq_false_iff, Bool.not_not, ne_eq, Int.not_lt, Int.not_le, Decidable.not_not, beq_iff_eq, bne_iff_ne] at hc0
    refine c_region ?_
    refine wl (wl_val hl rfl trivial (r_move hl rfl) ?_)
    clear hl a; intro a hl
    refine wl (wl_val hl rfl trivial (r_nilCheck hl rfl) ?_)
    clear hl a; intro a hl
    refine wl (wl_val hl rfl trivial (r_field hl rfl fld55_4) ?_)
    clear hl a; intro a hl
    refine wl (wl_val hl rfl trivial (r_assign hl rfl) ?_)
    clear hl a; intro a hl
    refine w_nil ?_
    have hl2 := hl.add (t := 0) (hl.add (t := 2) (hl.add (t := 4) (hl.add (t := 7) (hl.nil) rfl) rfl) rfl) rfl; clear hl; have hl := hl2; clear hl2
    refine then_normal ?_
    refine c_seq ?_
    refine c_seq ?_
    refine c_region ?_
    refine wl (wl_val hl rfl trivial (r_field hl rfl fld45_0) ?_)
    clear hl a; intro a hl
    refine wl (w_load hl hh rfl trivial one33 rfl (by repeat (first | exact find_head | apply find_tail | apply find_skip)) (by first | exact hct | exact hcr | exact hch | exact hcl | rfl) ?_)
    clear hl a; intro a hl
    refine w_nil ?_
    have hl2 := hl.add (t := 0) (hl.add (t := 2) (hl.add (t := 4) (hl.add (t := 7) (hl.add (t := 18) (hl.nil) rfl) rfl) rfl) rfl) rfl; clear hl; have hl := hl2; clear hl2
    refine then_normal ?_
    refine wp_block ?_
    refine c_seq ?_
    refine c_region ?_
    refine wl (wl_val hl rfl trivial (r_eql hl rfl rfl) ?_)
    clear hl a; intro a hl
    refine wl (wl_val hl rfl trivial (r_assign hl rfl) ?_)
    clear hl a; intro a hl
    refine w_nil ?_
    have hl2 := hl.add (t := 0) (hl.add (t := 2) (hl.add (t := 4) (hl.add (t := 7) (hl.add (t := 18) (hl.add (t := 19) (hl.nil) rfl) rfl) rfl) rfl) rfl) rfl; clear hl; have hl := hl2; clear hl2
    refine then_normal ?_
    refine c_cond hl rfl ?_ ?_
    · intro hc1
      try simp only [decide_eq_true_eq, decide_eq_false_iff_not, Bool.not_eq_true', Bool.not_eq_false', Bool.not_eq_true, Bool.not_eq_false, Bool.and_eq_true, Bool.or_eq_true, Bool.and_eq_false_iff, Bool.or_eq_false_iff, Bool.not_not, ne_eq, Int.not_lt, Int.not_le, Decidable.not_not, beq_iff_eq, bne_iff_ne] at hc1
      exfalso; first | contradiction | omega
    · intro hc1
      try simp only [decide_eq_true_eq, decide_eq_false_iff_not, Bool.not_eq_true', Bool.not_eq_false', Bool.not_eq_true, Bool.not_eq_false, Bool.and_eq_true, Bool.or_eq_true, Bool.and_eq_false_iff, Bool.or_eq_false_iff, Bool.not_not, ne_eq, Int.not_lt, Int.not_le, Decidable.not_not, beq_iff_eq, bne_iff_ne] at hc1
      refine c_seq ?_
      refine c_seq ?_
      refine c_region ?_
      refine wl (wl_val hl rfl trivial (r_eql hl rfl rfl) ?_)
      clear hl a; intro a hl
      refine wl (wl_val hl rfl trivial (r_assign hl rfl) ?_)
      clear hl a; intro a hl
      refine w_nil ?_
      have hl2 := hl.add (t := 0) (hl.add (t := 2) (hl.add (t := 4) (hl.add (t := 7) (hl.add (t := 18) (hl.add (t := 27) (hl.nil) rfl) rfl) rfl) rfl) rfl) rfl; clear hl; have hl := hl2; clear hl2
      refine then_normal ?_
      refine c_cond hl rfl ?_ ?_
      · intro hc2
        try simp only [decide_eq_true_eq, decide_eq_false_iff_not, Bool.not_eq_true', Bool.not_eq_false', Bool.not_eq_true, Bool.not_eq_false, Bool.and_eq_true, Bool.or_eq_true, Bool.and_eq_false_iff, Bool.or_eq_false_iff, Bool.not_not, ne_eq, Int.not_lt, Int.not_le, Decidable.not_not, beq_iff_eq, bne_iff_ne] at hc2
        exfalso; first | contradiction | omega
      · intro hc2
        try simp only [decide_eq_true_eq, decide_eq_false_iff_not, Bool.not_eq_true', Bool.not_eq_false', Bool.not_eq_true, Bool.not_eq_false, Bool.and_eq_true, Bool.or_eq_true, Bool.and_eq_false_iff, Bool.or_eq_false_iff, Bool.not_not, ne_eq, Int.not_lt, Int.not_le, Decidable.not_not, beq_iff_eq, bne_iff_ne] at hc2
        refine c_region ?_
        refine wl (wl_val hl rfl trivial (r_eql hl rfl rfl) ?_)
        clear hl a; intro a hl
        refine wl (wl_val hl rfl trivial (r_assign hl rfl) ?_)
        clear hl a; intro a hl
        refine w_nil ?_
        have hl2 := hl.add (t := 0) (hl.add (t := 2) (hl.add (t := 4) (hl.add (t := 7) (hl.add (t := 18) (hl.add (t := 27) (hl.nil) rfl) rfl) rfl) rfl) rfl) rfl; clear hl; have hl := hl2; clear hl2
        refine then_normal ?_
        refine c_cond hl rfl ?_ ?_
        · intro hc3
          try simp only [decide_eq_true_eq, decide_eq_false_iff_not, Bool.not_eq_true', Bool.not_eq_false', Bool.not_eq_true, Bool.not_eq_false, Bool.and_eq_true, Bool.or_eq_true, Bool.and_eq_false_iff, Bool.or_eq_false_iff, Bool.not_not, ne_eq, Int.not_lt, Int.not_le, Decidable.not_not, beq_iff_eq, bne_iff_ne] at hc3
          exfalso; first | contradiction | omega
        · intro hc3
          try simp only [decide_eq_true_eq, decide_eq_false_iff_not, Bool.not_eq_true', Bool.not_eq_false', Bool.not_eq_true, Bool.not_eq_false, Bool.and_eq_true, Bool.or_eq_true, Bool.and_eq_false_iff, Bool.or_eq_false_iff, Bool.not_not, ne_eq, Int.not_lt, Int.not_le, Decidable.not_not, beq_iff_eq, bne_iff_ne] at hc3
          refine c_seq ?_
          refine c_seq ?_
          refine c_region ?_
          refine wl (wl_val hl rfl trivial (r_eql hl rfl rfl) ?_)
          clear hl a; intro a hl
          refine wl (wl_val hl rfl trivial (r_assign hl rfl) ?_)
          clear hl a; intro a hl
          refine w_nil ?_
          have hl2 := hl.add (t := 0) (hl.add (t := 2) (hl.add (t := 4) (hl.add (t := 7) (hl.add (t := 18) (hl.add (t := 39) (hl.nil) rfl) rfl) rfl) rfl) rfl) rfl; clear hl; have hl := hl2; clear hl2
          refine then_normal ?_
          refine c_cond hl rfl ?_ ?_
          · intro hc4
            try simp only [decide_eq_true_eq, decide_eq_false_iff_not, Bool.not_eq_true', Bool.not_eq_false', Bool.not_eq_true, Bool.not_eq_false, Bool.and_eq_true, Bool.or_eq_true, Bool.and_eq_false_iff, Bool.or_eq_false_iff, Bool.not_not, ne_eq, Int.not_lt, Int.not_le, Decidable.not_not, beq_iff_eq, bne_iff_ne] at hc4
            exfalso; first | contradiction | omega
          · intro hc4
            try simp only [decide_eq_true_eq, decide_eq_false_iff_not, Bool.not_eq_true', Bool.not_eq_false', Bool.not_eq_true, Bool.not_eq_false, Bool.and_eq_true, Bool.or_eq_true, Bool.and_eq_false_iff, Bool.or_eq_false_iff, Bool.not_not, ne_eq, Int.not_lt, Int.not_le, Decidable.not_not, beq_iff_eq, bne_iff_ne] at hc4
            refine c_region ?_
            refine wl (wl_val hl rfl trivial (r_eql hl rfl rfl) ?_)
            clear hl a; intro a hl
            refine wl (wl_val hl rfl trivial (r_assign hl rfl) ?_)
            clear hl a; intro a hl
            refine w_nil ?_
            have hl2 := hl.add (t := 0) (hl.add (t := 2) (hl.add (t := 4) (hl.add (t := 7) (hl.add (t := 18) (hl.add (t := 39) (hl.nil) rfl) rfl) rfl) rfl) rfl) rfl; clear hl; have hl := hl2; clear hl2
            refine then_normal ?_
            refine c_cond hl rfl ?_ ?_
            · intro hc5
              try simp only [decide_eq_true_eq, decide_eq_false_iff_not, Bool.not_eq_true', Bool.not_eq_false', Bool.not_eq_true, Bool.not_eq_false, Bool.and_eq_true, Bool.or_eq_true, Bool.and_eq_false_iff, Bool.or_eq_false_iff, Bool.not_not, ne_eq, Int.not_lt, Int.not_le, Decidable.not_not, beq_iff_eq, bne_iff_ne] at hc5
              exfalso; first | contradiction | omega
            · intro hc5
              try simp only [decide_eq_true_eq, decide_eq_false_iff_not, Bool.not_eq_true', Bool.not_eq_false', Bool.not_eq_true, Bool.not_eq_false, Bool.and_eq_true, Bool.or_eq_true, Bool.and_eq_false_iff, Bool.or_eq_false_iff, Bool.not_not, ne_eq, Int.not_lt, Int.not_le, Decidable.not_not, beq_iff_eq, bne_iff_ne] at hc5
              refine c_seq ?_
              refine c_region ?_
              refine wl (wl_val hl rfl trivial (r_eql hl rfl rfl) ?_)
              clear hl a; intro a hl
              refine wl (wl_val hl rfl trivial (r_assign hl rfl) ?_)
              clear hl a; intro a hl
              refine w_nil ?_
              have hl2 := hl.add (t := 0) (hl.add (t := 2) (hl.add (t := 4) (hl.add (t := 7) (hl.add (t := 18) (hl.add (t := 50) (hl.nil) rfl) rfl) rfl) rfl) rfl) rfl; clear hl; have hl := hl2; clear hl2
              refine then_normal ?_
              refine c_cond hl rfl ?_ ?_
              · intro hc6
                try simp only [decide_eq_true_eq, decide_eq_false_iff_not, Bool.not_eq_true', Bool.not_eq_false', Bool.not_eq_true, Bool.not_eq_false, Bool.and_eq_true, Bool.or_eq_true, Bool.and_eq_false_iff, Bool.or_eq_false_iff, Bool.not_not, ne_eq, Int.not_lt, Int.not_le, Decidable.not_not, beq_iff_eq, bne_iff_ne] at hc6
                exfalso; first | contradiction | omega
              · intro hc6
                try simp only [decide_eq_true_eq, decide_eq_false_iff_not, Bool.not_eq_true', Bool.not_eq_false', Bool.not_eq_true, Bool.not_eq_false, Bool.and_eq_true, Bool.or_eq_true, Bool.and_eq_false_iff, Bool.or_eq_false_iff, Bool.not_not, ne_eq, Int.not_lt, Int.not_le, Decidable.not_not, beq_iff_eq, bne_iff_ne] at hc6
                refine c_seq ?_
                refine c_region ?_
                refine wl (wl_val hl rfl trivial (r_eql hl rfl rfl) ?_)
                clear hl a; intro a hl
                refine wl (wl_val hl rfl trivial (r_assign hl rfl) ?_)
                clear hl a; intro a hl
                refine w_nil ?_
                have hl2 := hl.add (t := 0) (hl.add (t := 2) (hl.add (t := 4) (hl.add (t := 7) (hl.add (t := 18) (hl.add (t := 62) (hl.nil) rfl) rfl) rfl) rfl) rfl) rfl; clear hl; have hl := hl2; clear hl2
                refine then_normal ?_
                refine c_cond hl rfl ?_ ?_
                · intro hc7
                  try simp only [decide_eq_true_eq, decide_eq_false_iff_not, Bool.not_eq_true', Bool.not_eq_false', Bool.not_eq_true, Bool.not_eq_false, Bool.and_eq_true, Bool.or_eq_true, Bool.and_eq_false_iff, Bool.or_eq_false_iff, Bool.not_not, ne_eq, Int.not_lt, Int.not_le, Decidable.not_not, beq_iff_eq, bne_iff_ne] at hc7
                  exfalso; first | contradiction | omega
                · intro hc7
                  try simp only [decide_eq_true_eq, decide_eq_false_iff_not, Bool.not_eq_true', Bool.not_eq_false', Bool.not_eq_true, Bool.not_eq_false, Bool.and_eq_true, Bool.or_eq_true, Bool.and_eq_false_iff, Bool.or_eq_false_iff, Bool.not_not, ne_eq, Int.not_lt, Int.not_le, Decidable.not_not, beq_iff_eq, bne_iff_ne] at hc7
                  refine c_seq ?_
                  refine c_region ?_
                  refine wl (wl_val hl rfl trivial (r_eql hl rfl rfl) ?_)
                  clear hl a; intro a hl
                  refine wl (wl_val hl rfl trivial (r_assign hl rfl) ?_)
                  clear hl a; intro a hl
                  refine w_nil ?_
                  have hl2 := hl.add (t := 0) (hl.add (t := 2) (hl.add (t := 4) (hl.add (t := 7) (hl.add (t := 18) (hl.add (t := 68) (hl.nil) rfl) rfl) rfl) rfl) rfl) rfl; clear hl; have hl := hl2; clear hl2
                  refine then_normal ?_
                  refine c_cond hl rfl ?_ ?_
                  · intro hc8
                    try simp only [decide_eq_true_eq, decide_eq_false_iff_not, Bool.not_eq_true', Bool.not_eq_false', Bool.not_eq_true, Bool.not_eq_false, Bool.and_eq_true, Bool.or_eq_true, Bool.and_eq_false_iff, Bool.or_eq_false_iff, Bool.not_not, ne_eq, Int.not_lt, Int.not_le, Decidable.not_not, beq_iff_eq, bne_iff_ne] at hc8
                    exfalso; first | contradiction | omega
                  · intro hc8
                    try simp only [decide_eq_true_eq, decide_eq_false_iff_not, Bool.not_eq_true', Bool.not_eq_false', Bool.not_eq_true, Bool.not_eq_false, Bool.and_eq_true, Bool.or_eq_true, Bool.and_eq_false_iff, Bool.or_eq_false_iff, Bool.not_not, ne_eq, Int.not_lt, Int.not_le, Decidable.not_not, beq_iff_eq, bne_iff_ne] at hc8
                    refine c_seq ?_
                    refine c_region ?_
                    refine wl (wl_val hl rfl trivial (r_eql hl rfl rfl) ?_)
                    clear hl a; intro a hl
                    refine wl (wl_val hl rfl trivial (r_assign hl rfl) ?_)
                    clear hl a; intro a hl
                    refine w_nil ?_
                    have hl2 := hl.add (t := 0) (hl.add (t := 2) (hl.add (t := 4) (hl.add (t := 7) (hl.add (t := 18) (hl.add (t := 90) (hl.nil) rfl) rfl) rfl) rfl) rfl) rfl; clear hl; have hl := hl2; clear hl2
                    refine then_normal ?_
                    refine c_cond hl rfl ?_ ?_
                    · intro hc10
                      try simp only [decide_eq_true_eq, decide_eq_false_iff_not, Bool.not_eq_true', Bool.not_eq_false', Bool.not_eq_true, Bool.not_eq_false, Bool.and_eq_true, Bool.or_eq_true, Bool.and_eq_false_iff, Bool.or_eq_false_iff, Bool.not_not, ne_eq, Int.not_lt, Int.not_le, Decidable.not_not, beq_iff_eq, bne_iff_ne] at hc10
                      exfalso; first | contradiction | omega
                    · intro hc10
                      try simp only [decide_eq_true_eq, decide_eq_false_iff_not, Bool.not_eq_true', Bool.not_eq_false', Bool.not_eq_true, Bool.not_eq_false, Bool.and_eq_true, Bool.or_eq_true, Bool.and_eq_false_iff, Bool.or_eq_false_iff, Bool.not_not, ne_eq, Int.not_lt, Int.not_le, Decidable.not_not, beq_iff_eq, bne_iff_ne] at hc10
                      refine c_seq ?_
                      refine c_region ?_
                      refine wl (wl_val hl rfl trivial (r_eql hl rfl rfl) ?_)
                      clear hl a; intro a hl
                      refine wl (wl_val hl rfl trivial (r_assign hl rfl) ?_)
                      clear hl a; intro a hl
                      refine w_nil ?_
                      have hl2 := hl.add (t := 0) (hl.add (t := 2) (hl.add (t := 4) (hl.add (t := 7) (hl.add (t := 18) (hl.add (t := 114) (hl.nil) rfl) rfl) rfl) rfl) rfl) rfl; clear hl; have hl := hl2; clear hl2
                      refine then_normal ?_
                      refine c_cond hl rfl ?_ ?_
                      · intro hc12
                        try simp only [decide_eq_true_eq, decide_eq_false_iff_not, Bool.not_eq_true', Bool.not_eq_false', Bool.not_eq_true, Bool.not_eq_false, Bool.and_eq_true, Bool.or_eq_true, Bool.and_eq_false_iff, Bool.or_eq_false_iff, Bool.not_not, ne_eq, Int.not_lt, Int.not_le, Decidable.not_not, beq_iff_eq, bne_iff_ne] at hc12
                        exfalso; first | contradiction | omega
                      · intro hc12
                        try simp only [decide_eq_true_eq, decide_eq_false_iff_not, Bool.not_eq_true', Bool.not_eq_false', Bool.not_eq_true, Bool.not_eq_false, Bool.and_eq_true, Bool.or_eq_true, Bool.and_eq_false_iff, Bool.or_eq_false_iff, Bool.not_not, ne_eq, Int.not_lt, Int.not_le, Decidable.not_not, beq_iff_eq, bne_iff_ne] at hc12
                        refine c_seq ?_
                        refine c_region ?_
                        refine wl (wl_val hl rfl trivial (r_eql hl rfl rfl) ?_)
                        clear hl a; intro a hl
                        refine wl (wl_val hl rfl trivial (r_assign hl rfl) ?_)
                        clear hl a; intro a hl
                        refine w_nil ?_
                        have hl2 := hl.add (t := 0) (hl.add (t := 2) (hl.add (t := 4) (hl.add (t := 7) (hl.add (t := 18) (hl.add (t := 130) (hl.nil) rfl) rfl) rfl) rfl) rfl) rfl; clear hl; have hl := hl2; clear hl2
                        refine then_normal ?_
                        refine c_cond hl rfl ?_ ?_
                        · intro hc14
                          try simp only [decide_eq_true_eq, decide_eq_false_iff_not, Bool.not_eq_true', Bool.not_eq_false', Bool.not_eq_true, Bool.not_eq_false, Bool.and_eq_true, Bool.or_eq_true, Bool.and_eq_false_iff, Bool.or_eq_false_iff, Bool.not_not, ne_eq, Int.not_lt, Int.not_le, Decidable.not_not, beq_iff_eq, bne_iff_ne] at hc14
                          exfalso; first | contradiction | omega
                        · intro hc14
                          try simp only [decide_eq_true_eq, decide_eq_false_iff_not, Bool.not_eq_true', Bool.not_eq_false', Bool.not_eq_true, Bool.not_eq_false, Bool.and_eq_true, Bool.or_eq_true, Bool.and_eq_false_iff, Bool.or_eq_false_iff, Bool.not_not, ne_eq, Int.not_lt, Int.not_le, Decidable.not_not, beq_iff_eq, bne_iff_ne] at hc14
                          refine c_seq ?_
                          refine c_region ?_
                          refine wl (wl_val hl rfl trivial (r_eql hl rfl rfl) ?_)
                          clear hl a; intro a hl
                          refine wl (wl_val hl rfl trivial (r_assign hl rfl) ?_)
                          clear hl a; intro a hl
                          refine w_nil ?_
                          have hl2 := hl.add (t := 0) (hl.add (t := 2) (hl.add (t := 4) (hl.add (t := 18) (hl.add (t := 152) (hl.nil) rfl) rfl) rfl) rfl) rfl; clear hl; have hl := hl2; clear hl2
                          refine then_normal ?_
                          refine c_cond hl rfl ?_ ?_
                          · intro hc16
                            try simp only [decide_eq_true_eq, decide_eq_false_iff_not, Bool.not_eq_true', Bool.not_eq_false', Bool.not_eq_true, Bool.not_eq_false, Bool.and_eq_true, Bool.or_eq_true, Bool.and_eq_false_iff, Bool.or_eq_false_iff, Bool.not_not, ne_eq, Int.not_lt, Int.not_le, Decidable.not_not, beq_iff_eq, bne_iff_ne] at hc16
                            exfalso; first | contradiction | omega
                          · intro hc16
                            try simp only [decide_eq_true_eq, decide_eq_false_iff_not, Bool.not_eq_true', Bool.not_eq_false', Bool.not_eq_true, Bool.not_eq_false, Bool.and_eq_true, Bool.or_eq_true, Bool.and_eq_false_iff, Bool.or_eq_false_iff, Bool.not_not, ne_eq, Int.not_lt, Int.not_le, Decidable.not_not, beq_iff_eq, bne_iff_ne] at hc16
                            refine c_seq ?_
                            refine c_region ?_
                            refine wl (wl_val hl rfl trivial (r_eql hl rfl rfl) ?_)
                            clear hl a; intro a hl
                            refine wl (wl_val hl rfl trivial (r_assign hl rfl) ?_)
                            clear hl a; intro a hl
                            refine w_nil ?_
                            have hl2 := hl.add (t := 0) (hl.add (t := 2) (hl.add (t := 4) (hl.add (t := 18) (hl.add (t := 157) (hl.nil) rfl) rfl) rfl) rfl) rfl; clear hl; have hl := hl2; clear hl2
                            refine then_normal ?_
                            refine c_cond hl rfl ?_ ?_
                            · intro hc17
                              try simp only [decide_eq_true_eq, decide_eq_false_iff_not, Bool.not_eq_true', Bool.not_eq_false', Bool.not_eq_true, Bool.not_eq_false, Bool.and_eq_true, Bool.or_eq_true, Bool.and_eq_false_iff, Bool.or_eq_false_iff, Bool.not_not, ne_eq, Int.not_lt, Int.not_le, Decidable.not_not, beq_iff_eq, bne_iff_ne] at hc17
                              exfalso; first | contradiction | omega
                            · intro hc17
                              try simp only [decide_eq_true_eq, decide_eq_false_iff_not, Bool.not_eq_true', Bool.not_eq_false', Bool.not_eq_true, Bool.not_eq_false, Bool.and_eq_true, Bool.or_eq_true, Bool.and_eq_false_iff, Bool.or_eq_false_iff, Bool.not_not, ne_eq, Int.not_lt, Int.not_le, Decidable.not_not, beq_iff_eq, bne_iff_ne] at hc17
                              refine c_seq ?_
                              refine c_region ?_
                              refine wl (wl_val hl rfl trivial (r_eql hl rfl rfl) ?_)
                              clear hl a; intro a hl
                              refine wl (wl_val hl rfl trivial (r_assign hl rfl) ?_)
                              clear hl a; intro a hl
                              refine w_nil ?_
                              have hl2 := hl.add (t := 0) (hl.add (t := 2) (hl.add (t := 4) (hl.add (t := 18) (hl.add (t := 170) (hl.nil) rfl) rfl) rfl) rfl) rfl; clear hl; have hl := hl2; clear hl2
                              refine then_normal ?_
                              refine c_cond hl rfl ?_ ?_
                              · intro hc19
                                try simp only [decide_eq_true_eq, decide_eq_false_iff_not, Bool.not_eq_true', Bool.not_eq_false', Bool.not_eq_true, Bool.not_eq_false, Bool.and_eq_true, Bool.or_eq_true, Bool.and_eq_false_iff, Bool.or_eq_false_iff, Bool.not_not, ne_eq, Int.not_lt, Int.not_le, Decidable.not_not, beq_iff_eq, bne_iff_ne] at hc19
                                exfalso; first | contradiction | omega
                              · intro hc19
                                try simp only [decide_eq_true_eq, decide_eq_false_iff_not, Bool.not_eq_true', Bool.not_eq_false', Bool.not_eq_true, Bool.not_eq_false, Bool.and_eq_true, Bool.or_eq_true, Bool.and_eq_false_iff, Bool.or_eq_false_iff, Bool.not_not, ne_eq, Int.not_lt, Int.not_le, Decidable.not_not, beq_iff_eq, bne_iff_ne] at hc19
                                refine c_seq ?_
                                refine c_region ?_
                                refine wl (wl_val hl rfl trivial (r_eql hl rfl rfl) ?_)
                                clear hl a; intro a hl
                                refine wl (wl_val hl rfl trivial (r_assign hl rfl) ?_)
                                clear hl a; intro a hl
                                refine w_nil ?_
                                have hl2 := hl.add (t := 0) (hl.add (t := 2) (hl.add (t := 4) (hl.add (t := 18) (hl.add (t := 185) (hl.nil) rfl) rfl) rfl) rfl) rfl; clear hl; have hl := hl2; clear hl2
                                refine then_normal ?_
                                refine c_cond hl rfl ?_ ?_
                                · intro hc20
                                  try simp only [decide_eq_true_eq, decide_eq_false_iff_not, Bool.not_eq_true', Bool.not_eq_false', Bool.not_eq_true, Bool.not_eq_false, Bool.and_eq_true, Bool.or_eq_true, Bool.and_eq_false_iff, Bool.or_eq_false_iff, Bool.not_not, ne_eq, Int.not_lt, Int.not_le, Decidable.not_not, beq_iff_eq, bne_iff_ne] at hc20
                                  exfalso; first | contradiction | omega
                                · intro hc20
                                  try simp only [decide_eq_true_eq, decide_eq_false_iff_not, Bool.not_eq_true', Bool.not_eq_false', Bool.not_eq_true, Bool.not_eq_false, Bool.and_eq_true, Bool.or_eq_true, Bool.and_eq_false_iff, Bool.or_eq_false_iff, Bool.not_not, ne_eq, Int.not_lt, Int.not_le, Decidable.not_not, beq_iff_eq, bne_iff_ne] at hc20
                                  refine c_seq ?_
                                  refine c_region ?_
                                  refine wl (wl_val hl rfl trivial (r_eql hl rfl rfl) ?_)
                                  clear hl a; intro a hl
                                  refine wl (wl_val hl rfl trivial (r_assign hl rfl) ?_)
                                  clear hl a; intro a hl
                                  refine w_nil ?_
                                  have hl2 := hl.add (t := 0) (hl.add (t := 2) (hl.add (t := 4) (hl.add (t := 18) (hl.add (t := 200) (hl.nil) rfl) rfl) rfl) rfl) rfl; clear hl; have hl := hl2; clear hl2
                                  refine then_normal ?_
                                  refine c_cond hl rfl ?_ ?_
                                  · intro hc21
                                    try simp only [decide_eq_true_eq, decide_eq_false_iff_not, Bool.not_eq_true', Bool.not_eq_false', Bool.not_eq_true, Bool.not_eq_false, Bool.and_eq_true, Bool.or_eq_true, Bool.and_eq_false_iff, Bool.or_eq_false_iff, Bool.not_not, ne_eq, Int.not_lt, Int.not_le, Decidable.not_not, beq_iff_eq, bne_iff_ne] at hc21
                                    refine c_seq ?_
                                    refine c_draw [(k4, C [.int .u8 o.k, .int .i64 o.A, .int .i64 o.B, .slice p o.tx.length cap, .int .u8 o.m.k, .int .u8 o.m.d, .int .u32 o.m.e, .int .u32 o.m.b, .bool o.m.y, .int .u32 o.m.r, .int .u32 o.m.s, .string o.m.t, .int .u8 o.v.k, .int .u8 o.v.a, .int .u8 o.v.b, .int .u8 o.v.w, .int .u8 o.v.da, .int .u8 o.v.dl] 45)] [7] mixed hh ?_
                                    clear hh w; intro w hh
                                    have hM : Mem [(k4, C [.int .u8 o.k, .int .i64 o.A, .int .i64 o.B, .slice p o.tx.length cap, .int .u8 o.m.k, .int .u8 o.m.d, .int .u32 o.m.e, .int .u32 o.m.b, .bool o.m.y, .int .u32 o.m.r, .int .u32 o.m.s, .string o.m.t, .int .u8 o.v.k, .int .u8 o.v.a, .int .u8 o.v.b, .int .u8 o.v.w, .int .u8 o.v.da, .int .u8 o.v.dl] 45)] w := (memK hh (by repeat (first | exact keeps_nil | apply keeps_cons (by repeat (first | exact find_head | apply find_tail | apply find_skip)) (by first  | rfl) | exact keeps_self | exact keeps_left | apply keeps_app | apply keeps_mv | apply keeps_skip)))
                                    refine d_take (i := 0) hl rfl (by kernel_rfl) (by kernel_rfl) (by kernel_rfl) (by kernel_rfl) (by kernel_rfl) rfl trivial (fun _ _ _ h => h) hM (fun w hC => r_move hl rfl) rfl ?_
                                    clear hl a; intro a hl
                                    refine d_take (i := 1) hl rfl (by kernel_rfl) (by kernel_rfl) (by kernel_rfl) (by kernel_rfl) (by kernel_rfl) rfl trivial (fun _ _ _ h => h) hM (fun w hC => r_nilCheck hl rfl) rfl ?_
                                    clear hl a; intro a hl
                                    refine d_take (i := 2) hl rfl (by kernel_rfl) (by kernel_rfl) (by kernel_rfl) (by kernel_rfl) (by kernel_rfl) rfl trivial (fun _ _ _ h => h) hM (fun w hC => r_field hl rfl fld55_0) rfl ?_
                                    clear hl a; intro a hl
                                    refine d_take (i := 4) hl rfl (by kernel_rfl) (by kernel_rfl) (by kernel_rfl) (by kernel_rfl) (by kernel_rfl) rfl trivial (fun _ _ _ h => h) hM (fun w hC => r_field hl rfl fld45_1) rfl ?_
                                    clear hl a; intro a hl
                                    refine d_take (i := 5) hl rfl (by kernel_rfl) (by kernel_rfl) (by kernel_rfl) (by kernel_rfl) (by kernel_rfl) rfl trivial (fun _ _ _ h => h) hM (fun w hC => r_loadC hl rfl one3 hC (by repeat (first | exact find_head | apply find_tail | apply find_skip)) (by first | exact hct | exact hcr | exact hch | exact hcl | rfl)) rfl ?_
                                    clear hl a; intro a hl
                                    refine d_two (i := 3) (j := 6) (by kernel_rfl) rfl rfl ?_ ?_
                                    ·
                                      try clear hM
                                      refine id (w_load hl hh rfl trivial one48 rfl (by repeat (first | exact find_head | apply find_tail | apply find_skip)) (by first | exact hct | exact hcr | exact hch | exact hcl | rfl) ?_)
                                      clear hl a; intro a hl
                                      have hM : Mem [(k4, C [.int .u8 o.k, .int .i64 o.A, .int .i64 o.B, .slice p o.tx.length cap, .int .u8 o.m.k, .int .u8 o.m.d, .int .u32 o.m.e, .int .u32 o.m.b, .bool o.m.y, .int .u32 o.m.r, .int .u32 o.m.s, .string o.m.t, .int .u8 o.v.k, .int .u8 o.v.a, .int .u8 o.v.b, .int .u8 o.v.w, .int .u8 o.v.da, .int .u8 o.v.dl] 45)] w := (memK hh (by repeat (first | exact keeps_nil | apply keeps_cons (by repeat (first | exact find_head | apply find_tail | apply find_skip)) (by first  | rfl) | exact keeps_self | exact keeps_left | apply keeps_app | apply keeps_mv | apply keeps_skip)))
                                      refine d_step (fun _ => hM) ?_
                                      refine d_one (i := 6) (by kernel_rfl) rfl ?_
                                      try clear hM
                                      refine id (w_call hl hh rfl trivial rfl cal18 rfl (odd_spec _ (by omega)) (by repeat (first | exact keeps_nil | apply keeps_cons (by repeat (first | exact find_head | apply find_tail | apply find_skip)) (by first  | rfl) | exact keeps_self | exact keeps_left | apply keeps_app | apply keeps_mv | apply keeps_skip)) trivial ?_)
                                      clear hl hh a w; intro vc Fc a w hR hl hh
                                      obtain ⟨rfl, rfl⟩ := hR
                                      try simp only [List.cons_append, List.nil_append, List.append_assoc, List.append_nil] at hh
                                      have hM : Mem [(k4, C [.int .u8 o.k, .int .i64 o.A, .int .i64 o.B, .slice p o.tx.length cap, .int .u8 o.m.k, .int .u8 o.m.d, .int .u32 o.m.e, .int .u32 o.m.b, .bool o.m.y, .int .u32 o.m.r, .int .u32 o.m.s, .string o.m.t, .int .u8 o.v.k, .int .u8 o.v.a, .int .u8 o.v.b, .int .u8 o.v.w, .int .u8 o.v.da, .int .u8 o.v.dl] 45)] w := (memK hh (by repeat (first | exact keeps_nil | apply keeps_cons (by repeat (first | exact find_head | apply find_tail | apply find_skip)) (by first  | rfl) | exact keeps_self | exact keeps_left | apply keeps_app | apply keeps_mv | apply keeps_skip)))
                                      refine d_step (fun _ => hM) ?_
                                      refine d_one (i := 7) (by kernel_rfl) rfl ?_
                                      try clear hM
                                      refine id (w_call hl hh rfl trivial rfl cal25 rfl (full_spec Z W.lb W.l hW.l (oddP o.A)) (by repeat (first | exact keeps_nil | apply keeps_cons (by repeat (first | exact find_head | apply find_tail | apply find_skip)) (by first  | rfl) | exact keeps_self | exact keeps_left | apply keeps_app | apply keeps_mv | apply keeps_skip)) trivial ?_)
                                      clear hl hh a w; intro vc Fc a w hR hl hh
                                      obtain ⟨rfl, rfl⟩ := hR
                                      try simp only [List.cons_append, List.nil_append, List.append_assoc, List.append_nil] at hh
                                      simp only [LdV.F, List.cons_append] at hh
                                      refine d_step (fun h => absurd h (by decide)) ?_
                                      refine d_done (by kernel_rfl) ?_
                                      try clear hM
                                      have hl2 := hl.add (t := 2) (hl.add (t := 4) (hl.nil) rfl) rfl; clear hl; have hl := hl2; clear hl2
                                      refine then_normal ?_
                                      refine c_region ?_
                                      refine wl (wl_val hl rfl trivial (r_move hl rfl) ?_)
                                      clear hl a; intro a hl
                                      refine wl (w_loadA hl hh rfl trivial agg45 rfl (by repeat (first | exact find_head | apply find_tail | apply find_skip)) (by rfl) (by rfl) ?_)
                                      clear hl a; intro a hl
                                      refine wl (w_callP hl hh rfl trivial rfl L.dfate rfl (L.fate Z x Fx o.k o.A o.B _ rfl rfl (by omega) (by omega) (by omega) hMx) (by repeat (first | exact keeps_nil | apply keeps_cons (by repeat (first | exact find_head | apply find_tail | apply find_skip)) (by first  | rfl) | exact keeps_self | exact keeps_left | apply keeps_app | apply keeps_mv | apply keeps_skip)) trivial ?_)
                                      clear hl hh a w; intro vc Fc a w hR hl hh
                                      obtain ⟨rfl, hM3⟩ := hR
                                      try simp only [List.cons_append, List.nil_append, List.append_assoc, List.append_nil] at hh
                                      generalize Fc = F3 at hh hM3
                                      try simp only [List.append_assoc, List.cons_append, List.nil_append] at hh
                                      refine w_nil ?_
                                      have hl2 := hl.nil; clear hl; have hl := hl2; clear hl2
                                      refine blk_normal ?_
                                      refine then_normal ?_
                                      refine c_seq ?_
                                      refine c_region ?_
                                      refine wl (wl_val hl rfl trivial (r_assign hl rfl) ?_)
                                      clear hl a; intro a hl
                                      refine w_nil ?_
                                      have hl2 := hl.add (t := 6) (hl.nil) rfl; clear hl; have hl := hl2; clear hl2
                                      refine then_normal ?_
                                      refine wp_ret ?_
                                      refine f_ret1 (F' := F3 ++ ((wb, C (WoV.c W) 55) :: (W.tE ++ (W.gE ++ (DsF W.ds ++ ((W.lb, C (LdV.c (⟨W.l.d, W.l.dn, oddP o.A, W.l.fu, W.l.kp⟩ : LdV)) 91) :: (W.l.d.E ++ Z))))))) hl hh rfl rfl (by repeat (first | exact keeps_nil | apply keeps_cons (by repeat (first | exact find_head | apply find_tail | apply find_skip)) (by first  | rfl) | exact keeps_self | exact keeps_left | apply keeps_app | apply keeps_mv | apply keeps_skip)) ?_
                                      refine StepO.same (W' := { W with l := (⟨W.l.d, W.l.dn, oddP o.A, W.l.fu, W.l.kp⟩ : LdV) }) (led_ok hW ⟨hW.l.d, hW.l.fu⟩) (Q.fate o.k o.A o.B hJ (.inr ⟨rfl, by omega⟩)) (hn.led rfl rfl) hM3 ?_
                                      unfold WoV.F
                                      rw [show WoV.c { W with l := (⟨W.l.d, W.l.dn, oddP o.A, W.l.fu, W.l.kp⟩ : LdV) } = W.c from wc_same rfl rfl rfl rfl]
                                      simp only [WoV.GF, hg]
                                      try rfl
                                    ·
                                      try clear hM
                                      refine id (w_call hl hh rfl trivial rfl cal18 rfl (odd_spec _ (by omega)) (by repeat (first | exact keeps_nil | apply keeps_cons (by repeat (first | exact find_head | apply find_tail | apply find_skip)) (by first  | rfl) | exact keeps_self | exact keeps_left | apply keeps_app | apply keeps_mv | apply keeps_skip)) trivial ?_)
                                      clear hl hh a w; intro vc Fc a w hR hl hh
                                      obtain ⟨rfl, rfl⟩ := hR
                                      try simp only [List.cons_append, List.nil_append, List.append_assoc, List.append_nil] at hh
                                      have hM : Mem [(k4, C [.int .u8 o.k, .int .i64 o.A, .int .i64 o.B, .slice p o.tx.length cap, .int .u8 o.m.k, .int .u8 o.m.d, .int .u32 o.m.e, .int .u32 o.m.b, .bool o.m.y, .int .u32 o.m.r, .int .u32 o.m.s, .string o.m.t, .int .u8 o.v.k, .int .u8 o.v.a, .int .u8 o.v.b, .int .u8 o.v.w, .int .u8 o.v.da, .int .u8 o.v.dl] 45)] w := (memK hh (by repeat (first | exact keeps_nil | apply keeps_cons (by repeat (first | exact find_head | apply find_tail | apply find_skip)) (by first  | rfl) | exact keeps_self | exact keeps_left | apply keeps_app | apply keeps_mv | apply keeps_skip)))
                                      refine d_step (fun _ => hM) ?_
                                      refine d_one (i := 3) (by kernel_rfl) rfl ?_
                                      try clear hM
                                      refine id (w_load hl hh rfl trivial one48 rfl (by repeat (first | exact find_head | apply find_tail | apply find_skip)) (by first | exact hct | exact hcr | exact hch | exact hcl | rfl) ?_)
                                      clear hl a; intro a hl
                                      have hM : Mem [(k4, C [.int .u8 o.k, .int .i64 o.A, .int .i64 o.B, .slice p o.tx.length cap, .int .u8 o.m.k, .int .u8 o.m.d, .int .u32 o.m.e, .int .u32 o.m.b, .bool o.m.y, .int .u32 o.m.r, .int .u32 o.m.s, .string o.m.t, .int .u8 o.v.k, .int .u8 o.v.a, .int .u8 o.v.b, .int .u8 o.v.w, .int .u8 o.v.da, .int .u8 o.v.dl] 45)] w := (memK hh (by repeat (first | exact keeps_nil | apply keeps_cons (by repeat (first | exact find_head | apply find_tail | apply find_skip)) (by first  | rfl) | exact keeps_self | exact keeps_left | apply keeps_app | apply keeps_mv | apply keeps_skip)))
                                      refine d_step (fun _ => hM) ?_
                                      refine d_one (i := 7) (by kernel_rfl) rfl ?_
                                      try clear hM
                                      refine id (w_call hl hh rfl trivial rfl cal25 rfl (full_spec Z W.lb W.l hW.l (oddP o.A)) (by repeat (first | exact keeps_nil | apply keeps_cons (by repeat (first | exact find_head | apply find_tail | apply find_skip)) (by first  | rfl) | exact keeps_self | exact keeps_left | apply keeps_app | apply keeps_mv | apply keeps_skip)) trivial ?_)
                                      clear hl hh a w; intro vc Fc a w hR hl hh
                                      obtain ⟨rfl, rfl⟩ := hR
                                      try simp only [List.cons_append, List.nil_append, List.append_assoc, List.append_nil] at hh
                                      simp only [LdV.F, List.cons_append] at hh
                                      refine d_step (fun h => absurd h (by decide)) ?_
                                      refine d_done (by kernel_rfl) ?_
                                      try clear hM
                                      have hl2 := hl.add (t := 2) (hl.add (t := 4) (hl.nil) rfl) rfl; clear hl; have hl := hl2; clear hl2
                                      refine then_normal ?_
                                      refine c_region ?_
                                      refine wl (wl_val hl rfl trivial (r_move hl rfl) ?_)
                                      clear hl a; intro a hl
                                      refine wl (w_loadA hl hh rfl trivial agg45 rfl (by repeat (first | exact find_head | apply find_tail | apply find_skip)) (by rfl) (by rfl) ?_)
                                      clear hl a; intro a hl
                                      refine wl (w_callP hl hh rfl trivial rfl L.dfate rfl (L.fate Z x Fx o.k o.A o.B _ rfl rfl (by omega) (by omega) (by omega) hMx) (by repeat (first | exact keeps_nil | apply keeps_cons (by repeat (first | exact find_head | apply find_tail | apply find_skip)) (by first  | rfl) | exact keeps_self | exact keeps_left | apply keeps_app | apply keeps_mv | apply keeps_skip)) trivial ?_)
                                      clear hl hh a w; intro vc Fc a w hR hl hh
                                      obtain ⟨rfl, hM3⟩ := hR
                                      try simp only [List.cons_append, List.nil_append, List.append_assoc, List.append_nil] at hh
                                      generalize Fc = F3 at hh hM3
                                      try simp only [List.append_assoc, List.cons_append, List.nil_append] at hh
                                      refine w_nil ?_
                                      have hl2 := hl.nil; clear hl; have hl := hl2; clear hl2
                                      refine blk_normal ?_
                                      refine then_normal ?_
                                      refine c_seq ?_
                                      refine c_region ?_
                                      refine wl (wl_val hl rfl trivial (r_assign hl rfl) ?_)
                                      clear hl a; intro a hl
                                      refine w_nil ?_
                                      have hl2 := hl.add (t := 6) (hl.nil) rfl; clear hl; have hl := hl2; clear hl2
                                      refine then_normal ?_
                                      refine wp_ret ?_
                                      refine f_ret1 (F' := F3 ++ ((wb, C (WoV.c W) 55) :: (W.tE ++ (W.gE ++ (DsF W.ds ++ ((W.lb, C (LdV.c (⟨W.l.d, W.l.dn, oddP o.A, W.l.fu, W.l.kp⟩ : LdV)) 91) :: (W.l.d.E ++ Z))))))) hl hh rfl rfl (by repeat (first | exact keeps_nil | apply keeps_cons (by repeat (first | exact find_head | apply find_tail | apply find_skip)) (by first  | rfl) | exact keeps_self | exact keeps_left | apply keeps_app | apply keeps_mv | apply keeps_skip)) ?_
                                      refine StepO.same (W' := { W with l := (⟨W.l.d, W.l.dn, oddP o.A, W.l.fu, W.l.kp⟩ : LdV) }) (led_ok hW ⟨hW.l.d, hW.l.fu⟩) (Q.fate o.k o.A o.B hJ (.inr ⟨rfl, by omega⟩)) (hn.led rfl rfl) hM3 ?_
                                      unfold WoV.F
                                      rw [show WoV.c { W with l := (⟨W.l.d, W.l.dn, oddP o.A, W.l.fu, W.l.kp⟩ : LdV) } = W.c from wc_same rfl rfl rfl rfl]
                                      simp only [WoV.GF, hg]
                                      try rfl
                                  · intro hc21
                                    try simp only [decide_eq_true_eq, decide_eq_false_iff_not, Bool.not_eq_true', Bool.not_eq_false', Bool.not_eq_true, Bool.not_eq_false, Bool.and_eq_true, Bool.or_eq_true, Bool.and_eq_false_iff, Bool.or_eq_false_iff, Bool.not_not, ne_eq, Int.not_lt, Int.not_le, Decidable.not_not, beq_iff_eq, bne_iff_ne] at hc21
                                    exfalso; first | contradiction | omega
  · intro hc0
    try simp only [decide_eq_true_eq, decide_eq_false_iff_not, Bool.not_eq_true', Bool.not_eq_false', Bool.not_eq_true, Bool.not_eq_false, Bool.and_eq_true, Bool.or_eq_true, Bool.and_eq_false_iff, Bool.or_eq_false_iff, Bool.not_not, ne_eq, Int.not_lt, Int.not_le, Decidable.not_not, beq_iff_eq, bne_iff_ne] at hc0
    refine wp_skip ?_
    refine then_normal ?_
    refine c_seq ?_
    refine c_seq ?_
    refine c_region ?_
    refine wl (wl_val hl rfl trivial (r_field hl rfl fld45_0) ?_)
    clear hl a; intro a hl
    refine wl (w_load hl hh rfl trivial one33 rfl (by repeat (first | exact find_head | apply find_tail | apply find_skip)) (by first | exact hct | exact hcr | exact hch | exact hcl | rfl) ?_)
    clear hl a; intro a hl
    refine w_nil ?_
    have hl2 := hl.add (t := 0) (hl.add (t := 2) (hl.add (t := 4) (hl.add (t := 7) (hl.add (t := 18) (hl.nil) rfl) rfl) rfl) rfl) rfl; clear hl; have hl := hl2; clear hl2
    refine then_normal ?_
    refine wp_block ?_
    refine c_seq ?_
    refine c_region ?_
    refine wl (wl_val hl rfl trivial (r_eql hl rfl rfl) ?_)
    clear hl a; intro a hl
    refine wl (wl_val hl rfl trivial (r_assign hl rfl) ?_)
    clear hl a; intro a hl
    refine w_nil ?_
    have hl2 := hl.add (t := 0) (hl.add (t := 2) (hl.add (t := 4) (hl.add (t := 7) (hl.add (t := 18) (hl.add (t := 19) (hl.nil) rfl) rfl) rfl) rfl) rfl) rfl; clear hl; have hl := hl2; clear hl2
    refine then_normal ?_
    refine c_cond hl rfl ?_ ?_
    · intro hc1
      try simp only [decide_eq_true_eq, decide_eq_false_iff_not, Bool.not_eq_true', Bool.not_eq_false', Bool.not_eq_true, Bool.not_eq_false, Bool.and_eq_true, Bool.or_eq_true, Bool.and_eq_false_iff, Bool.or_eq_false_iff, Bool.not_not, ne_eq, Int.not_lt, Int.not_le, Decidable.not_not, beq_iff_eq, bne_iff_ne] at hc1
      exfalso; first | contradiction | omega
    · intro hc1
      try simp only [decide_eq_true_eq, decide_eq_false_iff_not, Bool.not_eq_true', Bool.not_eq_false', Bool.not_eq_true, Bool.not_eq_false, Bool.and_eq_true, Bool.or_eq_true, Bool.and_eq_false_iff, Bool.or_eq_false_iff, Bool.not_not, ne_eq, Int.not_lt, Int.not_le, Decidable.not_not, beq_iff_eq, bne_iff_ne] at hc1
      refine c_seq ?_
      refine c_seq ?_
      refine c_region ?_
      refine wl (wl_val hl rfl trivial (r_eql hl rfl rfl) ?_)
      clear hl a; intro a hl
      refine wl (wl_val hl rfl trivial (r_assign hl rfl) ?_)
      clear hl a; intro a hl
      refine w_nil ?_
      have hl2 := hl.add (t := 0) (hl.add (t := 2) (hl.add (t := 4) (hl.add (t := 7) (hl.add (t := 18) (hl.add (t := 27) (hl.nil) rfl) rfl) rfl) rfl) rfl) rfl; clear hl; have hl := hl2; clear hl2
      refine then_normal ?_
      refine c_cond hl rfl ?_ ?_
      · intro hc2
        try simp only [decide_eq_true_eq, decide_eq_false_iff_not, Bool.not_eq_true', Bool.not_eq_false', Bool.not_eq_true, Bool.not_eq_false, Bool.and_eq_true, Bool.or_eq_true, Bool.and_eq_false_iff, Bool.or_eq_false_iff, Bool.not_not, ne_eq, Int.not_lt, Int.not_le, Decidable.not_not, beq_iff_eq, bne_iff_ne] at hc2
        exfalso; first | contradiction | omega
      · intro hc2
        try simp only [decide_eq_true_eq, decide_eq_false_iff_not, Bool.not_eq_true', Bool.not_eq_false', Bool.not_eq_true, Bool.not_eq_false, Bool.and_eq_true, Bool.or_eq_true, Bool.and_eq_false_iff, Bool.or_eq_false_iff, Bool.not_not, ne_eq, Int.not_lt, Int.not_le, Decidable.not_not, beq_iff_eq, bne_iff_ne] at hc2
        refine c_region ?_
        refine wl (wl_val hl rfl trivial (r_eql hl rfl rfl) ?_)
        clear hl a; intro a hl
        refine wl (wl_val hl rfl trivial (r_assign hl rfl) ?_)
        clear hl a; intro a hl
        refine w_nil ?_
        have hl2 := hl.add (t := 0) (hl.add (t := 2) (hl.add (t := 4) (hl.add (t := 7) (hl.add (t := 18) (hl.add (t := 27) (hl.nil) rfl) rfl) rfl) rfl) rfl) rfl; clear hl; have hl := hl2; clear hl2
        refine then_normal ?_
        refine c_cond hl rfl ?_ ?_
        · intro hc3
          try simp only [decide_eq_true_eq, decide_eq_false_iff_not, Bool.not_eq_true', Bool.not_eq_false', Bool.not_eq_true, Bool.not_eq_false, Bool.and_eq_true, Bool.or_eq_true, Bool.and_eq_false_iff, Bool.or_eq_false_iff, Bool.not_not, ne_eq, Int.not_lt, Int.not_le, Decidable.not_not, beq_iff_eq, bne_iff_ne] at hc3
          exfalso; first | contradiction | omega
        · intro hc3
          try simp only [decide_eq_true_eq, decide_eq_false_iff_not, Bool.not_eq_true', Bool.not_eq_false', Bool.not_eq_true, Bool.not_eq_false, Bool.and_eq_true, Bool.or_eq_true, Bool.and_eq_false_iff, Bool.or_eq_false_iff, Bool.not_not, ne_eq, Int.not_lt, Int.not_le, Decidable.not_not, beq_iff_eq, bne_iff_ne] at hc3
          refine c_seq ?_
          refine c_seq ?_
          refine c_region ?_
          refine wl (wl_val hl rfl trivial (r_eql hl rfl rfl) ?_)
          clear hl a; intro a hl
          refine wl (wl_val hl rfl trivial (r_assign hl rfl) ?_)
          clear hl a; intro a hl
          refine w_nil ?_
          have hl2 := hl.add (t := 0) (hl.add (t := 2) (hl.add (t := 4) (hl.add (t := 7) (hl.add (t := 18) (hl.add (t := 39) (hl.nil) rfl) rfl) rfl) rfl) rfl) rfl; clear hl; have hl := hl2; clear hl2
          refine then_normal ?_
          refine c_cond hl rfl ?_ ?_
          · intro hc4
            try simp only [decide_eq_true_eq, decide_eq_false_iff_not, Bool.not_eq_true', Bool.not_eq_false', Bool.not_eq_true, Bool.not_eq_false, Bool.and_eq_true, Bool.or_eq_true, Bool.and_eq_false_iff, Bool.or_eq_false_iff, Bool.not_not, ne_eq, Int.not_lt, Int.not_le, Decidable.not_not, beq_iff_eq, bne_iff_ne] at hc4
            exfalso; first | contradiction | omega
          · intro hc4
            try simp only [decide_eq_true_eq, decide_eq_false_iff_not, Bool.not_eq_true', Bool.not_eq_false', Bool.not_eq_true, Bool.not_eq_false, Bool.and_eq_true, Bool.or_eq_true, Bool.and_eq_false_iff, Bool.or_eq_false_iff, Bool.not_not, ne_eq, Int.not_lt, Int.not_le, Decidable.not_not, beq_iff_eq, bne_iff_ne] at hc4
            refine c_region ?_
            refine wl (wl_val hl rfl trivial (r_eql hl rfl rfl) ?_)
            clear hl a; intro a hl
            refine wl (wl_val hl rfl trivial (r_assign hl rfl) ?_)
            clear hl a; intro a hl
            refine w_nil ?_
            have hl2 := hl.add (t := 0) (hl.add (t := 2) (hl.add (t := 4) (hl.add (t := 7) (hl.add (t := 18) (hl.add (t := 39) (hl.nil) rfl) rfl) rfl) rfl) rfl) rfl; clear hl; have hl := hl2; clear hl2
            refine then_normal ?_
            refine c_cond hl rfl ?_ ?_
            · intro hc5
              try simp only [decide_eq_true_eq, decide_eq_false_iff_not, Bool.not_eq_true', Bool.not_eq_false', Bool.not_eq_true, Bool.not_eq_false, Bool.and_eq_true, Bool.or_eq_true, Bool.and_eq_false_iff, Bool.or_eq_false_iff, Bool.not_not, ne_eq, Int.not_lt, Int.not_le, Decidable.not_not, beq_iff_eq, bne_iff_ne] at hc5
              exfalso; first | contradiction | omega
            · intro hc5
              try simp only [decide_eq_true_eq, decide_eq_false_iff_not, Bool.not_eq_true', Bool.not_eq_false', Bool.not_eq_true, Bool.not_eq_false, Bool.and_eq_true, Bool.or_eq_true, Bool.and_eq_false_iff, Bool.or_eq_false_iff, Bool.not_not, ne_eq, Int.not_lt, Int.not_le, Decidable.not_not, beq_iff_eq, bne_iff_ne] at hc5
              refine c_seq ?_
              refine c_region ?_
              refine wl (wl_val hl rfl trivial (r_eql hl rfl rfl) ?_)
              clear hl a; intro a hl
              refine wl (wl_val hl rfl trivial (r_assign hl rfl) ?_)
              clear hl a; intro a hl
              refine w_nil ?_
              have hl2 := hl.add (t := 0) (hl.add (t := 2) (hl.add (t := 4) (hl.add (t := 7) (hl.add (t := 18) (hl.add (t := 50) (hl.nil) rfl) rfl) rfl) rfl) rfl) rfl; clear hl; have hl := hl2; clear hl2
              refine then_normal ?_
              refine c_cond hl rfl ?_ ?_
              · intro hc6
                try simp only [decide_eq_true_eq, decide_eq_false_iff_not, Bool.not_eq_true', Bool.not_eq_false', Bool.not_eq_true, Bool.not_eq_false, Bool.and_eq_true, Bool.or_eq_true, Bool.and_eq_false_iff, Bool.or_eq_false_iff, Bool.not_not, ne_eq, Int.not_lt, Int.not_le, Decidable.not_not, beq_iff_eq, bne_iff_ne] at hc6
                exfalso; first | contradiction | omega
              · intro hc6
                try simp only [decide_eq_true_eq, decide_eq_false_iff_not, Bool.not_eq_true', Bool.not_eq_false', Bool.not_eq_true, Bool.not_eq_false, Bool.and_eq_true, Bool.or_eq_true, Bool.and_eq_false_iff, Bool.or_eq_false_iff, Bool.not_not, ne_eq, Int.not_lt, Int.not_le, Decidable.not_not, beq_iff_eq, bne_iff_ne] at hc6
                refine c_seq ?_
                refine c_region ?_
                refine wl (wl_val hl rfl trivial (r_eql hl rfl rfl) ?_)
                clear hl a; intro a hl
                refine wl (wl_val hl rfl trivial (r_assign hl rfl) ?_)
                clear hl a; intro a hl
                refine w_nil ?_
                have hl2 := hl.add (t := 0) (hl.add (t := 2) (hl.add (t := 4) (hl.add (t := 7) (hl.add (t := 18) (hl.add (t := 62) (hl.nil) rfl) rfl) rfl) rfl) rfl) rfl; clear hl; have hl := hl2; clear hl2
                refine then_normal ?_
                refine c_cond hl rfl ?_ ?_
                · intro hc7
                  try simp only [decide_eq_true_eq, decide_eq_false_iff_not, Bool.not_eq_true', Bool.not_eq_false', Bool.not_eq_true, Bool.not_eq_false, Bool.and_eq_true, Bool.or_eq_true, Bool.and_eq_false_iff, Bool.or_eq_false_iff, Bool.not_not, ne_eq, Int.not_lt, Int.not_le, Decidable.not_not, beq_iff_eq, bne_iff_ne] at hc7
                  exfalso; first | contradiction | omega
                · intro hc7
                  try simp only [decide_eq_true_eq, decide_eq_false_iff_not, Bool.not_eq_true', Bool.not_eq_false', Bool.not_eq_true, Bool.not_eq_false, Bool.and_eq_true, Bool.or_eq_true, Bool.and_eq_false_iff, Bool.or_eq_false_iff, Bool.not_not, ne_eq, Int.not_lt, Int.not_le, Decidable.not_not, beq_iff_eq, bne_iff_ne] at hc7
                  refine c_seq ?_
                  refine c_region ?_
                  refine wl (wl_val hl rfl trivial (r_eql hl rfl rfl) ?_)
                  clear hl a; intro a hl
                  refine wl (wl_val hl rfl trivial (r_assign hl rfl) ?_)
                  clear hl a; intro a hl
                  refine w_nil ?_
                  have hl2 := hl.add (t := 0) (hl.add (t := 2) (hl.add (t := 4) (hl.add (t := 7) (hl.add (t := 18) (hl.add (t := 68) (hl.nil) rfl) rfl) rfl) rfl) rfl) rfl; clear hl; have hl := hl2; clear hl2
                  refine then_normal ?_
                  refine c_cond hl rfl ?_ ?_
                  · intro hc8
                    try simp only [decide_eq_true_eq, decide_eq_false_iff_not, Bool.not_eq_true', Bool.not_eq_false', Bool.not_eq_true, Bool.not_eq_false, Bool.and_eq_true, Bool.or_eq_true, Bool.and_eq_false_iff, Bool.or_eq_false_iff, Bool.not_not, ne_eq, Int.not_lt, Int.not_le, Decidable.not_not, beq_iff_eq, bne_iff_ne] at hc8
                    exfalso; first | contradiction | omega
                  · intro hc8
                    try simp only [decide_eq_true_eq, decide_eq_false_iff_not, Bool.not_eq_true', Bool.not_eq_false', Bool.not_eq_true, Bool.not_eq_false, Bool.and_eq_true, Bool.or_eq_true, Bool.and_eq_false_iff, Bool.or_eq_false_iff, Bool.not_not, ne_eq, Int.not_lt, Int.not_le, Decidable.not_not, beq_iff_eq, bne_iff_ne] at hc8
                    refine c_seq ?_
                    refine c_region ?_
                    refine wl (wl_val hl rfl trivial (r_eql hl rfl rfl) ?_)
                    clear hl a; intro a hl
                    refine wl (wl_val hl rfl trivial (r_assign hl rfl) ?_)
                    clear hl a; intro a hl
                    refine w_nil ?_
                    have hl2 := hl.add (t := 0) (hl.add (t := 2) (hl.add (t := 4) (hl.add (t := 7) (hl.add (t := 18) (hl.add (t := 90) (hl.nil) rfl) rfl) rfl) rfl) rfl) rfl; clear hl; have hl := hl2; clear hl2
                    refine then_normal ?_
                    refine c_cond hl rfl ?_ ?_
                    · intro hc10
                      try simp only [decide_eq_true_eq, decide_eq_false_iff_not, Bool.not_eq_true', Bool.not_eq_false', Bool.not_eq_true, Bool.not_eq_false, Bool.and_eq_true, Bool.or_eq_true, Bool.and_eq_false_iff, Bool.or_eq_false_iff, Bool.not_not, ne_eq, Int.not_lt, Int.not_le, Decidable.not_not, beq_iff_eq, bne_iff_ne] at hc10
                      exfalso; first | contradiction | omega
                    · intro hc10
                      try simp only [decide_eq_true_eq, decide_eq_false_iff_not, Bool.not_eq_true', Bool.not_eq_false', Bool.not_eq_true, Bool.not_eq_false, Bool.and_eq_true, Bool.or_eq_true, Bool.and_eq_false_iff, Bool.or_eq_false_iff, Bool.not_not, ne_eq, Int.not_lt, Int.not_le, Decidable.not_not, beq_iff_eq, bne_iff_ne] at hc10
                      refine c_seq ?_
                      refine c_region ?_
                      refine wl (wl_val hl rfl trivial (r_eql hl rfl rfl) ?_)
                      clear hl a; intro a hl
                      refine wl (wl_val hl rfl trivial (r_assign hl rfl) ?_)
                      clear hl a; intro a hl
                      refine w_nil ?_
                      have hl2 := hl.add (t := 0) (hl.add (t := 2) (hl.add (t := 4) (hl.add (t := 7) (hl.add (t := 18) (hl.add (t := 114) (hl.nil) rfl) rfl) rfl) rfl) rfl) rfl; clear hl; have hl := hl2; clear hl2
                      refine then_normal ?_
                      refine c_cond hl rfl ?_ ?_
                      · intro hc12
                        try simp only [decide_eq_true_eq, decide_eq_false_iff_not, Bool.not_eq_true', Bool.not_eq_false', Bool.not_eq_true, Bool.not_eq_false, Bool.and_eq_true, Bool.or_eq_true, Bool.and_eq_false_iff, Bool.or_eq_false_iff, Bool.not_not, ne_eq, Int.not_lt, Int.not_le, Decidable.not_not, beq_iff_eq, bne_iff_ne] at hc12
                        exfalso; first | contradiction | omega
                      · intro hc12
                        try simp only [decide_eq_true_eq, decide_eq_false_iff_not, Bool.not_eq_true', Bool.not_eq_false', Bool.not_eq_true, Bool.not_eq_false, Bool.and_eq_true, Bool.or_eq_true, Bool.and_eq_false_iff, Bool.or_eq_false_iff, Bool.not_not, ne_eq, Int.not_lt, Int.not_le, Decidable.not_not, beq_iff_eq, bne_iff_ne] at hc12
                        refine c_seq ?_
                        refine c_region ?_
                        refine wl (wl_val hl rfl trivial (r_eql hl rfl rfl) ?_)
                        clear hl a; intro a hl
                        refine wl (wl_val hl rfl trivial (r_assign hl rfl) ?_)
                        clear hl a; intro a hl
                        refine w_nil ?_
                        have hl2 := hl.add (t := 0) (hl.add (t := 2) (hl.add (t := 4) (hl.add (t := 7) (hl.add (t := 18) (hl.add (t := 130) (hl.nil) rfl) rfl) rfl) rfl) rfl) rfl; clear hl; have hl := hl2; clear hl2
                        refine then_normal ?_
                        refine c_cond hl rfl ?_ ?_
                        · intro hc14
                          try simp only [decide_eq_true_eq, decide_eq_false_iff_not, Bool.not_eq_true', Bool.not_eq_false', Bool.not_eq_true, Bool.not_eq_false, Bool.and_eq_true, Bool.or_eq_true, Bool.and_eq_false_iff, Bool.or_eq_false_iff, Bool.not_not, ne_eq, Int.not_lt, Int.not_le, Decidable.not_not, beq_iff_eq, bne_iff_ne] at hc14
                          exfalso; first | contradiction | omega
                        · intro hc14
                          try simp only [decide_eq_true_eq, decide_eq_false_iff_not, Bool.not_eq_true', Bool.not_eq_false', Bool.not_eq_true, Bool.not_eq_false, Bool.and_eq_true, Bool.or_eq_true, Bool.and_eq_false_iff, Bool.or_eq_false_iff, Bool.not_not, ne_eq, Int.not_lt, Int.not_le, Decidable.not_not, beq_iff_eq, bne_iff_ne] at hc14
                          refine c_seq ?_
                          refine c_region ?_
                          refine wl (wl_val hl rfl trivial (r_eql hl rfl rfl) ?_)
                          clear hl a; intro a hl
                          refine wl (wl_val hl rfl trivial (r_assign hl rfl) ?_)
                          clear hl a; intro a hl
                          refine w_nil ?_
                          have hl2 := hl.add (t := 0) (hl.add (t := 2) (hl.add (t := 4) (hl.add (t := 18) (hl.add (t := 152) (hl.nil) rfl) rfl) rfl) rfl) rfl; clear hl; have hl := hl2; clear hl2
                          refine then_normal ?_
                          refine c_cond hl rfl ?_ ?_
                          · intro hc16
                            try simp only [decide_eq_true_eq, decide_eq_false_iff_not, Bool.not_eq_true', Bool.not_eq_false', Bool.not_eq_true, Bool.not_eq_false, Bool.and_eq_true, Bool.or_eq_true, Bool.and_eq_false_iff, Bool.or_eq_false_iff, Bool.not_not, ne_eq, Int.not_lt, Int.not_le, Decidable.not_not, beq_iff_eq, bne_iff_ne] at hc16
                            exfalso; first | contradiction | omega
                          · intro hc16
                            try simp only [decide_eq_true_eq, decide_eq_false_iff_not, Bool.not_eq_true', Bool.not_eq_false', Bool.not_eq_true, Bool.not_eq_false, Bool.and_eq_true, Bool.or_eq_true, Bool.and_eq_false_iff, Bool.or_eq_false_iff, Bool.not_not, ne_eq, Int.not_lt, Int.not_le, Decidable.not_not, beq_iff_eq, bne_iff_ne] at hc16
                            refine c_seq ?_
                            refine c_region ?_
                            refine wl (wl_val hl rfl trivial (r_eql hl rfl rfl) ?_)
                            clear hl a; intro a hl
                            refine wl (wl_val hl rfl trivial (r_assign hl rfl) ?_)
                            clear hl a; intro a hl
                            refine w_nil ?_
                            have hl2 := hl.add (t := 0) (hl.add (t := 2) (hl.add (t := 4) (hl.add (t := 18) (hl.add (t := 157) (hl.nil) rfl) rfl) rfl) rfl) rfl; clear hl; have hl := hl2; clear hl2
                            refine then_normal ?_
                            refine c_cond hl rfl ?_ ?_
                            · intro hc17
                              try simp only [decide_eq_true_eq, decide_eq_false_iff_not, Bool.not_eq_true', Bool.not_eq_false', Bool.not_eq_true, Bool.not_eq_false, Bool.and_eq_true, Bool.or_eq_true, Bool.and_eq_false_iff, Bool.or_eq_false_iff, Bool.not_not, ne_eq, Int.not_lt, Int.not_le, Decidable.not_not, beq_iff_eq, bne_iff_ne] at hc17
                              exfalso; first | contradiction | omega
                            · intro hc17
                              try simp only [decide_eq_true_eq, decide_eq_false_iff_not, Bool.not_eq_true', Bool.not_eq_false', Bool.not_eq_true, Bool.not_eq_false, Bool.and_eq_true, Bool.or_eq_true, Bool.and_eq_false_iff, Bool.or_eq_false_iff, Bool.not_not, ne_eq, Int.not_lt, Int.not_le, Decidable.not_not, beq_iff_eq, bne_iff_ne] at hc17
                              refine c_seq ?_
                              refine c_region ?_
                              refine wl (wl_val hl rfl trivial (r_eql hl rfl rfl) ?_)
                              clear hl a; intro a hl
                              refine wl (wl_val hl rfl trivial (r_assign hl rfl) ?_)
                              clear hl a; intro a hl
                              refine w_nil ?_
                              have hl2 := hl.add (t := 0) (hl.add (t := 2) (hl.add (t := 4) (hl.add (t := 18) (hl.add (t := 170) (hl.nil) rfl) rfl) rfl) rfl) rfl; clear hl; have hl := hl2; clear hl2
                              refine then_normal ?_
                              refine c_cond hl rfl ?_ ?_
                              · intro hc19
                                try simp only [decide_eq_true_eq, decide_eq_false_iff_not, Bool.not_eq_true', Bool.not_eq_false', Bool.not_eq_true, Bool.not_eq_false, Bool.and_eq_true, Bool.or_eq_true, Bool.and_eq_false_iff, Bool.or_eq_false_iff, Bool.not_not, ne_eq, Int.not_lt, Int.not_le, Decidable.not_not, beq_iff_eq, bne_iff_ne] at hc19
                                exfalso; first | contradiction | omega
                              · intro hc19
                                try simp only [decide_eq_true_eq, decide_eq_false_iff_not, Bool.not_eq_true', Bool.not_eq_false', Bool.not_eq_true, Bool.not_eq_false, Bool.and_eq_true, Bool.or_eq_true, Bool.and_eq_false_iff, Bool.or_eq_false_iff, Bool.not_not, ne_eq, Int.not_lt, Int.not_le, Decidable.not_not, beq_iff_eq, bne_iff_ne] at hc19
                                refine c_seq ?_
                                refine c_region ?_
                                refine wl (wl_val hl rfl trivial (r_eql hl rfl rfl) ?_)
                                clear hl a; intro a hl
                                refine wl (wl_val hl rfl trivial (r_assign hl rfl) ?_)
                                clear hl a; intro a hl
                                refine w_nil ?_
                                have hl2 := hl.add (t := 0) (hl.add (t := 2) (hl.add (t := 4) (hl.add (t := 18) (hl.add (t := 185) (hl.nil) rfl) rfl) rfl) rfl) rfl; clear hl; have hl := hl2; clear hl2
                                refine then_normal ?_
                                refine c_cond hl rfl ?_ ?_
                                · intro hc20
                                  try simp only [decide_eq_true_eq, decide_eq_false_iff_not, Bool.not_eq_true', Bool.not_eq_false', Bool.not_eq_true, Bool.not_eq_false, Bool.and_eq_true, Bool.or_eq_true, Bool.and_eq_false_iff, Bool.or_eq_false_iff, Bool.not_not, ne_eq, Int.not_lt, Int.not_le, Decidable.not_not, beq_iff_eq, bne_iff_ne] at hc20
                                  exfalso; first | contradiction | omega
                                · intro hc20
                                  try simp only [decide_eq_true_eq, decide_eq_false_iff_not, Bool.not_eq_true', Bool.not_eq_false', Bool.not_eq_true, Bool.not_eq_false, Bool.and_eq_true, Bool.or_eq_true, Bool.and_eq_false_iff, Bool.or_eq_false_iff, Bool.not_not, ne_eq, Int.not_lt, Int.not_le, Decidable.not_not, beq_iff_eq, bne_iff_ne] at hc20
                                  refine c_seq ?_
                                  refine c_region ?_
                                  refine wl (wl_val hl rfl trivial (r_eql hl rfl rfl) ?_)
                                  clear hl a; intro a hl
                                  refine wl (wl_val hl rfl trivial (r_assign hl rfl) ?_)
                                  clear hl a; intro a hl
                                  refine w_nil ?_
                                  have hl2 := hl.add (t := 0) (hl.add (t := 2) (hl.add (t := 4) (hl.add (t := 18) (hl.add (t := 200) (hl.nil) rfl) rfl) rfl) rfl) rfl; clear hl; have hl := hl2; clear hl2
                                  refine then_normal ?_
                                  refine c_cond hl rfl ?_ ?_
                                  · intro hc21
                                    try simp only [decide_eq_true_eq, decide_eq_false_iff_not, Bool.not_eq_true', Bool.not_eq_false', Bool.not_eq_true, Bool.not_eq_false, Bool.and_eq_true, Bool.or_eq_true, Bool.and_eq_false_iff, Bool.or_eq_false_iff, Bool.not_not, ne_eq, Int.not_lt, Int.not_le, Decidable.not_not, beq_iff_eq, bne_iff_ne] at hc21
                                    refine c_seq ?_
                                    refine c_draw [(k4, C [.int .u8 o.k, .int .i64 o.A, .int .i64 o.B, .slice p o.tx.length cap, .int .u8 o.m.k, .int .u8 o.m.d, .int .u32 o.m.e, .int .u32 o.m.b, .bool o.m.y, .int .u32 o.m.r, .int .u32 o.m.s, .string o.m.t, .int .u8 o.v.k, .int .u8 o.v.a, .int .u8 o.v.b, .int .u8 o.v.w, .int .u8 o.v.da, .int .u8 o.v.dl] 45)] [7] mixed hh ?_
                                    clear hh w; intro w hh
                                    have hM : Mem [(k4, C [.int .u8 o.k, .int .i64 o.A, .int .i64 o.B, .slice p o.tx.length cap, .int .u8 o.m.k, .int .u8 o.m.d, .int .u32 o.m.e, .int .u32 o.m.b, .bool o.m.y, .int .u32 o.m.r, .int .u32 o.m.s, .string o.m.t, .int .u8 o.v.k, .int .u8 o.v.a, .int .u8 o.v.b, .int .u8 o.v.w, .int .u8 o.v.da, .int .u8 o.v.dl] 45)] w := (memK hh (by repeat (first | exact keeps_nil | apply keeps_cons (by repeat (first | exact find_head | apply find_tail | apply find_skip)) (by first  | rfl) | exact keeps_self | exact keeps_left | apply keeps_app | apply keeps_mv | apply keeps_skip)))
                                    refine d_take (i := 0) hl rfl (by kernel_rfl) (by kernel_rfl) (by kernel_rfl) (by kernel_rfl) (by kernel_rfl) rfl trivial (fun _ _ _ h => h) hM (fun w hC => r_move hl rfl) rfl ?_
                                    clear hl a; intro a hl
                                    refine d_take (i := 1) hl rfl (by kernel_rfl) (by kernel_rfl) (by kernel_rfl) (by kernel_rfl) (by kernel_rfl) rfl trivial (fun _ _ _ h => h) hM (fun w hC => r_nilCheck hl rfl) rfl ?_
                                    clear hl a; intro a hl
                                    refine d_take (i := 2) hl rfl (by kernel_rfl) (by kernel_rfl) (by kernel_rfl) (by kernel_rfl) (by kernel_rfl) rfl trivial (fun _ _ _ h => h) hM (fun w hC => r_field hl rfl fld55_0) rfl ?_
                                    clear hl a; intro a hl
                                    refine d_take (i := 4) hl rfl (by kernel_rfl) (by kernel_rfl) (by kernel_rfl) (by kernel_rfl) (by kernel_rfl) rfl trivial (fun _ _ _ h => h) hM (fun w hC => r_field hl rfl fld45_1) rfl ?_
                                    clear hl a; intro a hl
                                    refine d_take (i := 5) hl rfl (by kernel_rfl) (by kernel_rfl) (by kernel_rfl) (by kernel_rfl) (by kernel_rfl) rfl trivial (fun _ _ _ h => h) hM (fun w hC => r_loadC hl rfl one3 hC (by repeat (first | exact find_head | apply find_tail | apply find_skip)) (by first | exact hct | exact hcr | exact hch | exact hcl | rfl)) rfl ?_
                                    clear hl a; intro a hl
                                    refine d_two (i := 3) (j := 6) (by kernel_rfl) rfl rfl ?_ ?_
                                    ·
                                      try clear hM
                                      refine id (w_load hl hh rfl trivial one48 rfl (by repeat (first | exact find_head | apply find_tail | apply find_skip)) (by first | exact hct | exact hcr | exact hch | exact hcl | rfl) ?_)
                                      clear hl a; intro a hl
                                      have hM : Mem [(k4, C [.int .u8 o.k, .int .i64 o.A, .int .i64 o.B, .slice p o.tx.length cap, .int .u8 o.m.k, .int .u8 o.m.d, .int .u32 o.m.e, .int .u32 o.m.b, .bool o.m.y, .int .u32 o.m.r, .int .u32 o.m.s, .string o.m.t, .int .u8 o.v.k, .int .u8 o.v.a, .int .u8 o.v.b, .int .u8 o.v.w, .int .u8 o.v.da, .int .u8 o.v.dl] 45)] w := (memK hh (by repeat (first | exact keeps_nil | apply keeps_cons (by repeat (first | exact find_head | apply find_tail | apply find_skip)) (by first  | rfl) | exact keeps_self | exact keeps_left | apply keeps_app | apply keeps_mv | apply keeps_skip)))
                                      refine d_step (fun _ => hM) ?_
                                      refine d_one (i := 6) (by kernel_rfl) rfl ?_
                                      try clear hM
                                      refine id (w_call hl hh rfl trivial rfl cal18 rfl (odd_spec _ (by omega)) (by repeat (first | exact keeps_nil | apply keeps_cons (by repeat (first | exact find_head | apply find_tail | apply find_skip)) (by first  | rfl) | exact keeps_self | exact keeps_left | apply keeps_app | apply keeps_mv | apply keeps_skip)) trivial ?_)
                                      clear hl hh a w; intro vc Fc a w hR hl hh
                                      obtain ⟨rfl, rfl⟩ := hR
                                      try simp only [List.cons_append, List.nil_append, List.append_assoc, List.append_nil] at hh
                                      have hM : Mem [(k4, C [.int .u8 o.k, .int .i64 o.A, .int .i64 o.B, .slice p o.tx.length cap, .int .u8 o.m.k, .int .u8 o.m.d, .int .u32 o.m.e, .int .u32 o.m.b, .bool o.m.y, .int .u32 o.m.r, .int .u32 o.m.s, .string o.m.t, .int .u8 o.v.k, .int .u8 o.v.a, .int .u8 o.v.b, .int .u8 o.v.w, .int .u8 o.v.da, .int .u8 o.v.dl] 45)] w := (memK hh (by repeat (first | exact keeps_nil | apply keeps_cons (by repeat (first | exact find_head | apply find_tail | apply find_skip)) (by first  | rfl) | exact keeps_self | exact keeps_left | apply keeps_app | apply keeps_mv | apply keeps_skip)))
                                      refine d_step (fun _ => hM) ?_
                                      refine d_one (i := 7) (by kernel_rfl) rfl ?_
                                      try clear hM
                                      refine id (w_call hl hh rfl trivial rfl cal25 rfl (full_spec Z W.lb W.l hW.l (oddP o.A)) (by repeat (first | exact keeps_nil | apply keeps_cons (by repeat (first | exact find_head | apply find_tail | apply find_skip)) (by first  | rfl) | exact keeps_self | exact keeps_left | apply keeps_app | apply keeps_mv | apply keeps_skip)) trivial ?_)
                                      clear hl hh a w; intro vc Fc a w hR hl hh
                                      obtain ⟨rfl, rfl⟩ := hR
                                      try simp only [List.cons_append, List.nil_append, List.append_assoc, List.append_nil] at hh
                                      simp only [LdV.F, List.cons_append] at hh
                                      refine d_step (fun h => absurd h (by decide)) ?_
                                      refine d_done (by kernel_rfl) ?_
                                      try clear hM
                                      have hl2 := hl.add (t := 2) (hl.add (t := 4) (hl.nil) rfl) rfl; clear hl; have hl := hl2; clear hl2
                                      refine then_normal ?_
                                      refine c_region ?_
                                      refine wl (wl_val hl rfl trivial (r_move hl rfl) ?_)
                                      clear hl a; intro a hl
                                      refine wl (w_loadA hl hh rfl trivial agg45 rfl (by repeat (first | exact find_head | apply find_tail | apply find_skip)) (by rfl) (by rfl) ?_)
                                      clear hl a; intro a hl
                                      refine wl (w_callP hl hh rfl trivial rfl L.dfate rfl (L.fate Z x Fx o.k o.A o.B _ rfl rfl (by omega) (by omega) (by omega) hMx) (by repeat (first | exact keeps_nil | apply keeps_cons (by repeat (first | exact find_head | apply find_tail | apply find_skip)) (by first  | rfl) | exact keeps_self | exact keeps_left | apply keeps_app | apply keeps_mv | apply keeps_skip)) trivial ?_)
                                      clear hl hh a w; intro vc Fc a w hR hl hh
                                      obtain ⟨rfl, hM3⟩ := hR
                                      try simp only [List.cons_append, List.nil_append, List.append_assoc, List.append_nil] at hh
                                      generalize Fc = F3 at hh hM3
                                      try simp only [List.append_assoc, List.cons_append, List.nil_append] at hh
                                      refine w_nil ?_
                                      have hl2 := hl.nil; clear hl; have hl := hl2; clear hl2
                                      refine blk_normal ?_
                                      refine then_normal ?_
                                      refine c_seq ?_
                                      refine c_region ?_
                                      refine wl (wl_val hl rfl trivial (r_assign hl rfl) ?_)
                                      clear hl a; intro a hl
                                      refine w_nil ?_
                                      have hl2 := hl.add (t := 6) (hl.nil) rfl; clear hl; have hl := hl2; clear hl2
                                      refine then_normal ?_
                                      refine wp_ret ?_
                                      refine f_ret1 (F' := F3 ++ ((wb, C (WoV.c W) 55) :: (W.tE ++ (W.gE ++ (DsF W.ds ++ ((W.lb, C (LdV.c (⟨W.l.d, W.l.dn, oddP o.A, W.l.fu, W.l.kp⟩ : LdV)) 91) :: (W.l.d.E ++ Z))))))) hl hh rfl rfl (by repeat (first | exact keeps_nil | apply keeps_cons (by repeat (first | exact find_head | apply find_tail | apply find_skip)) (by first  | rfl) | exact keeps_self | exact keeps_left | apply keeps_app | apply keeps_mv | apply keeps_skip)) ?_
                                      refine StepO.same (W' := { W with l := (⟨W.l.d, W.l.dn, oddP o.A, W.l.fu, W.l.kp⟩ : LdV) }) (led_ok hW ⟨hW.l.d, hW.l.fu⟩) (Q.fate o.k o.A o.B hJ (.inr ⟨rfl, by omega⟩)) (hn.led rfl rfl) hM3 ?_
                                      unfold WoV.F
                                      rw [show WoV.c { W with l := (⟨W.l.d, W.l.dn, oddP o.A, W.l.fu, W.l.kp⟩ : LdV) } = W.c from wc_same rfl rfl rfl rfl]
                                      simp only [WoV.GF, hg]
                                      try rfl
                                    ·
                                      try clear hM
                                      refine id (w_call hl hh rfl trivial rfl cal18 rfl (odd_spec _ (by omega)) (by repeat (first | exact keeps_nil | apply keeps_cons (by repeat (first | exact find_head | apply find_tail | apply find_skip)) (by first  | rfl) | exact keeps_self | exact keeps_left | apply keeps_app | apply keeps_mv | apply keeps_skip)) trivial ?_)
                                      clear hl hh a w; intro vc Fc a w hR hl hh
                                      obtain ⟨rfl, rfl⟩ := hR
                                      try simp only [List.cons_append, List.nil_append, List.append_assoc, List.append_nil] at hh
                                      have hM : Mem [(k4, C [.int .u8 o.k, .int .i64 o.A, .int .i64 o.B, .slice p o.tx.length cap, .int .u8 o.m.k, .int .u8 o.m.d, .int .u32 o.m.e, .int .u32 o.m.b, .bool o.m.y, .int .u32 o.m.r, .int .u32 o.m.s, .string o.m.t, .int .u8 o.v.k, .int .u8 o.v.a, .int .u8 o.v.b, .int .u8 o.v.w, .int .u8 o.v.da, .int .u8 o.v.dl] 45)] w := (memK hh (by repeat (first | exact keeps_nil | apply keeps_cons (by repeat (first | exact find_head | apply find_tail | apply find_skip)) (by first  | rfl) | exact keeps_self | exact keeps_left | apply keeps_app | apply keeps_mv | apply keeps_skip)))
                                      refine d_step (fun _ => hM) ?_
                                      refine d_one (i := 3) (by kernel_rfl) rfl ?_
                                      try clear hM
                                      refine id (w_load hl hh rfl trivial one48 rfl (by repeat (first | exact find_head | apply find_tail | apply find_skip)) (by first | exact hct | exact hcr | exact hch | exact hcl | rfl) ?_)
                                      clear hl a; intro a hl
                                      have hM : Mem [(k4, C [.int .u8 o.k, .int .i64 o.A, .int .i64 o.B, .slice p o.tx.length cap, .int .u8 o.m.k, .int .u8 o.m.d, .int .u32 o.m.e, .int .u32 o.m.b, .bool o.m.y, .int .u32 o.m.r, .int .u32 o.m.s, .string o.m.t, .int .u8 o.v.k, .int .u8 o.v.a, .int .u8 o.v.b, .int .u8 o.v.w, .int .u8 o.v.da, .int .u8 o.v.dl] 45)] w := (memK hh (by repeat (first | exact keeps_nil | apply keeps_cons (by repeat (first | exact find_head | apply find_tail | apply find_skip)) (by first  | rfl) | exact keeps_self | exact keeps_left | apply keeps_app | apply keeps_mv | apply keeps_skip)))
                                      refine d_step (fun _ => hM) ?_
                                      refine d_one (i := 7) (by kernel_rfl) rfl ?_
                                      try clear hM
                                      refine id (w_call hl hh rfl trivial rfl cal25 rfl (full_spec Z W.lb W.l hW.l (oddP o.A)) (by repeat (first | exact keeps_nil | apply keeps_cons (by repeat (first | exact find_head | apply find_tail | apply find_skip)) (by first  | rfl) | exact keeps_self | exact keeps_left | apply keeps_app | apply keeps_mv | apply keeps_skip)) trivial ?_)
                                      clear hl hh a w; intro vc Fc a w hR hl hh
                                      obtain ⟨rfl, rfl⟩ := hR
                                      try simp only [List.cons_append, List.nil_append, List.append_assoc, List.append_nil] at hh
                                      simp only [LdV.F, List.cons_append] at hh
                                      refine d_step (fun h => absurd h (by decide)) ?_
                                      refine d_done (by kernel_rfl) ?_
                                      try clear hM
                                      have hl2 := hl.add (t := 2) (hl.add (t := 4) (hl.nil) rfl) rfl; clear hl; have hl := hl2; clear hl2
                                      refine then_normal ?_
                                      refine c_region ?_
                                      refine wl (wl_val hl rfl trivial (r_move hl rfl) ?_)
                                      clear hl a; intro a hl
                                      refine wl (w_loadA hl hh rfl trivial agg45 rfl (by repeat (first | exact find_head | apply find_tail | apply find_skip)) (by rfl) (by rfl) ?_)
                                      clear hl a; intro a hl
                                      refine wl (w_callP hl hh rfl trivial rfl L.dfate rfl (L.fate Z x Fx o.k o.A o.B _ rfl rfl (by omega) (by omega) (by omega) hMx) (by repeat (first | exact keeps_nil | apply keeps_cons (by repeat (first | exact find_head | apply find_tail | apply find_skip)) (by first  | rfl) | exact keeps_self | exact keeps_left | apply keeps_app | apply keeps_mv | apply keeps_skip)) trivial ?_)
                                      clear hl hh a w; intro vc Fc a w hR hl hh
                                      obtain ⟨rfl, hM3⟩ := hR
                                      try simp only [List.cons_append, List.nil_append, List.append_assoc, List.append_nil] at hh
                                      generalize Fc = F3 at hh hM3
                                      try simp only [List.append_assoc, List.cons_append, List.nil_append] at hh
                                      refine w_nil ?_
                                      have hl2 := hl.nil; clear hl; have hl := hl2; clear hl2
                                      refine blk_normal ?_
                                      refine then_normal ?_
                                      refine c_seq ?_
                                      refine c_region ?_
                                      refine wl (wl_val hl rfl trivial (r_assign hl rfl) ?_)
                                      clear hl a; intro a hl
                                      refine w_nil ?_
                                      have hl2 := hl.add (t := 6) (hl.nil) rfl; clear hl; have hl := hl2; clear hl2
                                      refine then_normal ?_
                                      refine wp_ret ?_
                                      refine f_ret1 (F' := F3 ++ ((wb, C (WoV.c W) 55) :: (W.tE ++ (W.gE ++ (DsF W.ds ++ ((W.lb, C (LdV.c (⟨W.l.d, W.l.dn, oddP o.A, W.l.fu, W.l.kp⟩ : LdV)) 91) :: (W.l.d.E ++ Z))))))) hl hh rfl rfl (by repeat (first | exact keeps_nil | apply keeps_cons (by repeat (first | exact find_head | apply find_tail | apply find_skip)) (by first  | rfl) | exact keeps_self | exact keeps_left | apply keeps_app | apply keeps_mv | apply keeps_skip)) ?_
                                      refine StepO.same (W' := { W with l := (⟨W.l.d, W.l.dn, oddP o.A, W.l.fu, W.l.kp⟩ : LdV) }) (led_ok hW ⟨hW.l.d, hW.l.fu⟩) (Q.fate o.k o.A o.B hJ (.inr ⟨rfl, by omega⟩)) (hn.led rfl rfl) hM3 ?_
                                      unfold WoV.F
                                      rw [show WoV.c { W with l := (⟨W.l.d, W.l.dn, oddP o.A, W.l.fu, W.l.kp⟩ : LdV) } = W.c from wc_same rfl rfl rfl rfl]
                                      simp only [WoV.GF, hg]
                                      try rfl
                                  · intro hc21
                                    try simp only [decide_eq_true_eq, decide_eq_false_iff_not, Bool.not_eq_true', Bool.not_eq_false', Bool.not_eq_true, Bool.not_eq_false, Bool.and_eq_true, Bool.or_eq_true, Bool.and_eq_false_iff, Bool.or_eq_false_iff, Bool.not_not, ne_eq, Int.not_lt, Int.not_le, Decidable.not_not, beq_iff_eq, bne_iff_ne] at hc21
                                    exfalso; first | contradiction | omega
end Go.Proofs.Qxb6500908aGreat

import Derived.Test.Qxb6500908aGreatX6
namespace Go.Proofs.Qxb6500908aGreat
open Go.Eng
set_option linter.unusedVariables false
set_option linter.unusedSimpArgs false
theorem cal21 : callable Tryz.prog 21 = true := by kernel_rfl
theorem cal22 : callable Tryz.prog 22 = true := by kernel_rfl
attribute [local irreducible] postP

theorem mod_nat (x : Int) {n : Nat} (h : 0 < n) : ∃ i : Nat, modP x (n : Int) = (i : Int) ∧ i < n := by
  have h1 := modP_b (x := x) (n := (n : Int)) (by omega)
  exact ⟨(modP x (n : Int)).toNat, by omega, by omega⟩
section stx
variable {lb wb : Nat} {L : LawM lb wb} {Q : LawJ L} {Z : List (Nat × Obj)} {W : WoV} {n : Nat} {x : L.X}
theorem td_ok (hW : W.ok Z) {ms : List Ms} {p : Option Addr} {c : Nat} {E : List (Nat × Obj)} (hR : ROWB p ms c E) (hm : ∀ m, m ∈ ms → m ∈ W.td) (hl : ms.length ≤ 160) : WoV.ok Z { W with td := ms, tp := p, tc := c, tE := E } := ⟨hW.l, hW.g, hW.dl, hW.ds, hR, fun m h => hW.to m (hm m h), hl, hW.r, hW.ro, hW.rl⟩
theorem tg_ok (hW : W.ok Z) {ms : List Ms} {p : Option Addr} {c : Nat} {E : List (Nat × Obj)} (hR : ROWB p ms c E) (hm : ∀ m, m ∈ ms → m ∈ W.tg) (hl : ms.length ≤ 160) : WoV.ok Z { W with tg := ms, gp := p, gc := c, gE := E } := ⟨hW.l, hW.g, hW.dl, hW.ds, hW.t, hW.to, hW.tl, hR, fun m h => hW.ro m (hm m h), hl⟩
theorem del_len160 {ms : List Ms} (h : ms.length ≤ 160) (i : Nat) : (delP ms i).length ≤ 160 := by have := (delP_sub ms i).length_le; omega
theorem hnd_ok (hW : W.ok Z) {m : Ms} {d d' : DeV} {db : Nat} {p : Option Addr} {c : Nat} {E : List (Nat × Obj)} (hd : d'.ok) (hr : ∀ r, (handP d.pl m).2 = some r → r.ok) (hR : ROWB p (postO W.tg (handP d.pl m).2) c E) : (W.hnd m.d.toNat db d' (postO W.tg (handP d.pl m).2) p c E).ok Z := by
  have h1 := hW.dl
  refine WoV.ok.mk hW.l hW.g (by show (W.ds.set _ _).length = 16; rw [List.length_set]; exact h1) (fun y hy => ?_) hW.t hW.to hW.tl hR (fun m' hm' => ?_) (postO_len hW.rl _)
  · have hy : y ∈ W.ds.set m.d.toNat (db, d') := hy
    rcases mem_set9 hy with h9 | h9
    · exact hW.ds y h9
    · rw [h9]; exact hd
  · have hm' : m' ∈ postO W.tg (handP d.pl m).2 := hm'
    rcases postO_mem hm' with h9 | h9
    · exact hW.ro m' h9
    · exact hr m' h9
theorem hnd_K {m : Ms} (hn : WI n (W.pl [] [])) (hK : Q.K (W.pl [m] []) x) {d d' : DeV} {db : Nat} (hx : W.ds[m.d.toNat]? = some (db, d)) (hp : d'.pl = (handP d.pl m).1) (p : Option Addr) (c : Nat) (E : List (Nat × Obj)) : Q.K ((W.hnd m.d.toNat db d' (postO W.tg (handP d.pl m).2) p c E).pl [] []) x := by
  have hk := Q.hand (m := m) (r := []) (d := d.pl) (hn.cg rfl rfl : WI n (W.pl [m] [])) hK rfl (by show (W.ds.map _)[m.d.toNat]? = _; rw [List.getElem?_map, hx]; rfl)
  have e : (W.hnd m.d.toNat db d' (postO W.tg (handP d.pl m).2) p c E).pl [] [] = hndW (W.pl [m] []) m [] d.pl := by
    unfold hndW WoV.pl WoV.hnd
    simp only [WoP.mk.injEq, true_and, and_true]
    rw [List.map_set, hp]
  rw [e]; exact hk
theorem td_K (hK : Q.K (W.pl [] []) x) {ms xd : List Ms} (h : ∀ m, m ∈ ms ∨ m ∈ xd → m ∈ W.td) (p : Option Addr) (c : Nat) (E : List (Nat × Obj)) : Q.K (WoV.pl { W with td := ms, tp := p, tc := c, tE := E } xd []) x := Q.mov hK (fun m h9 => .inl (h m h9)) (fun m h9 => h9)
theorem tg_K (hK : Q.K (W.pl [] []) x) {ms xg : List Ms} (h : ∀ m, m ∈ ms ∨ m ∈ xg → m ∈ W.tg) (p : Option Addr) (c : Nat) (E : List (Nat × Obj)) : Q.K (WoV.pl { W with tg := ms, gp := p, gc := c, gE := E } [] xg) x := Q.mov hK (fun m h9 => h9) (fun m h9 => .inl (h m h9))
theorem del_in {ms : List Ms} {i : Nat} {m : Ms} (h : ms[i]? = some m) : ∀ m', m' ∈ delP ms i ∨ m' ∈ [m] → m' ∈ ms := fun m' h9 => by
  rcases h9 with h9 | h9
  · exact delP_mem h9
  · rw [List.mem_singleton.1 h9]; exact List.mem_of_getElem? h
theorem del_in0 {ms : List Ms} (i : Nat) : ∀ m', m' ∈ delP ms i ∨ m' ∈ [] → m' ∈ ms := fun m' h9 => by
  rcases h9 with h9 | h9
  · exact delP_mem h9
  · cases h9
theorem post_in {ms : List Ms} {i : Nat} {m : Ms} (h : ms[i]? = some m) : ∀ m', m' ∈ postP ms [m] ∨ m' ∈ [] → m' ∈ ms := fun m' h9 => by
  rcases h9 with h9 | h9
  · rcases postP_mem h9 with h8 | h8
    · exact h8
    · rw [List.mem_singleton.1 h8]; exact List.mem_of_getElem? h
  · cases h9
theorem WI.led {n : Nat} {W : WoP} (h : WI n W) {l' : LdP} (h1 : l'.d = W.l.d) (h2 : l'.dn = W.l.dn) : WI n { W with l := l' } := ⟨by show StI l'.d; rw [h1]; exact h.st, fun g hg => by show GtI g ∧ g.st = l'.d ∧ l'.dn = false; rw [h1, h2]; exact h.g g hg, by show l'.d.vs.length ≤ n; rw [h1]; exact h.vs, by show l'.d.ep ≤ n; rw [h1]; exact h.ep⟩
theorem WI.dead {n : Nat} {W : WoP} (h : WI n W) {l' : LdP} (h1 : l'.d = W.l.d) : WI n { W with l := l', g := none } := ⟨by show StI l'.d; rw [h1]; exact h.st, fun g hg => (by cases hg), by show l'.d.vs.length ≤ n; rw [h1]; exact h.vs, by show l'.d.ep ≤ n; rw [h1]; exact h.ep⟩
end stx

attribute [local irreducible] NtV.k StV.c LdV.c StV.E GtV.c GtV.t orB sh1 WoV.c wst

set_option maxHeartbeats 8000000 in
theorem step_todev {lb wb : Nat} (L : LawM lb wb) (Q : LawJ L) (Z : List (Nat × Obj)) (W : WoV) (hW : W.ok Z) (n : Nat) (hn9 : n + 200 < 1000000000) (x : L.X) (Fx : List (Nat × Obj)) (hMx : L.M Z x Fx) (hJ : Q.J (W.pl [] []) x) (hn : WI n (W.pl [] [])) (o : OpP) (p : Option Addr) (cap : Nat) (ho : OpOk Z o p cap) (hk : o.k = 6) : Sp Tryz.prog 12 #[.pointer (some ⟨wb, 0, none⟩), .agg ⟨opC o p cap⟩, Lw L.T lb] (Fx ++ WoV.F wb W Z) (fun v F' => StepO Q Z n v F') := by
  refine f_enter (args := [.pointer (some ⟨wb, 0, none⟩), .agg ⟨[.int .u8 o.k, .int .i64 o.A, .int .i64 o.B, .slice p o.tx.length cap, .int .u8 o.m.k, .int .u8 o.m.d, .int .u32 o.m.e, .int .u32 o.m.b, .bool o.m.y, .int .u32 o.m.r, .int .u32 o.m.s, .string o.m.t, .int .u8 o.v.k, .int .u8 o.v.a, .int .u8 o.v.b, .int .u8 o.v.w, .int .u8 o.v.da, .int .u8 o.v.dl]⟩, .iface L.T (.pointer (some ⟨lb, 0, none⟩))]) Tryz.func12 rfl Tryz.ntmps12 rfl ?_
  intro w0 w a hpre hl hh
  generalize hDD : List.map Prod.fst (Fx ++ WoV.F wb W Z) = D at hh ⊢
  simp only [WoV.F] at hh
  have hct := wc_td W hW.dl
  have hcr := wc_tg W hW.dl
  have hch := wc_hn W hW.dl
  have hcl := wc_led W
  have hwl := wc_len W hW.dl
  have ho1 := ho.k
  have ho2 := ho.A
  have ho3 := ho.B
  have htl := hW.tl
  have hrl := hW.rl
  
  simp only [slotsFrom, Nat.reduceAdd] at hl
  refine c_seq ?_
  refine c_region ?_
  refine wl (w_box hl hh rfl trivial rfl rfl ?_)
  clear hl hh a w; intro k4 a w hl hh
  refine wl (wl_val hl rfl trivial (r_assign hl rfl) ?_)
  clear hl a; intro a hl
  refine w_nil ?_
  have hl2 := hl.add (t := 0) (hl.add (t := 2) (hl.add (t := 4) (hl.nil) rfl) rfl) rfl; clear hl; have hl := hl2; clear hl2
  refine then_normal ?_
  refine c_seq ?_
  refine c_region ?_
  refine wl (wl_val hl rfl trivial (r_move hl rfl) ?_)
  clear hl a; intro a hl
  refine wl (wl_val hl rfl trivial (r_nilCheck hl rfl) ?_)
  clear hl a; intro a hl
  refine wl (wl_val hl rfl trivial (r_field hl rfl fld55_3) ?_)
  clear hl a; intro a hl
  refine wl (wl_val hl rfl trivial (r_assign hl rfl) ?_)
  clear hl a; intro a hl
  refine w_nil ?_
  have hl2 := hl.add (t := 0) (hl.add (t := 2) (hl.add (t := 4) (hl.add (t := 7) (hl.nil) rfl) rfl) rfl) rfl; clear hl; have hl := hl2; clear hl2
  refine then_normal ?_
  refine c_seq ?_
  refine c_seq ?_
  refine c_region ?_
  refine wl (wl_val hl rfl trivial (r_field hl rfl fld45_2) ?_)
  clear hl a; intro a hl
  refine wl (w_load hl hh rfl trivial one3 rfl (by repeat (first | exact find_head | apply find_tail | apply find_skip)) (by first | exact hct | exact hcr | exact hch | exact hcl | rfl) ?_)
  clear hl a; intro a hl
  refine wl (w_call hl hh rfl trivial rfl cal18 rfl (odd_spec _ (by omega)) (by repeat (first | exact keeps_nil | apply keeps_cons (by repeat (first | exact find_head | apply find_tail | apply find_skip)) (by first  | rfl) | exact keeps_self | exact keeps_left | apply keeps_app | apply keeps_mv | apply keeps_skip)) trivial ?_)
  clear hl hh a w; intro vc Fc a w hR hl hh
  obtain ⟨rfl, rfl⟩ := hR
  try simp only [List.cons_append, List.nil_append, List.append_assoc, List.append_nil] at hh
  refine w_nil ?_
  have hl2 := hl.add (t := 0) (hl.add (t := 2) (hl.add (t := 4) (hl.add (t := 7) (hl.add (t := 13) (hl.nil) rfl) rfl) rfl) rfl) rfl; clear hl; have hl := hl2; clear hl2
  refine then_normal ?_
  refine c_cond hl rfl ?_ ?_
  · intro hc0
    try simp only [decide_eq_true_eq, decide_eq_false_iff_not, Bool.not_eq_true', Bool.not_eq_false', Bool.not_eq_true, Bool.not_eq_false, Bool.and_eq_true, Bool.or_eq_true, Bool.and_eq_false_iff, Bool.or_eq_false_iff, Bool.not_not, ne_eq, Int.not_lt, Int.not_le, Decidable.not_not, beq_iff_eq, bne_iff_ne] at hc0
    refine c_region ?_
    refine wl (wl_val hl rfl trivial (r_move hl rfl) ?_)
    clear hl a; intro a hl
    refine wl (wl_val hl rfl trivial (r_nilCheck hl rfl) ?_)
    clear hl a; intro a hl
    refine wl (wl_val hl rfl trivial (r_field hl rfl fld55_4) ?_)
    clear hl a; intro a hl
    refine wl (wl_val hl rfl trivial (r_assign hl rfl) ?_)
    clear hl a; intro a hl
    refine w_nil ?_
    have hl2 := hl.add (t := 0) (hl.add (t := 2) (hl.add (t := 4) (hl.add (t := 7) (hl.nil) rfl) rfl) rfl) rfl; clear hl; have hl := hl2; clear hl2
    refine then_normal ?_
    refine c_seq ?_
    refine c_seq ?_
    refine c_region ?_
    refine wl (wl_val hl rfl trivial (r_field hl rfl fld45_0) ?_)
    clear hl a; intro a hl
    refine wl (w_load hl hh rfl trivial one33 rfl (by repeat (first | exact find_head | apply find_tail | apply find_skip)) (by first | exact hct | exact hcr | exact hch | exact hcl | rfl) ?_)
    clear hl a; intro a hl
    refine w_nil ?_
    have hl2 := hl.add (t := 0) (hl.add (t := 2) (hl.add (t := 4) (hl.add (t := 7) (hl.add (t := 18) (hl.nil) rfl) rfl) rfl) rfl) rfl; clear hl; have hl := hl2; clear hl2
    refine then_normal ?_
    refine wp_block ?_
    refine c_seq ?_
    refine c_region ?_
    refine wl (wl_val hl rfl trivial (r_eql hl rfl rfl) ?_)
    clear hl a; intro a hl
    refine wl (wl_val hl rfl trivial (r_assign hl rfl) ?_)
    clear hl a; intro a hl
    refine w_nil ?_
    have hl2 := hl.add (t := 0) (hl.add (t := 2) (hl.add (t := 4) (hl.add (t := 7) (hl.add (t := 18) (hl.add (t := 19) (hl.nil) rfl) rfl) rfl) rfl) rfl) rfl; clear hl; have hl := hl2; clear hl2
    refine then_normal ?_
    refine c_cond hl rfl ?_ ?_
    · intro hc1
      try simp only [decide_eq_true_eq, decide_eq_false_iff_not, Bool.not_eq_true', Bool.not_eq_false', Bool.not_eq_true, Bool.not_eq_false, Bool.and_eq_true, Bool.or_eq_true, Bool.and_eq_false_iff, Bool.or_eq_false_iff, Bool.not_not, ne_eq, Int.not_lt, Int.not_le, Decidable.not_not, beq_iff_eq, bne_iff_ne] at hc1
      exfalso; first | contradiction | omega
    · intro hc1
      try simp only [decide_eq_true_eq, decide_eq_false_iff_not, Bool.not_eq_true', Bool.not_eq_false', Bool.not_eq_true, Bool.not_eq_false, Bool.and_eq_true, Bool.or_eq_true, Bool.and_eq_false_iff, Bool.or_eq_false_iff, Bool.not_not, ne_eq, Int.not_lt, Int.not_le, Decidable.not_not, beq_iff_eq, bne_iff_ne] at hc1
      refine c_seq ?_
      refine c_seq ?_
      refine c_region ?_
      refine wl (wl_val hl rfl trivial (r_eql hl rfl rfl) ?_)
      clear hl a; intro a hl
      refine wl (wl_val hl rfl trivial (r_assign hl rfl) ?_)
      clear hl a; intro a hl
      refine w_nil ?_
      have hl2 := hl.add (t := 0) (hl.add (t := 2) (hl.add (t := 4) (hl.add (t := 7) (hl.add (t := 18) (hl.add (t := 27) (hl.nil) rfl) rfl) rfl) rfl) rfl) rfl; clear hl; have hl := hl2; clear hl2
      refine then_normal ?_
      refine c_cond hl rfl ?_ ?_
      · intro hc2
        try simp only [decide_eq_true_eq, decide_eq_false_iff_not, Bool.not_eq_true', Bool.not_eq_false', Bool.not_eq_true, Bool.not_eq_false, Bool.and_eq_true, Bool.or_eq_true, Bool.and_eq_false_iff, Bool.or_eq_false_iff, Bool.not_not, ne_eq, Int.not_lt, Int.not_le, Decidable.not_not, beq_iff_eq, bne_iff_ne] at hc2
        exfalso; first | contradiction | omega
      · intro hc2
        try simp only [decide_eq_true_eq, decide_eq_false_iff_not, Bool.not_eq_true', Bool.not_eq_false', Bool.not_eq_true, Bool.not_eq_false, Bool.and_eq_true, Bool.or_eq_true, Bool.and_eq_false_iff, Bool.or_eq_false_iff, Bool.not_not, ne_eq, Int.not_lt, Int.not_le, Decidable.not_not, beq_iff_eq, bne_iff_ne] at hc2
        refine c_region ?_
        refine wl (wl_val hl rfl trivial (r_eql hl rfl rfl) ?_)
        clear hl a; intro a hl
        refine wl (wl_val hl rfl trivial (r_assign hl rfl) ?_)
        clear hl a; intro a hl
        refine w_nil ?_
        have hl2 := hl.add (t := 0) (hl.add (t := 2) (hl.add (t := 4) (hl.add (t := 7) (hl.add (t := 18) (hl.add (t := 27) (hl.nil) rfl) rfl) rfl) rfl) rfl) rfl; clear hl; have hl := hl2; clear hl2
        refine then_normal ?_
        refine c_cond hl rfl ?_ ?_
        · intro hc3
          try simp only [decide_eq_true_eq, decide_eq_false_iff_not, Bool.not_eq_true', Bool.not_eq_false', Bool.not_eq_true, Bool.not_eq_false, Bool.and_eq_true, Bool.or_eq_true, Bool.and_eq_false_iff, Bool.or_eq_false_iff, Bool.not_not, ne_eq, Int.not_lt, Int.not_le, Decidable.not_not, beq_iff_eq, bne_iff_ne] at hc3
          exfalso; first | contradiction | omega
        · intro hc3
          try simp only [decide_eq_true_eq, decide_eq_false_iff_not, Bool.not_eq_true', Bool.not_eq_false', Bool.not_eq_true, Bool.not_eq_false, Bool.and_eq_true, Bool.or_eq_true, Bool.and_eq_false_iff, Bool.or_eq_false_iff, Bool.not_not, ne_eq, Int.not_lt, Int.not_le, Decidable.not_not, beq_iff_eq, bne_iff_ne] at hc3
          refine c_seq ?_
          refine c_seq ?_
          refine c_region ?_
          refine wl (wl_val hl rfl trivial (r_eql hl rfl rfl) ?_)
          clear hl a; intro a hl
          refine wl (wl_val hl rfl trivial (r_assign hl rfl) ?_)
          clear hl a; intro a hl
          refine w_nil ?_
          have hl2 := hl.add (t := 0) (hl.add (t := 2) (hl.add (t := 4) (hl.add (t := 7) (hl.add (t := 18) (hl.add (t := 39) (hl.nil) rfl) rfl) rfl) rfl) rfl) rfl; clear hl; have hl := hl2; clear hl2
          refine then_normal ?_
          refine c_cond hl rfl ?_ ?_
          · intro hc4
            try simp only [decide_eq_true_eq, decide_eq_false_iff_not, Bool.not_eq_true', Bool.not_eq_false', Bool.not_eq_true, Bool.not_eq_false, Bool.and_eq_true, Bool.or_eq_true, Bool.and_eq_false_iff, Bool.or_eq_false_iff, Bool.not_not, ne_eq, Int.not_lt, Int.not_le, Decidable.not_not, beq_iff_eq, bne_iff_ne] at hc4
            exfalso; first | contradiction | omega
          · intro hc4
            try simp only [decide_eq_true_eq, decide_eq_false_iff_not, Bool.not_eq_true', Bool.not_eq_false', Bool.not_eq_true, Bool.not_eq_false, Bool.and_eq_true, Bool.or_eq_true, Bool.and_eq_false_iff, Bool.or_eq_false_iff, Bool.not_not, ne_eq, Int.not_lt, Int.not_le, Decidable.not_not, beq_iff_eq, bne_iff_ne] at hc4
            refine c_region ?_
            refine wl (wl_val hl rfl trivial (r_eql hl rfl rfl) ?_)
            clear hl a; intro a hl
            refine wl (wl_val hl rfl trivial (r_assign hl rfl) ?_)
            clear hl a; intro a hl
            refine w_nil ?_
            have hl2 := hl.add (t := 0) (hl.add (t := 2) (hl.add (t := 4) (hl.add (t := 7) (hl.add (t := 18) (hl.add (t := 39) (hl.nil) rfl) rfl) rfl) rfl) rfl) rfl; clear hl; have hl := hl2; clear hl2
            refine then_normal ?_
            refine c_cond hl rfl ?_ ?_
            · intro hc5
              try simp only [decide_eq_true_eq, decide_eq_false_iff_not, Bool.not_eq_true', Bool.not_eq_false', Bool.not_eq_true, Bool.not_eq_false, Bool.and_eq_true, Bool.or_eq_true, Bool.and_eq_false_iff, Bool.or_eq_false_iff, Bool.not_not, ne_eq, Int.not_lt, Int.not_le, Decidable.not_not, beq_iff_eq, bne_iff_ne] at hc5
              exfalso; first | contradiction | omega
            · intro hc5
              try simp only [decide_eq_true_eq, decide_eq_false_iff_not, Bool.not_eq_true', Bool.not_eq_false', Bool.not_eq_true, Bool.not_eq_false, Bool.and_eq_true, Bool.or_eq_true, Bool.and_eq_false_iff, Bool.or_eq_false_iff, Bool.not_not, ne_eq, Int.not_lt, Int.not_le, Decidable.not_not, beq_iff_eq, bne_iff_ne] at hc5
              refine c_seq ?_
              refine c_region ?_
              refine wl (wl_val hl rfl trivial (r_eql hl rfl rfl) ?_)
              clear hl a; intro a hl
              refine wl (wl_val hl rfl trivial (r_assign hl rfl) ?_)
              clear hl a; intro a hl
              refine w_nil ?_
              have hl2 := hl.add (t := 0) (hl.add (t := 2) (hl.add (t := 4) (hl.add (t := 7) (hl.add (t := 18) (hl.add (t := 50) (hl.nil) rfl) rfl) rfl) rfl) rfl) rfl; clear hl; have hl := hl2; clear hl2
              refine then_normal ?_
              refine c_cond hl rfl ?_ ?_
              · intro hc6
                try simp only [decide_eq_true_eq, decide_eq_false_iff_not, Bool.not_eq_true', Bool.not_eq_false', Bool.not_eq_true, Bool.not_eq_false, Bool.and_eq_true, Bool.or_eq_true, Bool.and_eq_false_iff, Bool.or_eq_false_iff, Bool.not_not, ne_eq, Int.not_lt, Int.not_le, Decidable.not_not, beq_iff_eq, bne_iff_ne] at hc6
                exfalso; first | contradiction | omega
              · intro hc6
                try simp only [decide_eq_true_eq, decide_eq_false_iff_not, Bool.not_eq_true', Bool.not_eq_false', Bool.not_eq_true, Bool.not_eq_false, Bool.and_eq_true, Bool.or_eq_true, Bool.and_eq_false_iff, Bool.or_eq_false_iff, Bool.not_not, ne_eq, Int.not_lt, Int.not_le, Decidable.not_not, beq_iff_eq, bne_iff_ne] at hc6
                refine c_seq ?_
                refine c_region ?_
                refine wl (wl_val hl rfl trivial (r_eql hl rfl rfl) ?_)
                clear hl a; intro a hl
                refine wl (wl_val hl rfl trivial (r_assign hl rfl) ?_)
                clear hl a; intro a hl
                refine w_nil ?_
                have hl2 := hl.add (t := 0) (hl.add (t := 2) (hl.add (t := 4) (hl.add (t := 7) (hl.add (t := 18) (hl.add (t := 62) (hl.nil) rfl) rfl) rfl) rfl) rfl) rfl; clear hl; have hl := hl2; clear hl2
                refine then_normal ?_
                refine c_cond hl rfl ?_ ?_
                · intro hc7
                  try simp only [decide_eq_true_eq, decide_eq_false_iff_not, Bool.not_eq_true', Bool.not_eq_false', Bool.not_eq_true, Bool.not_eq_false, Bool.and_eq_true, Bool.or_eq_true, Bool.and_eq_false_iff, Bool.or_eq_false_iff, Bool.not_not, ne_eq, Int.not_lt, Int.not_le, Decidable.not_not, beq_iff_eq, bne_iff_ne] at hc7
                  exfalso; first | contradiction | omega
                · intro hc7
                  try simp only [decide_eq_true_eq, decide_eq_false_iff_not, Bool.not_eq_true', Bool.not_eq_false', Bool.not_eq_true, Bool.not_eq_false, Bool.and_eq_true, Bool.or_eq_true, Bool.and_eq_false_iff, Bool.or_eq_false_iff, Bool.not_not, ne_eq, Int.not_lt, Int.not_le, Decidable.not_not, beq_iff_eq, bne_iff_ne] at hc7
                  refine c_seq ?_
                  refine c_region ?_
                  refine wl (wl_val hl rfl trivial (r_eql hl rfl rfl) ?_)
                  clear hl a; intro a hl
                  refine wl (wl_val hl rfl trivial (r_assign hl rfl) ?_)
                  clear hl a; intro a hl
                  refine w_nil ?_
                  have hl2 := hl.add (t := 0) (hl.add (t := 2) (hl.add (t := 4) (hl.add (t := 7) (hl.add (t := 18) (hl.add (t := 68) (hl.nil) rfl) rfl) rfl) rfl) rfl) rfl; clear hl; have hl := hl2; clear hl2
                  refine then_normal ?_
                  refine c_cond hl rfl ?_ ?_
                  · intro hc8
                    try simp only [decide_eq_true_eq, decide_eq_false_iff_not, Bool.not_eq_true', Bool.not_eq_false', Bool.not_eq_true, Bool.not_eq_false, Bool.and_eq_true, Bool.or_eq_true, Bool.and_eq_false_iff, Bool.or_eq_false_iff, Bool.not_not, ne_eq, Int.not_lt, Int.not_le, Decidable.not_not, beq_iff_eq, bne_iff_ne] at hc8
                    refine c_seq ?_
                    refine c_region ?_
                    refine wl (wl_val hl rfl trivial (r_move hl rfl) ?_)
                    clear hl a; intro a hl
                    refine wl (wl_val hl rfl trivial (r_nilCheck hl rfl) ?_)
                    clear hl a; intro a hl
                    refine wl (wl_val hl rfl trivial (r_field hl rfl fld55_3) ?_)
                    clear hl a; intro a hl
                    refine wl (w_load hl hh rfl trivial one53 rfl (by repeat (first | exact find_head | apply find_tail | apply find_skip)) (by first | exact hct | exact hcr | exact hch | exact hcl | rfl) ?_)
                    clear hl a; intro a hl
                    refine wl (wl_val hl rfl trivial (r_lenS hl rfl slc53) ?_)
                    clear hl a; intro a hl
                    refine wl (wl_val hl rfl trivial (r_gtr hl rfl rfl) ?_)
                    clear hl a; intro a hl
                    refine w_nil ?_
                    have hl2 := hl.add (t := 0) (hl.add (t := 4) (hl.add (t := 75) (hl.nil) rfl) rfl) rfl; clear hl; have hl := hl2; clear hl2
                    refine then_normal ?_
                    refine c_cond hl rfl ?_ ?_
                    · intro hc9
                      try simp only [decide_eq_true_eq, decide_eq_false_iff_not, Bool.not_eq_true', Bool.not_eq_false', Bool.not_eq_true, Bool.not_eq_false, Bool.and_eq_true, Bool.or_eq_true, Bool.and_eq_false_iff, Bool.or_eq_false_iff, Bool.not_not, ne_eq, Int.not_lt, Int.not_le, Decidable.not_not, beq_iff_eq, bne_iff_ne] at hc9
                      refine c_draw [(k4, C [.int .u8 o.k, .int .i64 o.A, .int .i64 o.B, .slice p o.tx.length cap, .int .u8 o.m.k, .int .u8 o.m.d, .int .u32 o.m.e, .int .u32 o.m.b, .bool o.m.y, .int .u32 o.m.r, .int .u32 o.m.s, .string o.m.t, .int .u8 o.v.k, .int .u8 o.v.a, .int .u8 o.v.b, .int .u8 o.v.w, .int .u8 o.v.da, .int .u8 o.v.dl] 45)] [13] mixed hh ?_
                      clear hh w; intro w hh
                      have hM : Mem [(k4, C [.int .u8 o.k, .int .i64 o.A, .int .i64 o.B, .slice p o.tx.length cap, .int .u8 o.m.k, .int .u8 o.m.d, .int .u32 o.m.e, .int .u32 o.m.b, .bool o.m.y, .int .u32 o.m.r, .int .u32 o.m.s, .string o.m.t, .int .u8 o.v.k, .int .u8 o.v.a, .int .u8 o.v.b, .int .u8 o.v.w, .int .u8 o.v.da, .int .u8 o.v.dl] 45)] w := (memK hh (by repeat (first | exact keeps_nil | apply keeps_cons (by repeat (first | exact find_head | apply find_tail | apply find_skip)) (by first  | rfl) | exact keeps_self | exact keeps_left | apply keeps_app | apply keeps_mv | apply keeps_skip)))
                      refine d_take (i := 0) hl rfl (by kernel_rfl) (by kernel_rfl) (by kernel_rfl) (by kernel_rfl) (by kernel_rfl) rfl trivial (fun _ _ _ h => h) hM (fun w hC => r_move hl rfl) rfl ?_
                      clear hl a; intro a hl
                      refine d_take (i := 1) hl rfl (by kernel_rfl) (by kernel_rfl) (by kernel_rfl) (by kernel_rfl) (by kernel_rfl) rfl trivial (fun _ _ _ h => h) hM (fun w hC => r_move hl rfl) rfl ?_
                      clear hl a; intro a hl
                      refine d_take (i := 2) hl rfl (by kernel_rfl) (by kernel_rfl) (by kernel_rfl) (by kernel_rfl) (by kernel_rfl) rfl trivial (fun _ _ _ h => h) hM (fun w hC => r_nilCheck hl rfl) rfl ?_
                      clear hl a; intro a hl
                      refine d_take (i := 3) hl rfl (by kernel_rfl) (by kernel_rfl) (by kernel_rfl) (by kernel_rfl) (by kernel_rfl) rfl trivial (fun _ _ _ h => h) hM (fun w hC => r_field hl rfl fld55_3) rfl ?_
                      clear hl a; intro a hl
                      refine d_take (i := 4) hl rfl (by kernel_rfl) (by kernel_rfl) (by kernel_rfl) (by kernel_rfl) (by kernel_rfl) rfl trivial (fun _ _ _ h => h) hM (fun w hC => r_field hl rfl fld45_1) rfl ?_
                      clear hl a; intro a hl
                      refine d_take (i := 5) hl rfl (by kernel_rfl) (by kernel_rfl) (by kernel_rfl) (by kernel_rfl) (by kernel_rfl) rfl trivial (fun _ _ _ h => h) hM (fun w hC => r_loadC hl rfl one3 hC (by repeat (first | exact find_head | apply find_tail | apply find_skip)) (by first | exact hct | exact hcr | exact hch | exact hcl | rfl)) rfl ?_
                      clear hl a; intro a hl
                      refine d_take (i := 6) hl rfl (by kernel_rfl) (by kernel_rfl) (by kernel_rfl) (by kernel_rfl) (by kernel_rfl) rfl trivial (fun _ _ _ h => h) hM (fun w hC => r_move hl rfl) rfl ?_
                      clear hl a; intro a hl
                      refine d_take (i := 7) hl rfl (by kernel_rfl) (by kernel_rfl) (by kernel_rfl) (by kernel_rfl) (by kernel_rfl) rfl trivial (fun _ _ _ h => h) hM (fun w hC => r_nilCheck hl rfl) rfl ?_
                      clear hl a; intro a hl
                      refine d_take (i := 8) hl rfl (by kernel_rfl) (by kernel_rfl) (by kernel_rfl) (by kernel_rfl) (by kernel_rfl) rfl trivial (fun _ _ _ h => h) hM (fun w hC => r_field hl rfl fld55_3) rfl ?_
                      clear hl a; intro a hl
                      refine d_one (i := 9) (by kernel_rfl) rfl ?_
                      try clear hM
                      refine id (w_load hl hh rfl trivial one53 rfl (by repeat (first | exact find_head | apply find_tail | apply find_skip)) (by first | exact hct | exact hcr | exact hch | exact hcl | rfl) ?_)
                      clear hl a; intro a hl
                      have hM : Mem [(k4, C [.int .u8 o.k, .int .i64 o.A, .int .i64 o.B, .slice p o.tx.length cap, .int .u8 o.m.k, .int .u8 o.m.d, .int .u32 o.m.e, .int .u32 o.m.b, .bool o.m.y, .int .u32 o.m.r, .int .u32 o.m.s, .string o.m.t, .int .u8 o.v.k, .int .u8 o.v.a, .int .u8 o.v.b, .int .u8 o.v.w, .int .u8 o.v.da, .int .u8 o.v.dl] 45)] w := (memK hh (by repeat (first | exact keeps_nil | apply keeps_cons (by repeat (first | exact find_head | apply find_tail | apply find_skip)) (by first  | rfl) | exact keeps_self | exact keeps_left | apply keeps_app | apply keeps_mv | apply keeps_skip)))
                      refine d_step (fun _ => hM) ?_
                      refine d_take (i := 10) hl rfl (by kernel_rfl) (by kernel_rfl) (by kernel_rfl) (by kernel_rfl) (by kernel_rfl) rfl trivial (fun _ _ _ h => h) hM (fun w hC => r_lenS hl rfl slc53) rfl ?_
                      clear hl a; intro a hl
                      refine d_one (i := 11) (by kernel_rfl) rfl ?_
                      try clear hM
                      refine id (w_call hl hh rfl trivial rfl cal22 rfl (mod_spec o.A (W.td.length : Int) (by omega) (by omega)) (by repeat (first | exact keeps_nil | apply keeps_cons (by repeat (first | exact find_head | apply find_tail | apply find_skip)) (by first  | rfl) | exact keeps_self | exact keeps_left | apply keeps_app | apply keeps_mv | apply keeps_skip)) trivial ?_)
                      clear hl hh a w; intro vc Fc a w hR hl hh
                      obtain ⟨rfl, rfl⟩ := hR
                      try simp only [List.cons_append, List.nil_append, List.append_assoc, List.append_nil] at hh
                      obtain ⟨i9, hi9, hi8⟩ := mod_nat o.A (show 0 < W.td.length by omega)
                      rw [hi9] at hl
                      have hM : Mem [(k4, C [.int .u8 o.k, .int .i64 o.A, .int .i64 o.B, .slice p o.tx.length cap, .int .u8 o.m.k, .int .u8 o.m.d, .int .u32 o.m.e, .int .u32 o.m.b, .bool o.m.y, .int .u32 o.m.r, .int .u32 o.m.s, .string o.m.t, .int .u8 o.v.k, .int .u8 o.v.a, .int .u8 o.v.b, .int .u8 o.v.w, .int .u8 o.v.da, .int .u8 o.v.dl] 45)] w := (memK hh (by repeat (first | exact keeps_nil | apply keeps_cons (by repeat (first | exact find_head | apply find_tail | apply find_skip)) (by first  | rfl) | exact keeps_self | exact keeps_left | apply keeps_app | apply keeps_mv | apply keeps_skip)))
                      refine d_step (fun _ => hM) ?_
                      refine d_one (i := 12) (by kernel_rfl) rfl ?_
                      try clear hM
                      refine id (w_call hl hh rfl trivial rfl cal21 rfl (take_spec wb W.c (0 + 18) W.td W.tp W.tc W.tE hW.t hct hW.tl i9 hi8) (by repeat (first | exact keeps_nil | apply keeps_cons (by repeat (first | exact find_head | apply find_tail | apply find_skip)) (by first  | rfl) | exact keeps_self | exact keeps_left | apply keeps_app | apply keeps_mv | apply keeps_skip)) trivial ?_)
                      clear hl hh a w; intro vc Fc a w hR hl hh
                      obtain ⟨m, p6, c6, E6, hm6, rfl, hR6, rfl⟩ := hR
                      try simp only [List.cons_append, List.nil_append, List.append_assoc, List.append_nil] at hh
                      rw [wc_std W hW.dl p6 _ c6 E6] at hh
                      have hmo := hW.to m (List.mem_of_getElem? hm6)
                      have hM : Mem [(k4, C [.int .u8 o.k, .int .i64 o.A, .int .i64 o.B, .slice p o.tx.length cap, .int .u8 o.m.k, .int .u8 o.m.d, .int .u32 o.m.e, .int .u32 o.m.b, .bool o.m.y, .int .u32 o.m.r, .int .u32 o.m.s, .string o.m.t, .int .u8 o.v.k, .int .u8 o.v.a, .int .u8 o.v.b, .int .u8 o.v.w, .int .u8 o.v.da, .int .u8 o.v.dl] 45)] w := (memK hh (by repeat (first | exact keeps_nil | apply keeps_cons (by repeat (first | exact find_head | apply find_tail | apply find_skip)) (by first  | rfl) | exact keeps_self | exact keeps_left | apply keeps_app | apply keeps_mv | apply keeps_skip)))
                      refine d_step (fun _ => hM) ?_
                      refine d_one (i := 13) (by kernel_rfl) rfl ?_
                      try clear hM
                      refine id (w_call hl hh rfl trivial rfl cal20 rfl (hando_spec wb { W with td := delP W.td i9, tp := p6, tc := c6, tE := E6 } hW.dl hW.ds hW.r hW.rl m hmo.1 hmo.2) (by repeat (first | exact keeps_nil | apply keeps_cons (by repeat (first | exact find_head | apply find_tail | apply find_skip)) (by first  | rfl) | exact keeps_self | exact keeps_left | apply keeps_app | apply keeps_mv | apply keeps_skip)) trivial ?_)
                      clear hl hh a w; intro vc Fc a w hR hl hh
                      obtain ⟨rfl, db, d, d', p7, c7, E7, hx9, hdo', hpl', hro', hR7, rfl⟩ := hR
                      try simp only [List.cons_append, List.nil_append, List.append_assoc, List.append_nil] at hh
                      refine d_step (fun h => absurd h (by decide)) ?_
                      refine d_done (by kernel_rfl) ?_
                      try clear hM
                      have hl2 := hl.nil; clear hl; have hl := hl2; clear hl2
                      refine blk_normal ?_
                      refine then_normal ?_
                      refine c_seq ?_
                      refine c_region ?_
                      refine wl (wl_val hl rfl trivial (r_assign hl rfl) ?_)
                      clear hl a; intro a hl
                      refine w_nil ?_
                      have hl2 := hl.add (t := 6) (hl.nil) rfl; clear hl; have hl := hl2; clear hl2
                      refine then_normal ?_
                      refine wp_ret ?_
                      first
                      | (have hq := hR7; refine f_ret1 (F' := Fx ++ ((wb, C (WoV.c (WoV.hnd { W with td := delP W.td i9, tp := p6, tc := c6, tE := E6 } m.d.toNat db d' (postO W.tg (handP d.pl m).2) p7 c7 E7)) 55) :: (E6 ++ (E7 ++ (DsF (W.ds.set m.d.toNat (db, d')) ++ WoV.GF W Z))))) hl hh rfl rfl (by repeat (first | exact keeps_nil | apply keeps_cons (by repeat (first | exact find_head | apply find_tail | apply find_skip)) (by first  | rfl) | exact keeps_self | exact keeps_left | apply keeps_app | apply keeps_mv | apply keeps_skip)) ?_; exact StepO.same (W' := (WoV.hnd { W with td := delP W.td i9, tp := p6, tc := c6, tE := E6 } m.d.toNat db d' (postO W.tg (handP d.pl m).2) p7 c7 E7)) (hnd_ok (td_ok hW hR6 (fun m h => del_in0 i9 m (.inl h)) (del_len160 hW.tl i9)) hdo' hro' hR7) (hnd_K (W := { W with td := delP W.td i9, tp := p6, tc := c6, tE := E6 }) (hn.cg rfl rfl) (td_K (Q.jk hJ) (del_in hm6) p6 c6 E6) hx9 hpl' p7 c7 E7) (hn.cg rfl rfl) hMx rfl)
                      | (refine f_ret1 (F' := Fx ++ ((wb, C W.c 55) :: (W.tE ++ (W.gE ++ (DsF W.ds ++ WoV.GF W Z))))) hl hh rfl rfl (by repeat (first | exact keeps_nil | apply keeps_cons (by repeat (first | exact find_head | apply find_tail | apply find_skip)) (by first  | rfl) | exact keeps_self | exact keeps_left | apply keeps_app | apply keeps_mv | apply keeps_skip)) ?_; exact StepO.same hW (Q.jk hJ) hn hMx rfl)
                    · intro hc9
                      try simp only [decide_eq_true_eq, decide_eq_false_iff_not, Bool.not_eq_true', Bool.not_eq_false', Bool.not_eq_true, Bool.not_eq_false, Bool.and_eq_true, Bool.or_eq_true, Bool.and_eq_false_iff, Bool.or_eq_false_iff, Bool.not_not, ne_eq, Int.not_lt, Int.not_le, Decidable.not_not, beq_iff_eq, bne_iff_ne] at hc9
                      refine wp_skip ?_
                      refine blk_normal ?_
                      refine then_normal ?_
                      refine c_seq ?_
                      refine c_region ?_
                      refine wl (wl_val hl rfl trivial (r_assign hl rfl) ?_)
                      clear hl a; intro a hl
                      refine w_nil ?_
                      have hl2 := hl.add (t := 6) (hl.nil) rfl; clear hl; have hl := hl2; clear hl2
                      refine then_normal ?_
                      refine wp_ret ?_
                      first
                      | (have hq := hR7; refine f_ret1 (F' := Fx ++ ((wb, C (WoV.c (WoV.hnd { W with td := delP W.td i9, tp := p6, tc := c6, tE := E6 } m.d.toNat db d' (postO W.tg (handP d.pl m).2) p7 c7 E7)) 55) :: (E6 ++ (E7 ++ (DsF (W.ds.set m.d.toNat (db, d')) ++ WoV.GF W Z))))) hl hh rfl rfl (by repeat (first | exact keeps_nil | apply keeps_cons (by repeat (first | exact find_head | apply find_tail | apply find_skip)) (by first  | rfl) | exact keeps_self | exact keeps_left | apply keeps_app | apply keeps_mv | apply keeps_skip)) ?_; exact StepO.same (W' := (WoV.hnd { W with td := delP W.td i9, tp := p6, tc := c6, tE := E6 } m.d.toNat db d' (postO W.tg (handP d.pl m).2) p7 c7 E7)) (hnd_ok (td_ok hW hR6 (fun m h => del_in0 i9 m (.inl h)) (del_len160 hW.tl i9)) hdo' hro' hR7) (hnd_K (W := { W with td := delP W.td i9, tp := p6, tc := c6, tE := E6 }) (hn.cg rfl rfl) (td_K (Q.jk hJ) (del_in hm6) p6 c6 E6) hx9 hpl' p7 c7 E7) (hn.cg rfl rfl) hMx rfl)
                      | (refine f_ret1 (F' := Fx ++ ((wb, C W.c 55) :: (W.tE ++ (W.gE ++ (DsF W.ds ++ WoV.GF W Z))))) hl hh rfl rfl (by repeat (first | exact keeps_nil | apply keeps_cons (by repeat (first | exact find_head | apply find_tail | apply find_skip)) (by first  | rfl) | exact keeps_self | exact keeps_left | apply keeps_app | apply keeps_mv | apply keeps_skip)) ?_; exact StepO.same hW (Q.jk hJ) hn hMx rfl)
                  · intro hc8
                    try simp only [decide_eq_true_eq, decide_eq_false_iff_not, Bool.not_eq_true', Bool.not_eq_false', Bool.not_eq_true, Bool.not_eq_false, Bool.and_eq_true, Bool.or_eq_true, Bool.and_eq_false_iff, Bool.or_eq_false_iff, Bool.not_not, ne_eq, Int.not_lt, Int.not_le, Decidable.not_not, beq_iff_eq, bne_iff_ne] at hc8
                    exfalso; first | contradiction | omega
  · intro hc0
    try simp only [decide_eq_true_eq, decide_eq_false_iff_not, Bool.not_eq_true', Bool.not_eq_false', Bool.not_eq_true, Bool.not_eq_false, Bool.and_eq_true, Bool.or_eq_true, Bool.and_eq_false_iff, Bool.or_eq_false_iff, Bool.not_not, ne_eq, Int.not_lt, Int.not_le, Decidable.not_not, beq_iff_eq, bne_iff_ne] at hc0
    refine wp_skip ?_
    refine then_normal ?_
    refine c_seq ?_
    refine c_seq ?_
    refine c_region ?_
    refine wl (wl_val hl rfl trivial (r_field hl rfl fld45_0) ?_)
    clear hl a; intro a hl
    refine wl (w_load hl hh rfl trivial one33 rfl (by repeat (first | exact find_head | apply find_tail | apply find_skip)) (by first | exact hct | exact hcr | exact hch | exact hcl | rfl) ?_)
    clear hl a; intro a hl
    refine w_nil ?_
    have hl2 := hl.add (t := 0) (hl.add (t := 2) (hl.add (t := 4) (hl.add (t := 7) (hl.add (t := 18) (hl.nil) rfl) rfl) rfl) rfl) rfl; clear hl; have hl := hl2; clear hl2
    refine then_normal ?_
    refine wp_block ?_
    refine c_seq ?_
    refine c_region ?_
    refine wl (wl_val hl rfl trivial (r_eql hl rfl rfl) ?_)
    clear hl a; intro a hl
    refine wl (wl_val hl rfl trivial (r_assign hl rfl) ?_)
    clear hl a; intro a hl
    refine w_nil ?_
    have hl2 := hl.add (t := 0) (hl.add (t := 2) (hl.add (t := 4) (hl.add (t := 7) (hl.add (t := 18) (hl.add (t := 19) (hl.nil) rfl) rfl) rfl) rfl) rfl) rfl; clear hl; have hl := hl2; clear hl2
    refine then_normal ?_
    refine c_cond hl rfl ?_ ?_
    · intro hc1
      try simp only [decide_eq_true_eq, decide_eq_false_iff_not, Bool.not_eq_true', Bool.not_eq_false', Bool.not_eq_true, Bool.not_eq_false, Bool.and_eq_true, Bool.or_eq_true, Bool.and_eq_false_iff, Bool.or_eq_false_iff, Bool.not_not, ne_eq, Int.not_lt, Int.not_le, Decidable.not_not, beq_iff_eq, bne_iff_ne] at hc1
      exfalso; first | contradiction | omega
    · intro hc1
      try simp only [decide_eq_true_eq, decide_eq_false_iff_not, Bool.not_eq_true', Bool.not_eq_false', Bool.not_eq_true, Bool.not_eq_false, Bool.and_eq_true, Bool.or_eq_true, Bool.and_eq_false_iff, Bool.or_eq_false_iff, Bool.not_not, ne_eq, Int.not_lt, Int.not_le, Decidable.not_not, beq_iff_eq, bne_iff_ne] at hc1
      refine c_seq ?_
      refine c_seq ?_
      refine c_region ?_
      refine wl (wl_val hl rfl trivial (r_eql hl rfl rfl) ?_)
      clear hl a; intro a hl
      refine wl (wl_val hl rfl trivial (r_assign hl rfl) ?_)
      clear hl a; intro a hl
      refine w_nil ?_
      have hl2 := hl.add (t := 0) (hl.add (t := 2) (hl.add (t := 4) (hl.add (t := 7) (hl.add (t := 18) (hl.add (t := 27) (hl.nil) rfl) rfl) rfl) rfl) rfl) rfl; clear hl; have hl := hl2; clear hl2
      refine then_normal ?_
      refine c_cond hl rfl ?_ ?_
      · intro hc2
        try simp only [decide_eq_true_eq, decide_eq_false_iff_not, Bool.not_eq_true', Bool.not_eq_false', Bool.not_eq_true, Bool.not_eq_false, Bool.and_eq_true, Bool.or_eq_true, Bool.and_eq_false_iff, Bool.or_eq_false_iff, Bool.not_not, ne_eq, Int.not_lt, Int.not_le, Decidable.not_not, beq_iff_eq, bne_iff_ne] at hc2
        exfalso; first | contradiction | omega
      · intro hc2
        try simp only [decide_eq_true_eq, decide_eq_false_iff_not, Bool.not_eq_true', Bool.not_eq_false', Bool.not_eq_true, Bool.not_eq_false, Bool.and_eq_true, Bool.or_eq_true, Bool.and_eq_false_iff, Bool.or_eq_false_iff, Bool.not_not, ne_eq, Int.not_lt, Int.not_le, Decidable.not_not, beq_iff_eq, bne_iff_ne] at hc2
        refine c_region ?_
        refine wl (wl_val hl rfl trivial (r_eql hl rfl rfl) ?_)
        clear hl a; intro a hl
        refine wl (wl_val hl rfl trivial (r_assign hl rfl) ?_)
        clear hl a; intro a hl
        refine w_nil ?_
        have hl2 := hl.add (t := 0) (hl.add (t := 2) (hl.add (t := 4) (hl.add (t := 7) (hl.add (t := 18) (hl.add (t := 27) (hl.nil) rfl) rfl) rfl) rfl) rfl) rfl; clear hl; have hl := hl2; clear hl2
        refine then_normal ?_
        refine c_cond hl rfl ?_ ?_
        · intro hc3
          try simp only [decide_eq_true_eq, decide_eq_false_iff_not, Bool.not_eq_true', Bool.not_eq_false', Bool.not_eq_true, Bool.not_eq_false, Bool.and_eq_true, Bool.or_eq_true, Bool.and_eq_false_iff, Bool.or_eq_false_iff, Bool.not_not, ne_eq, Int.not_lt, Int.not_le, Decidable.not_not, beq_iff_eq, bne_iff_ne] at hc3
          exfalso; first | contradiction | omega
        · intro hc3
          try simp only [decide_eq_true_eq, decide_eq_false_iff_not, Bool.not_eq_true', Bool.not_eq_false', Bool.not_eq_true, Bool.not_eq_false, Bool.and_eq_true, Bool.or_eq_true, Bool.and_eq_false_iff, Bool.or_eq_false_iff, Bool.not_not, ne_eq, Int.not_lt, Int.not_le, Decidable.not_not, beq_iff_eq, bne_iff_ne] at hc3
          refine c_seq ?_
          refine c_seq ?_
          refine c_region ?_
          refine wl (wl_val hl rfl trivial (r_eql hl rfl rfl) ?_)
          clear hl a; intro a hl
          refine wl (wl_val hl rfl trivial (r_assign hl rfl) ?_)
          clear hl a; intro a hl
          refine w_nil ?_
          have hl2 := hl.add (t := 0) (hl.add (t := 2) (hl.add (t := 4) (hl.add (t := 7) (hl.add (t := 18) (hl.add (t := 39) (hl.nil) rfl) rfl) rfl) rfl) rfl) rfl; clear hl; have hl := hl2; clear hl2
          refine then_normal ?_
          refine c_cond hl rfl ?_ ?_
          · intro hc4
            try simp only [decide_eq_true_eq, decide_eq_false_iff_not, Bool.not_eq_true', Bool.not_eq_false', Bool.not_eq_true, Bool.not_eq_false, Bool.and_eq_true, Bool.or_eq_true, Bool.and_eq_false_iff, Bool.or_eq_false_iff, Bool.not_not, ne_eq, Int.not_lt, Int.not_le, Decidable.not_not, beq_iff_eq, bne_iff_ne] at hc4
            exfalso; first | contradiction | omega
          · intro hc4
            try simp only [decide_eq_true_eq, decide_eq_false_iff_not, Bool.not_eq_true', Bool.not_eq_false', Bool.not_eq_true, Bool.not_eq_false, Bool.and_eq_true, Bool.or_eq_true, Bool.and_eq_false_iff, Bool.or_eq_false_iff, Bool.not_not, ne_eq, Int.not_lt, Int.not_le, Decidable.not_not, beq_iff_eq, bne_iff_ne] at hc4
            refine c_region ?_
            refine wl (wl_val hl rfl trivial (r_eql hl rfl rfl) ?_)
            clear hl a; intro a hl
            refine wl (wl_val hl rfl trivial (r_assign hl rfl) ?_)
            clear hl a; intro a hl
            refine w_nil ?_
            have hl2 := hl.add (t := 0) (hl.add (t := 2) (hl.add (t := 4) (hl.add (t := 7) (hl.add (t := 18) (hl.add (t := 39) (hl.nil) rfl) rfl) rfl) rfl) rfl) rfl; clear hl; have hl := hl2; clear hl2
            refine then_normal ?_
            refine c_cond hl rfl ?_ ?_
            · intro hc5
              try simp only [decide_eq_true_eq, decide_eq_false_iff_not, Bool.not_eq_true', Bool.not_eq_false', Bool.not_eq_true, Bool.not_eq_false, Bool.and_eq_true, Bool.or_eq_true, Bool.and_eq_false_iff, Bool.or_eq_false_iff, Bool.not_not, ne_eq, Int.not_lt, Int.not_le, Decidable.not_not, beq_iff_eq, bne_iff_ne] at hc5
              exfalso; first | contradiction | omega
            · intro hc5
              try simp only [decide_eq_true_eq, decide_eq_false_iff_not, Bool.not_eq_true', Bool.not_eq_false', Bool.not_eq_true, Bool.not_eq_false, Bool.and_eq_true, Bool.or_eq_true, Bool.and_eq_false_iff, Bool.or_eq_false_iff, Bool.not_not, ne_eq, Int.not_lt, Int.not_le, Decidable.not_not, beq_iff_eq, bne_iff_ne] at hc5
              refine c_seq ?_
              refine c_region ?_
              refine wl (wl_val hl rfl trivial (r_eql hl rfl rfl) ?_)
              clear hl a; intro a hl
              refine wl (wl_val hl rfl trivial (r_assign hl rfl) ?_)
              clear hl a; intro a hl
              refine w_nil ?_
              have hl2 := hl.add (t := 0) (hl.add (t := 2) (hl.add (t := 4) (hl.add (t := 7) (hl.add (t := 18) (hl.add (t := 50) (hl.nil) rfl) rfl) rfl) rfl) rfl) rfl; clear hl; have hl := hl2; clear hl2
              refine then_normal ?_
              refine c_cond hl rfl ?_ ?_
              · intro hc6
                try simp only [decide_eq_true_eq, decide_eq_false_iff_not, Bool.not_eq_true', Bool.not_eq_false', Bool.not_eq_true, Bool.not_eq_false, Bool.and_eq_true, Bool.or_eq_true, Bool.and_eq_false_iff, Bool.or_eq_false_iff, Bool.not_not, ne_eq, Int.not_lt, Int.not_le, Decidable.not_not, beq_iff_eq, bne_iff_ne] at hc6
                exfalso; first | contradiction | omega
              · intro hc6
                try simp only [decide_eq_true_eq, decide_eq_false_iff_not, Bool.not_eq_true', Bool.not_eq_false', Bool.not_eq_true, Bool.not_eq_false, Bool.and_eq_true, Bool.or_eq_true, Bool.and_eq_false_iff, Bool.or_eq_false_iff, Bool.not_not, ne_eq, Int.not_lt, Int.not_le, Decidable.not_not, beq_iff_eq, bne_iff_ne] at hc6
                refine c_seq ?_
                refine c_region ?_
                refine wl (wl_val hl rfl trivial (r_eql hl rfl rfl) ?_)
                clear hl a; intro a hl
                refine wl (wl_val hl rfl trivial (r_assign hl rfl) ?_)
                clear hl a; intro a hl
                refine w_nil ?_
                have hl2 := hl.add (t := 0) (hl.add (t := 2) (hl.add (t := 4) (hl.add (t := 7) (hl.add (t := 18) (hl.add (t := 62) (hl.nil) rfl) rfl) rfl) rfl) rfl) rfl; clear hl; have hl := hl2; clear hl2
                refine then_normal ?_
                refine c_cond hl rfl ?_ ?_
                · intro hc7
                  try simp only [decide_eq_true_eq, decide_eq_false_iff_not, Bool.not_eq_true', Bool.not_eq_false', Bool.not_eq_true, Bool.not_eq_false, Bool.and_eq_true, Bool.or_eq_true, Bool.and_eq_false_iff, Bool.or_eq_false_iff, Bool.not_not, ne_eq, Int.not_lt, Int.not_le, Decidable.not_not, beq_iff_eq, bne_iff_ne] at hc7
                  exfalso; first | contradiction | omega
                · intro hc7
                  try simp only [decide_eq_true_eq, decide_eq_false_iff_not, Bool.not_eq_true', Bool.not_eq_false', Bool.not_eq_true, Bool.not_eq_false, Bool.and_eq_true, Bool.or_eq_true, Bool.and_eq_false_iff, Bool.or_eq_false_iff, Bool.not_not, ne_eq, Int.not_lt, Int.not_le, Decidable.not_not, beq_iff_eq, bne_iff_ne] at hc7
                  refine c_seq ?_
                  refine c_region ?_
                  refine wl (wl_val hl rfl trivial (r_eql hl rfl rfl) ?_)
                  clear hl a; intro a hl
                  refine wl (wl_val hl rfl trivial (r_assign hl rfl) ?_)
                  clear hl a; intro a hl
                  refine w_nil ?_
                  have hl2 := hl.add (t := 0) (hl.add (t := 2) (hl.add (t := 4) (hl.add (t := 7) (hl.add (t := 18) (hl.add (t := 68) (hl.nil) rfl) rfl) rfl) rfl) rfl) rfl; clear hl; have hl := hl2; clear hl2
                  refine then_normal ?_
                  refine c_cond hl rfl ?_ ?_
                  · intro hc8
                    try simp only [decide_eq_true_eq, decide_eq_false_iff_not, Bool.not_eq_true', Bool.not_eq_false', Bool.not_eq_true, Bool.not_eq_false, Bool.and_eq_true, Bool.or_eq_true, Bool.and_eq_false_iff, Bool.or_eq_false_iff, Bool.not_not, ne_eq, Int.not_lt, Int.not_le, Decidable.not_not, beq_iff_eq, bne_iff_ne] at hc8
                    refine c_seq ?_
                    refine c_region ?_
                    refine wl (wl_val hl rfl trivial (r_move hl rfl) ?_)
                    clear hl a; intro a hl
                    refine wl (wl_val hl rfl trivial (r_nilCheck hl rfl) ?_)
                    clear hl a; intro a hl
                    refine wl (wl_val hl rfl trivial (r_field hl rfl fld55_3) ?_)
                    clear hl a; intro a hl
                    refine wl (w_load hl hh rfl trivial one53 rfl (by repeat (first | exact find_head | apply find_tail | apply find_skip)) (by first | exact hct | exact hcr | exact hch | exact hcl | rfl) ?_)
                    clear hl a; intro a hl
                    refine wl (wl_val hl rfl trivial (r_lenS hl rfl slc53) ?_)
                    clear hl a; intro a hl
                    refine wl (wl_val hl rfl trivial (r_gtr hl rfl rfl) ?_)
                    clear hl a; intro a hl
                    refine w_nil ?_
                    have hl2 := hl.add (t := 0) (hl.add (t := 4) (hl.add (t := 75) (hl.nil) rfl) rfl) rfl; clear hl; have hl := hl2; clear hl2
                    refine then_normal ?_
                    refine c_cond hl rfl ?_ ?_
                    · intro hc9
                      try simp only [decide_eq_true_eq, decide_eq_false_iff_not, Bool.not_eq_true', Bool.not_eq_false', Bool.not_eq_true, Bool.not_eq_false, Bool.and_eq_true, Bool.or_eq_true, Bool.and_eq_false_iff, Bool.or_eq_false_iff, Bool.not_not, ne_eq, Int.not_lt, Int.not_le, Decidable.not_not, beq_iff_eq, bne_iff_ne] at hc9
                      refine c_draw [(k4, C [.int .u8 o.k, .int .i64 o.A, .int .i64 o.B, .slice p o.tx.length cap, .int .u8 o.m.k, .int .u8 o.m.d, .int .u32 o.m.e, .int .u32 o.m.b, .bool o.m.y, .int .u32 o.m.r, .int .u32 o.m.s, .string o.m.t, .int .u8 o.v.k, .int .u8 o.v.a, .int .u8 o.v.b, .int .u8 o.v.w, .int .u8 o.v.da, .int .u8 o.v.dl] 45)] [13] mixed hh ?_
                      clear hh w; intro w hh
                      have hM : Mem [(k4, C [.int .u8 o.k, .int .i64 o.A, .int .i64 o.B, .slice p o.tx.length cap, .int .u8 o.m.k, .int .u8 o.m.d, .int .u32 o.m.e, .int .u32 o.m.b, .bool o.m.y, .int .u32 o.m.r, .int .u32 o.m.s, .string o.m.t, .int .u8 o.v.k, .int .u8 o.v.a, .int .u8 o.v.b, .int .u8 o.v.w, .int .u8 o.v.da, .int .u8 o.v.dl] 45)] w := (memK hh (by repeat (first | exact keeps_nil | apply keeps_cons (by repeat (first | exact find_head | apply find_tail | apply find_skip)) (by first  | rfl) | exact keeps_self | exact keeps_left | apply keeps_app | apply keeps_mv | apply keeps_skip)))
                      refine d_take (i := 0) hl rfl (by kernel_rfl) (by kernel_rfl) (by kernel_rfl) (by kernel_rfl) (by kernel_rfl) rfl trivial (fun _ _ _ h => h) hM (fun w hC => r_move hl rfl) rfl ?_
                      clear hl a; intro a hl
                      refine d_take (i := 1) hl rfl (by kernel_rfl) (by kernel_rfl) (by kernel_rfl) (by kernel_rfl) (by kernel_rfl) rfl trivial (fun _ _ _ h => h) hM (fun w hC => r_move hl rfl) rfl ?_
                      clear hl a; intro a hl
                      refine d_take (i := 2) hl rfl (by kernel_rfl) (by kernel_rfl) (by kernel_rfl) (by kernel_rfl) (by kernel_rfl) rfl trivial (fun _ _ _ h => h) hM (fun w hC => r_nilCheck hl rfl) rfl ?_
                      clear hl a; intro a hl
                      refine d_take (i := 3) hl rfl (by kernel_rfl) (by kernel_rfl) (by kernel_rfl) (by kernel_rfl) (by kernel_rfl) rfl trivial (fun _ _ _ h => h) hM (fun w hC => r_field hl rfl fld55_3) rfl ?_
                      clear hl a; intro a hl
                      refine d_take (i := 4) hl rfl (by kernel_rfl) (by kernel_rfl) (by kernel_rfl) (by kernel_rfl) (by kernel_rfl) rfl trivial (fun _ _ _ h => h) hM (fun w hC => r_field hl rfl fld45_1) rfl ?_
                      clear hl a; intro a hl
                      refine d_take (i := 5) hl rfl (by kernel_rfl) (by kernel_rfl) (by kernel_rfl) (by kernel_rfl) (by kernel_rfl) rfl trivial (fun _ _ _ h => h) hM (fun w hC => r_loadC hl rfl one3 hC (by repeat (first | exact find_head | apply find_tail | apply find_skip)) (by first | exact hct | exact hcr | exact hch | exact hcl | rfl)) rfl ?_
                      clear hl a; intro a hl
                      refine d_take (i := 6) hl rfl (by kernel_rfl) (by kernel_rfl) (by kernel_rfl) (by kernel_rfl) (by kernel_rfl) rfl trivial (fun _ _ _ h => h) hM (fun w hC => r_move hl rfl) rfl ?_
                      clear hl a; intro a hl
                      refine d_take (i := 7) hl rfl (by kernel_rfl) (by kernel_rfl) (by kernel_rfl) (by kernel_rfl) (by kernel_rfl) rfl trivial (fun _ _ _ h => h) hM (fun w hC => r_nilCheck hl rfl) rfl ?_
                      clear hl a; intro a hl
                      refine d_take (i := 8) hl rfl (by kernel_rfl) (by kernel_rfl) (by kernel_rfl) (by kernel_rfl) (by kernel_rfl) rfl trivial (fun _ _ _ h => h) hM (fun w hC => r_field hl rfl fld55_3) rfl ?_
                      clear hl a; intro a hl
                      refine d_one (i := 9) (by kernel_rfl) rfl ?_
                      try clear hM
                      refine id (w_load hl hh rfl trivial one53 rfl (by repeat (first | exact find_head | apply find_tail | apply find_skip)) (by first | exact hct | exact hcr | exact hch | exact hcl | rfl) ?_)
                      clear hl a; intro a hl
                      have hM : Mem [(k4, C [.int .u8 o.k, .int .i64 o.A, .int .i64 o.B, .slice p o.tx.length cap, .int .u8 o.m.k, .int .u8 o.m.d, .int .u32 o.m.e, .int .u32 o.m.b, .bool o.m.y, .int .u32 o.m.r, .int .u32 o.m.s, .string o.m.t, .int .u8 o.v.k, .int .u8 o.v.a, .int .u8 o.v.b, .int .u8 o.v.w, .int .u8 o.v.da, .int .u8 o.v.dl] 45)] w := (memK hh (by repeat (first | exact keeps_nil | apply keeps_cons (by repeat (first | exact find_head | apply find_tail | apply find_skip)) (by first  | rfl) | exact keeps_self | exact keeps_left | apply keeps_app | apply keeps_mv | apply keeps_skip)))
                      refine d_step (fun _ => hM) ?_
                      refine d_take (i := 10) hl rfl (by kernel_rfl) (by kernel_rfl) (by kernel_rfl) (by kernel_rfl) (by kernel_rfl) rfl trivial (fun _ _ _ h => h) hM (fun w hC => r_lenS hl rfl slc53) rfl ?_
                      clear hl a; intro a hl
                      refine d_one (i := 11) (by kernel_rfl) rfl ?_
                      try clear hM
                      refine id (w_call hl hh rfl trivial rfl cal22 rfl (mod_spec o.A (W.td.length : Int) (by omega) (by omega)) (by repeat (first | exact keeps_nil | apply keeps_cons (by repeat (first | exact find_head | apply find_tail | apply find_skip)) (by first  | rfl) | exact keeps_self | exact keeps_left | apply keeps_app | apply keeps_mv | apply keeps_skip)) trivial ?_)
                      clear hl hh a w; intro vc Fc a w hR hl hh
                      obtain ⟨rfl, rfl⟩ := hR
                      try simp only [List.cons_append, List.nil_append, List.append_assoc, List.append_nil] at hh
                      obtain ⟨i9, hi9, hi8⟩ := mod_nat o.A (show 0 < W.td.length by omega)
                      rw [hi9] at hl
                      have hM : Mem [(k4, C [.int .u8 o.k, .int .i64 o.A, .int .i64 o.B, .slice p o.tx.length cap, .int .u8 o.m.k, .int .u8 o.m.d, .int .u32 o.m.e, .int .u32 o.m.b, .bool o.m.y, .int .u32 o.m.r, .int .u32 o.m.s, .string o.m.t, .int .u8 o.v.k, .int .u8 o.v.a, .int .u8 o.v.b, .int .u8 o.v.w, .int .u8 o.v.da, .int .u8 o.v.dl] 45)] w := (memK hh (by repeat (first | exact keeps_nil | apply keeps_cons (by repeat (first | exact find_head | apply find_tail | apply find_skip)) (by first  | rfl) | exact keeps_self | exact keeps_left | apply keeps_app | apply keeps_mv | apply keeps_skip)))
                      refine d_step (fun _ => hM) ?_
                      refine d_one (i := 12) (by kernel_rfl) rfl ?_
                      try clear hM
                      refine id (w_call hl hh rfl trivial rfl cal21 rfl (take_spec wb W.c (0 + 18) W.td W.tp W.tc W.tE hW.t hct hW.tl i9 hi8) (by repeat (first | exact keeps_nil | apply keeps_cons (by repeat (first | exact find_head | apply find_tail | apply find_skip)) (by first  | rfl) | exact keeps_self | exact keeps_left | apply keeps_app | apply keeps_mv | apply keeps_skip)) trivial ?_)
                      clear hl hh a w; intro vc Fc a w hR hl hh
                      obtain ⟨m, p6, c6, E6, hm6, rfl, hR6, rfl⟩ := hR
                      try simp only [List.cons_append, List.nil_append, List.append_assoc, List.append_nil] at hh
                      rw [wc_std W hW.dl p6 _ c6 E6] at hh
                      have hmo := hW.to m (List.mem_of_getElem? hm6)
                      have hM : Mem [(k4, C [.int .u8 o.k, .int .i64 o.A, .int .i64 o.B, .slice p o.tx.length cap, .int .u8 o.m.k, .int .u8 o.m.d, .int .u32 o.m.e, .int .u32 o.m.b, .bool o.m.y, .int .u32 o.m.r, .int .u32 o.m.s, .string o.m.t, .int .u8 o.v.k, .int .u8 o.v.a, .int .u8 o.v.b, .int .u8 o.v.w, .int .u8 o.v.da, .int .u8 o.v.dl] 45)] w := (memK hh (by repeat (first | exact keeps_nil | apply keeps_cons (by repeat (first | exact find_head | apply find_tail | apply find_skip)) (by first  | rfl) | exact keeps_self | exact keeps_left | apply keeps_app | apply keeps_mv | apply keeps_skip)))
                      refine d_step (fun _ => hM) ?_
                      refine d_one (i := 13) (by kernel_rfl) rfl ?_
                      try clear hM
                      refine id (w_call hl hh rfl trivial rfl cal20 rfl (hando_spec wb { W with td := delP W.td i9, tp := p6, tc := c6, tE := E6 } hW.dl hW.ds hW.r hW.rl m hmo.1 hmo.2) (by repeat (first | exact keeps_nil | apply keeps_cons (by repeat (first | exact find_head | apply find_tail | apply find_skip)) (by first  | rfl) | exact keeps_self | exact keeps_left | apply keeps_app | apply keeps_mv | apply keeps_skip)) trivial ?_)
                      clear hl hh a w; intro vc Fc a w hR hl hh
                      obtain ⟨rfl, db, d, d', p7, c7, E7, hx9, hdo', hpl', hro', hR7, rfl⟩ := hR
                      try simp only [List.cons_append, List.nil_append, List.append_assoc, List.append_nil] at hh
                      refine d_step (fun h => absurd h (by decide)) ?_
                      refine d_done (by kernel_rfl) ?_
                      try clear hM
                      have hl2 := hl.nil; clear hl; have hl := hl2; clear hl2
                      refine blk_normal ?_
                      refine then_normal ?_
                      refine c_seq ?_
                      refine c_region ?_
                      refine wl (wl_val hl rfl trivial (r_assign hl rfl) ?_)
                      clear hl a; intro a hl
                      refine w_nil ?_
                      have hl2 := hl.add (t := 6) (hl.nil) rfl; clear hl; have hl := hl2; clear hl2
                      refine then_normal ?_
                      refine wp_ret ?_
                      first
                      | (have hq := hR7; refine f_ret1 (F' := Fx ++ ((wb, C (WoV.c (WoV.hnd { W with td := delP W.td i9, tp := p6, tc := c6, tE := E6 } m.d.toNat db d' (postO W.tg (handP d.pl m).2) p7 c7 E7)) 55) :: (E6 ++ (E7 ++ (DsF (W.ds.set m.d.toNat (db, d')) ++ WoV.GF W Z))))) hl hh rfl rfl (by repeat (first | exact keeps_nil | apply keeps_cons (by repeat (first | exact find_head | apply find_tail | apply find_skip)) (by first  | rfl) | exact keeps_self | exact keeps_left | apply keeps_app | apply keeps_mv | apply keeps_skip)) ?_; exact StepO.same (W' := (WoV.hnd { W with td := delP W.td i9, tp := p6, tc := c6, tE := E6 } m.d.toNat db d' (postO W.tg (handP d.pl m).2) p7 c7 E7)) (hnd_ok (td_ok hW hR6 (fun m h => del_in0 i9 m (.inl h)) (del_len160 hW.tl i9)) hdo' hro' hR7) (hnd_K (W := { W with td := delP W.td i9, tp := p6, tc := c6, tE := E6 }) (hn.cg rfl rfl) (td_K (Q.jk hJ) (del_in hm6) p6 c6 E6) hx9 hpl' p7 c7 E7) (hn.cg rfl rfl) hMx rfl)
                      | (refine f_ret1 (F' := Fx ++ ((wb, C W.c 55) :: (W.tE ++ (W.gE ++ (DsF W.ds ++ WoV.GF W Z))))) hl hh rfl rfl (by repeat (first | exact keeps_nil | apply keeps_cons (by repeat (first | exact find_head | apply find_tail | apply find_skip)) (by first  | rfl) | exact keeps_self | exact keeps_left | apply keeps_app | apply keeps_mv | apply keeps_skip)) ?_; exact StepO.same hW (Q.jk hJ) hn hMx rfl)
                    · intro hc9
                      try simp only [decide_eq_true_eq, decide_eq_false_iff_not, Bool.not_eq_true', Bool.not_eq_false', Bool.not_eq_true, Bool.not_eq_false, Bool.and_eq_true, Bool.or_eq_true, Bool.and_eq_false_iff, Bool.or_eq_false_iff, Bool.not_not, ne_eq, Int.not_lt, Int.not_le, Decidable.not_not, beq_iff_eq, bne_iff_ne] at hc9
                      refine wp_skip ?_
                      refine blk_normal ?_
                      refine then_normal ?_
                      refine c_seq ?_
                      refine c_region ?_
                      refine wl (wl_val hl rfl trivial (r_assign hl rfl) ?_)
                      clear hl a; intro a hl
                      refine w_nil ?_
                      have hl2 := hl.add (t := 6) (hl.nil) rfl; clear hl; have hl := hl2; clear hl2
                      refine then_normal ?_
                      refine wp_ret ?_
                      first
                      | (have hq := hR7; refine f_ret1 (F' := Fx ++ ((wb, C (WoV.c (WoV.hnd { W with td := delP W.td i9, tp := p6, tc := c6, tE := E6 } m.d.toNat db d' (postO W.tg (handP d.pl m).2) p7 c7 E7)) 55) :: (E6 ++ (E7 ++ (DsF (W.ds.set m.d.toNat (db, d')) ++ WoV.GF W Z))))) hl hh rfl rfl (by repeat (first | exact keeps_nil | apply keeps_cons (by repeat (first | exact find_head | apply find_tail | apply find_skip)) (by first  | rfl) | exact keeps_self | exact keeps_left | apply keeps_app | apply keeps_mv | apply keeps_skip)) ?_; exact StepO.same (W' := (WoV.hnd { W with td := delP W.td i9, tp := p6, tc := c6, tE := E6 } m.d.toNat db d' (postO W.tg (handP d.pl m).2) p7 c7 E7)) (hnd_ok (td_ok hW hR6 (fun m h => del_in0 i9 m (.inl h)) (del_len160 hW.tl i9)) hdo' hro' hR7) (hnd_K (W := { W with td := delP W.td i9, tp := p6, tc := c6, tE := E6 }) (hn.cg rfl rfl) (td_K (Q.jk hJ) (del_in hm6) p6 c6 E6) hx9 hpl' p7 c7 E7) (hn.cg rfl rfl) hMx rfl)
                      | (refine f_ret1 (F' := Fx ++ ((wb, C W.c 55) :: (W.tE ++ (W.gE ++ (DsF W.ds ++ WoV.GF W Z))))) hl hh rfl rfl (by repeat (first | exact keeps_nil | apply keeps_cons (by repeat (first | exact find_head | apply find_tail | apply find_skip)) (by first  | rfl) | exact keeps_self | exact keeps_left | apply keeps_app | apply keeps_mv | apply keeps_skip)) ?_; exact StepO.same hW (Q.jk hJ) hn hMx rfl)
                  · intro hc8
                    try simp only [decide_eq_true_eq, decide_eq_false_iff_not, Bool.not_eq_true', Bool.not_eq_false', Bool.not_eq_true, Bool.not_eq_false, Bool.and_eq_true, Bool.or_eq_true, Bool.and_eq_false_iff, Bool.or_eq_false_iff, Bool.not_not, ne_eq, Int.not_lt, Int.not_le, Decidable.not_not, beq_iff_eq, bne_iff_ne] at hc8
                    exfalso; first | contradiction | omega

set_option maxHeartbeats 8000000 in
theorem step_togate {lb wb : Nat} (L : LawM lb wb) (Q : LawJ L) (Z : List (Nat × Obj)) (W : WoV) (hW : W.ok Z) (n : Nat) (hn9 : n + 200 < 1000000000) (x : L.X) (Fx : List (Nat × Obj)) (hMx : L.M Z x Fx) (hJ : Q.J (W.pl [] []) x) (hn : WI n (W.pl [] [])) (o : OpP) (p : Option Addr) (cap : Nat) (ho : OpOk Z o p cap) (hk : o.k = 7) (hgs : ∃ gb g, W.g = some (gb, g)) : Sp Tryz.prog 12 #[.pointer (some ⟨wb, 0, none⟩), .agg ⟨opC o p cap⟩, Lw L.T lb] (Fx ++ WoV.F wb W Z) (fun v F' => StepO Q Z n v F') := by
  refine f_enter (args := [.pointer (some ⟨wb, 0, none⟩), .agg ⟨[.int .u8 o.k, .int .i64 o.A, .int .i64 o.B, .slice p o.tx.length cap, .int .u8 o.m.k, .int .u8 o.m.d, .int .u32 o.m.e, .int .u32 o.m.b, .bool o.m.y, .int .u32 o.m.r, .int .u32 o.m.s, .string o.m.t, .int .u8 o.v.k, .int .u8 o.v.a, .int .u8 o.v.b, .int .u8 o.v.w, .int .u8 o.v.da, .int .u8 o.v.dl]⟩, .iface L.T (.pointer (some ⟨lb, 0, none⟩))]) Tryz.func12 rfl Tryz.ntmps12 rfl ?_
  intro w0 w a hpre hl hh
  generalize hDD : List.map Prod.fst (Fx ++ WoV.F wb W Z) = D at hh ⊢
  simp only [WoV.F] at hh
  have hct := wc_td W hW.dl
  have hcr := wc_tg W hW.dl
  have hch := wc_hn W hW.dl
  have hcl := wc_led W
  have hwl := wc_len W hW.dl
  have ho1 := ho.k
  have ho2 := ho.A
  have ho3 := ho.B
  have htl := hW.tl
  have hrl := hW.rl
  obtain ⟨gb, g, hg⟩ := hgs
  simp only [slotsFrom, Nat.reduceAdd] at hl
  refine c_seq ?_
  refine c_region ?_
  refine wl (w_box hl hh rfl trivial rfl rfl ?_)
  clear hl hh a w; intro k4 a w hl hh
  refine wl (wl_val hl rfl trivial (r_assign hl rfl) ?_)
  clear hl a; intro a hl
  refine w_nil ?_
  have hl2 := hl.add (t := 0) (hl.add (t := 2) (hl.add (t := 4) (hl.nil) rfl) rfl) rfl; clear hl; have hl := hl2; clear hl2
  refine then_normal ?_
  refine c_seq ?_
  refine c_region ?_
  refine wl (wl_val hl rfl trivial (r_move hl rfl) ?_)
  clear hl a; intro a hl
  refine wl (wl_val hl rfl trivial (r_nilCheck hl rfl) ?_)
  clear hl a; intro a hl
  refine wl (wl_val hl rfl trivial (r_field hl rfl fld55_3) ?_)
  clear hl a; intro a hl
  refine wl (wl_val hl rfl trivial (r_assign hl rfl) ?_)
  clear hl a; intro a hl
  refine w_nil ?_
  have hl2 := hl.add (t := 0) (hl.add (t := 2) (hl.add (t := 4) (hl.add (t := 7) (hl.nil) rfl) rfl) rfl) rfl; clear hl; have hl := hl2; clear hl2
  refine then_normal ?_
  refine c_seq ?_
  refine c_seq ?_
  refine c_region ?_
  refine wl (wl_val hl rfl trivial (r_field hl rfl fld45_2) ?_)
  clear hl a; intro a hl
  refine wl (w_load hl hh rfl trivial one3 rfl (by repeat (first | exact find_head | apply find_tail | apply find_skip)) (by first | exact hct | exact hcr | exact hch | exact hcl | rfl) ?_)
  clear hl a; intro a hl
  refine wl (w_call hl hh rfl trivial rfl cal18 rfl (odd_spec _ (by omega)) (by repeat (first | exact keeps_nil | apply keeps_cons (by repeat (first | exact find_head | apply find_tail | apply find_skip)) (by first  | rfl) | exact keeps_self | exact keeps_left | apply keeps_app | apply keeps_mv | apply keeps_skip)) trivial ?_)
  clear hl hh a w; intro vc Fc a w hR hl hh
  obtain ⟨rfl, rfl⟩ := hR
  try simp only [List.cons_append, List.nil_append, List.append_assoc, List.append_nil] at hh
  refine w_nil ?_
  have hl2 := hl.add (t := 0) (hl.add (t := 2) (hl.add (t := 4) (hl.add (t := 7) (hl.add (t := 13) (hl.nil) rfl) rfl) rfl) rfl) rfl; clear hl; have hl := hl2; clear hl2
  refine then_normal ?_
  refine c_cond hl rfl ?_ ?_
  · intro hc0
    try simp only [decide_eq_true_eq, decide_eq_false_iff_not, Bool.not_eq_true', Bool.not_eq_false', Bool.not_eq_true, Bool.not_eq_false, Bool.and_eq_true, Bool.or_eq_true, Bool.and_eq_false_iff, Bool.or_eq_false_iff, Bool.not_not, ne_eq, Int.not_lt, Int.not_le, Decidable.not_not, beq_iff_eq, bne_iff_ne] at hc0
    refine c_region ?_
    refine wl (wl_val hl rfl trivial (r_move hl rfl) ?_)
    clear hl a; intro a hl
    refine wl (wl_val hl rfl trivial (r_nilCheck hl rfl) ?_)
    clear hl a; intro a hl
    refine wl (wl_val hl rfl trivial (r_field hl rfl fld55_4) ?_)
    clear hl a; intro a hl
    refine wl (wl_val hl rfl trivial (r_assign hl rfl) ?_)
    clear hl a; intro a hl
    refine w_nil ?_
    have hl2 := hl.add (t := 0) (hl.add (t := 2) (hl.add (t := 4) (hl.add (t := 7) (hl.nil) rfl) rfl) rfl) rfl; clear hl; have hl := hl2; clear hl2
    refine then_normal ?_
    refine c_seq ?_
    refine c_seq ?_
    refine c_region ?_
    refine wl (wl_val hl rfl trivial (r_field hl rfl fld45_0) ?_)
    clear hl a; intro a hl
    refine wl (w_load hl hh rfl trivial one33 rfl (by repeat (first | exact find_head | apply find_tail | apply find_skip)) (by first | exact hct | exact hcr | exact hch | exact hcl | rfl) ?_)
    clear hl a; intro a hl
    refine w_nil ?_
    have hl2 := hl.add (t := 0) (hl.add (t := 2) (hl.add (t := 4) (hl.add (t := 7) (hl.add (t := 18) (hl.nil) rfl) rfl) rfl) rfl) rfl; clear hl; have hl := hl2; clear hl2
    refine then_normal ?_
    refine wp_block ?_
    refine c_seq ?_
    refine c_region ?_
    refine wl (wl_val hl rfl trivial (r_eql hl rfl rfl) ?_)
    clear hl a; intro a hl
    refine wl (wl_val hl rfl trivial (r_assign hl rfl) ?_)
    clear hl a; intro a hl
    refine w_nil ?_
    have hl2 := hl.add (t := 0) (hl.add (t := 2) (hl.add (t := 4) (hl.add (t := 7) (hl.add (t := 18) (hl.add (t := 19) (hl.nil) rfl) rfl) rfl) rfl) rfl) rfl; clear hl; have hl := hl2; clear hl2
    refine then_normal ?_
    refine c_cond hl rfl ?_ ?_
    · intro hc1
      try simp only [decide_eq_true_eq, decide_eq_false_iff_not, Bool.not_eq_true', Bool.not_eq_false', Bool.not_eq_true, Bool.not_eq_false, Bool.and_eq_true, Bool.or_eq_true, Bool.and_eq_false_iff, Bool.or_eq_false_iff, Bool.not_not, ne_eq, Int.not_lt, Int.not_le, Decidable.not_not, beq_iff_eq, bne_iff_ne] at hc1
      exfalso; first | contradiction | omega
    · intro hc1
      try simp only [decide_eq_true_eq, decide_eq_false_iff_not, Bool.not_eq_true', Bool.not_eq_false', Bool.not_eq_true, Bool.not_eq_false, Bool.and_eq_true, Bool.or_eq_true, Bool.and_eq_false_iff, Bool.or_eq_false_iff, Bool.not_not, ne_eq, Int.not_lt, Int.not_le, Decidable.not_not, beq_iff_eq, bne_iff_ne] at hc1
      refine c_seq ?_
      refine c_seq ?_
      refine c_region ?_
      refine wl (wl_val hl rfl trivial (r_eql hl rfl rfl) ?_)
      clear hl a; intro a hl
      refine wl (wl_val hl rfl trivial (r_assign hl rfl) ?_)
      clear hl a; intro a hl
      refine w_nil ?_
      have hl2 := hl.add (t := 0) (hl.add (t := 2) (hl.add (t := 4) (hl.add (t := 7) (hl.add (t := 18) (hl.add (t := 27) (hl.nil) rfl) rfl) rfl) rfl) rfl) rfl; clear hl; have hl := hl2; clear hl2
      refine then_normal ?_
      refine c_cond hl rfl ?_ ?_
      · intro hc2
        try simp only [decide_eq_true_eq, decide_eq_false_iff_not, Bool.not_eq_true', Bool.not_eq_false', Bool.not_eq_true, Bool.not_eq_false, Bool.and_eq_true, Bool.or_eq_true, Bool.and_eq_false_iff, Bool.or_eq_false_iff, Bool.not_not, ne_eq, Int.not_lt, Int.not_le, Decidable.not_not, beq_iff_eq, bne_iff_ne] at hc2
        exfalso; first | contradiction | omega
      · intro hc2
        try simp only [decide_eq_true_eq, decide_eq_false_iff_not, Bool.not_eq_true', Bool.not_eq_false', Bool.not_eq_true, Bool.not_eq_false, Bool.and_eq_true, Bool.or_eq_true, Bool.and_eq_false_iff, Bool.or_eq_false_iff, Bool.not_not, ne_eq, Int.not_lt, Int.not_le, Decidable.not_not, beq_iff_eq, bne_iff_ne] at hc2
        refine c_region ?_
        refine wl (wl_val hl rfl trivial (r_eql hl rfl rfl) ?_)
        clear hl a; intro a hl
        refine wl (wl_val hl rfl trivial (r_assign hl rfl) ?_)
        clear hl a; intro a hl
        refine w_nil ?_
        have hl2 := hl.add (t := 0) (hl.add (t := 2) (hl.add (t := 4) (hl.add (t := 7) (hl.add (t := 18) (hl.add (t := 27) (hl.nil) rfl) rfl) rfl) rfl) rfl) rfl; clear hl; have hl := hl2; clear hl2
        refine then_normal ?_
        refine c_cond hl rfl ?_ ?_
        · intro hc3
          try simp only [decide_eq_true_eq, decide_eq_false_iff_not, Bool.not_eq_true', Bool.not_eq_false', Bool.not_eq_true, Bool.not_eq_false, Bool.and_eq_true, Bool.or_eq_true, Bool.and_eq_false_iff, Bool.or_eq_false_iff, Bool.not_not, ne_eq, Int.not_lt, Int.not_le, Decidable.not_not, beq_iff_eq, bne_iff_ne] at hc3
          exfalso; first | contradiction | omega
        · intro hc3
          try simp only [decide_eq_true_eq, decide_eq_false_iff_not, Bool.not_eq_true', Bool.not_eq_false', Bool.not_eq_true, Bool.not_eq_false, Bool.and_eq_true, Bool.or_eq_true, Bool.and_eq_false_iff, Bool.or_eq_false_iff, Bool.not_not, ne_eq, Int.not_lt, Int.not_le, Decidable.not_not, beq_iff_eq, bne_iff_ne] at hc3
          refine c_seq ?_
          refine c_seq ?_
          refine c_region ?_
          refine wl (wl_val hl rfl trivial (r_eql hl rfl rfl) ?_)
          clear hl a; intro a hl
          refine wl (wl_val hl rfl trivial (r_assign hl rfl) ?_)
          clear hl a; intro a hl
          refine w_nil ?_
          have hl2 := hl.add (t := 0) (hl.add (t := 2) (hl.add (t := 4) (hl.add (t := 7) (hl.add (t := 18) (hl.add (t := 39) (hl.nil) rfl) rfl) rfl) rfl) rfl) rfl; clear hl; have hl := hl2; clear hl2
          refine then_normal ?_
          refine c_cond hl rfl ?_ ?_
          · intro hc4
            try simp only [decide_eq_true_eq, decide_eq_false_iff_not, Bool.not_eq_true', Bool.not_eq_false', Bool.not_eq_true, Bool.not_eq_false, Bool.and_eq_true, Bool.or_eq_true, Bool.and_eq_false_iff, Bool.or_eq_false_iff, Bool.not_not, ne_eq, Int.not_lt, Int.not_le, Decidable.not_not, beq_iff_eq, bne_iff_ne] at hc4
            exfalso; first | contradiction | omega
          · intro hc4
            try simp only [decide_eq_true_eq, decide_eq_false_iff_not, Bool.not_eq_true', Bool.not_eq_false', Bool.not_eq_true, Bool.not_eq_false, Bool.and_eq_true, Bool.or_eq_true, Bool.and_eq_false_iff, Bool.or_eq_false_iff, Bool.not_not, ne_eq, Int.not_lt, Int.not_le, Decidable.not_not, beq_iff_eq, bne_iff_ne] at hc4
            refine c_region ?_
            refine wl (wl_val hl rfl trivial (r_eql hl rfl rfl) ?_)
            clear hl a; intro a hl
            refine wl (wl_val hl rfl trivial (r_assign hl rfl) ?_)
            clear hl a; intro a hl
            refine w_nil ?_
            have hl2 := hl.add (t := 0) (hl.add (t := 2) (hl.add (t := 4) (hl.add (t := 7) (hl.add (t := 18) (hl.add (t := 39) (hl.nil) rfl) rfl) rfl) rfl) rfl) rfl; clear hl; have hl := hl2; clear hl2
            refine then_normal ?_
            refine c_cond hl rfl ?_ ?_
            · intro hc5
              try simp only [decide_eq_true_eq, decide_eq_false_iff_not, Bool.not_eq_true', Bool.not_eq_false', Bool.not_eq_true, Bool.not_eq_false, Bool.and_eq_true, Bool.or_eq_true, Bool.and_eq_false_iff, Bool.or_eq_false_iff, Bool.not_not, ne_eq, Int.not_lt, Int.not_le, Decidable.not_not, beq_iff_eq, bne_iff_ne] at hc5
              exfalso; first | contradiction | omega
            · intro hc5
              try simp only [decide_eq_true_eq, decide_eq_false_iff_not, Bool.not_eq_true', Bool.not_eq_false', Bool.not_eq_true, Bool.not_eq_false, Bool.and_eq_true, Bool.or_eq_true, Bool.and_eq_false_iff, Bool.or_eq_false_iff, Bool.not_not, ne_eq, Int.not_lt, Int.not_le, Decidable.not_not, beq_iff_eq, bne_iff_ne] at hc5
              refine c_seq ?_
              refine c_region ?_
              refine wl (wl_val hl rfl trivial (r_eql hl rfl rfl) ?_)
              clear hl a; intro a hl
              refine wl (wl_val hl rfl trivial (r_assign hl rfl) ?_)
              clear hl a; intro a hl
              refine w_nil ?_
              have hl2 := hl.add (t := 0) (hl.add (t := 2) (hl.add (t := 4) (hl.add (t := 7) (hl.add (t := 18) (hl.add (t := 50) (hl.nil) rfl) rfl) rfl) rfl) rfl) rfl; clear hl; have hl := hl2; clear hl2
              refine then_normal ?_
              refine c_cond hl rfl ?_ ?_
              · intro hc6
                try simp only [decide_eq_true_eq, decide_eq_false_iff_not, Bool.not_eq_true', Bool.not_eq_false', Bool.not_eq_true, Bool.not_eq_false, Bool.and_eq_true, Bool.or_eq_true, Bool.and_eq_false_iff, Bool.or_eq_false_iff, Bool.not_not, ne_eq, Int.not_lt, Int.not_le, Decidable.not_not, beq_iff_eq, bne_iff_ne] at hc6
                exfalso; first | contradiction | omega
              · intro hc6
                try simp only [decide_eq_true_eq, decide_eq_false_iff_not, Bool.not_eq_true', Bool.not_eq_false', Bool.not_eq_true, Bool.not_eq_false, Bool.and_eq_true, Bool.or_eq_true, Bool.and_eq_false_iff, Bool.or_eq_false_iff, Bool.not_not, ne_eq, Int.not_lt, Int.not_le, Decidable.not_not, beq_iff_eq, bne_iff_ne] at hc6
                refine c_seq ?_
                refine c_region ?_
                refine wl (wl_val hl rfl trivial (r_eql hl rfl rfl) ?_)
                clear hl a; intro a hl
                refine wl (wl_val hl rfl trivial (r_assign hl rfl) ?_)
                clear hl a; intro a hl
                refine w_nil ?_
                have hl2 := hl.add (t := 0) (hl.add (t := 2) (hl.add (t := 4) (hl.add (t := 7) (hl.add (t := 18) (hl.add (t := 62) (hl.nil) rfl) rfl) rfl) rfl) rfl) rfl; clear hl; have hl := hl2; clear hl2
                refine then_normal ?_
                refine c_cond hl rfl ?_ ?_
                · intro hc7
                  try simp only [decide_eq_true_eq, decide_eq_false_iff_not, Bool.not_eq_true', Bool.not_eq_false', Bool.not_eq_true, Bool.not_eq_false, Bool.and_eq_true, Bool.or_eq_true, Bool.and_eq_false_iff, Bool.or_eq_false_iff, Bool.not_not, ne_eq, Int.not_lt, Int.not_le, Decidable.not_not, beq_iff_eq, bne_iff_ne] at hc7
                  exfalso; first | contradiction | omega
                · intro hc7
                  try simp only [decide_eq_true_eq, decide_eq_false_iff_not, Bool.not_eq_true', Bool.not_eq_false', Bool.not_eq_true, Bool.not_eq_false, Bool.and_eq_true, Bool.or_eq_true, Bool.and_eq_false_iff, Bool.or_eq_false_iff, Bool.not_not, ne_eq, Int.not_lt, Int.not_le, Decidable.not_not, beq_iff_eq, bne_iff_ne] at hc7
                  refine c_seq ?_
                  refine c_region ?_
                  refine wl (wl_val hl rfl trivial (r_eql hl rfl rfl) ?_)
                  clear hl a; intro a hl
                  refine wl (wl_val hl rfl trivial (r_assign hl rfl) ?_)
                  clear hl a; intro a hl
                  refine w_nil ?_
                  have hl2 := hl.add (t := 0) (hl.add (t := 2) (hl.add (t := 4) (hl.add (t := 7) (hl.add (t := 18) (hl.add (t := 68) (hl.nil) rfl) rfl) rfl) rfl) rfl) rfl; clear hl; have hl := hl2; clear hl2
                  refine then_normal ?_
                  refine c_cond hl rfl ?_ ?_
                  · intro hc8
                    try simp only [decide_eq_true_eq, decide_eq_false_iff_not, Bool.not_eq_true', Bool.not_eq_false', Bool.not_eq_true, Bool.not_eq_false, Bool.and_eq_true, Bool.or_eq_true, Bool.and_eq_false_iff, Bool.or_eq_false_iff, Bool.not_not, ne_eq, Int.not_lt, Int.not_le, Decidable.not_not, beq_iff_eq, bne_iff_ne] at hc8
                    exfalso; first | contradiction | omega
                  · intro hc8
                    try simp only [decide_eq_true_eq, decide_eq_false_iff_not, Bool.not_eq_true', Bool.not_eq_false', Bool.not_eq_true, Bool.not_eq_false, Bool.and_eq_true, Bool.or_eq_true, Bool.and_eq_false_iff, Bool.or_eq_false_iff, Bool.not_not, ne_eq, Int.not_lt, Int.not_le, Decidable.not_not, beq_iff_eq, bne_iff_ne] at hc8
                    refine c_seq ?_
                    refine c_region ?_
                    refine wl (wl_val hl rfl trivial (r_eql hl rfl rfl) ?_)
                    clear hl a; intro a hl
                    refine wl (wl_val hl rfl trivial (r_assign hl rfl) ?_)
                    clear hl a; intro a hl
                    refine w_nil ?_
                    have hl2 := hl.add (t := 0) (hl.add (t := 2) (hl.add (t := 4) (hl.add (t := 7) (hl.add (t := 18) (hl.add (t := 90) (hl.nil) rfl) rfl) rfl) rfl) rfl) rfl; clear hl; have hl := hl2; clear hl2
                    refine then_normal ?_
                    refine c_cond hl rfl ?_ ?_
                    · intro hc10
                      try simp only [decide_eq_true_eq, decide_eq_false_iff_not, Bool.not_eq_true', Bool.not_eq_false', Bool.not_eq_true, Bool.not_eq_false, Bool.and_eq_true, Bool.or_eq_true, Bool.and_eq_false_iff, Bool.or_eq_false_iff, Bool.not_not, ne_eq, Int.not_lt, Int.not_le, Decidable.not_not, beq_iff_eq, bne_iff_ne] at hc10
                      refine c_seq ?_
                      refine c_region ?_
                      refine wl (wl_val hl rfl trivial (r_move hl rfl) ?_)
                      clear hl a; intro a hl
                      refine wl (wl_val hl rfl trivial (r_nilCheck hl rfl) ?_)
                      clear hl a; intro a hl
                      refine wl (wl_val hl rfl trivial (r_field hl rfl fld55_4) ?_)
                      clear hl a; intro a hl
                      refine wl (w_load hl hh rfl trivial one53 rfl (by repeat (first | exact find_head | apply find_tail | apply find_skip)) (by first | exact hct | exact hcr | exact hch | exact hcl | rfl) ?_)
                      clear hl a; intro a hl
                      refine wl (wl_val hl rfl trivial (r_lenS hl rfl slc53) ?_)
                      clear hl a; intro a hl
                      refine wl (wl_val hl rfl trivial (r_gtr hl rfl rfl) ?_)
                      clear hl a; intro a hl
                      refine w_nil ?_
                      have hl2 := hl.add (t := 0) (hl.add (t := 2) (hl.add (t := 4) (hl.add (t := 97) (hl.nil) rfl) rfl) rfl) rfl; clear hl; have hl := hl2; clear hl2
                      refine then_normal ?_
                      refine c_cond hl rfl ?_ ?_
                      · intro hc11
                        try simp only [decide_eq_true_eq, decide_eq_false_iff_not, Bool.not_eq_true', Bool.not_eq_false', Bool.not_eq_true, Bool.not_eq_false, Bool.and_eq_true, Bool.or_eq_true, Bool.and_eq_false_iff, Bool.or_eq_false_iff, Bool.not_not, ne_eq, Int.not_lt, Int.not_le, Decidable.not_not, beq_iff_eq, bne_iff_ne] at hc11
                        refine c_seq ?_
                        refine c_draw [(k4, C [.int .u8 o.k, .int .i64 o.A, .int .i64 o.B, .slice p o.tx.length cap, .int .u8 o.m.k, .int .u8 o.m.d, .int .u32 o.m.e, .int .u32 o.m.b, .bool o.m.y, .int .u32 o.m.r, .int .u32 o.m.s, .string o.m.t, .int .u8 o.v.k, .int .u8 o.v.a, .int .u8 o.v.b, .int .u8 o.v.w, .int .u8 o.v.da, .int .u8 o.v.dl] 45)] [15, 16] mixed hh ?_
                        clear hh w; intro w hh
                        have hM : Mem [(k4, C [.int .u8 o.k, .int .i64 o.A, .int .i64 o.B, .slice p o.tx.length cap, .int .u8 o.m.k, .int .u8 o.m.d, .int .u32 o.m.e, .int .u32 o.m.b, .bool o.m.y, .int .u32 o.m.r, .int .u32 o.m.s, .string o.m.t, .int .u8 o.v.k, .int .u8 o.v.a, .int .u8 o.v.b, .int .u8 o.v.w, .int .u8 o.v.da, .int .u8 o.v.dl] 45)] w := (memK hh (by repeat (first | exact keeps_nil | apply keeps_cons (by repeat (first | exact find_head | apply find_tail | apply find_skip)) (by first  | rfl) | exact keeps_self | exact keeps_left | apply keeps_app | apply keeps_mv | apply keeps_skip)))
                        refine d_take (i := 0) hl rfl (by kernel_rfl) (by kernel_rfl) (by kernel_rfl) (by kernel_rfl) (by kernel_rfl) rfl trivial (fun _ _ _ h => h) hM (fun w hC => r_move hl rfl) rfl ?_
                        clear hl a; intro a hl
                        refine d_take (i := 1) hl rfl (by kernel_rfl) (by kernel_rfl) (by kernel_rfl) (by kernel_rfl) (by kernel_rfl) rfl trivial (fun _ _ _ h => h) hM (fun w hC => r_move hl rfl) rfl ?_
                        clear hl a; intro a hl
                        refine d_take (i := 2) hl rfl (by kernel_rfl) (by kernel_rfl) (by kernel_rfl) (by kernel_rfl) (by kernel_rfl) rfl trivial (fun _ _ _ h => h) hM (fun w hC => r_nilCheck hl rfl) rfl ?_
                        clear hl a; intro a hl
                        refine d_take (i := 3) hl rfl (by kernel_rfl) (by kernel_rfl) (by kernel_rfl) (by kernel_rfl) (by kernel_rfl) rfl trivial (fun _ _ _ h => h) hM (fun w hC => r_field hl rfl fld55_4) rfl ?_
                        clear hl a; intro a hl
                        refine d_take (i := 4) hl rfl (by kernel_rfl) (by kernel_rfl) (by kernel_rfl) (by kernel_rfl) (by kernel_rfl) rfl trivial (fun _ _ _ h => h) hM (fun w hC => r_field hl rfl fld45_1) rfl ?_
                        clear hl a; intro a hl
                        refine d_take (i := 5) hl rfl (by kernel_rfl) (by kernel_rfl) (by kernel_rfl) (by kernel_rfl) (by kernel_rfl) rfl trivial (fun _ _ _ h => h) hM (fun w hC => r_loadC hl rfl one3 hC (by repeat (first | exact find_head | apply find_tail | apply find_skip)) (by first | exact hct | exact hcr | exact hch | exact hcl | rfl)) rfl ?_
                        clear hl a; intro a hl
                        refine d_take (i := 6) hl rfl (by kernel_rfl) (by kernel_rfl) (by kernel_rfl) (by kernel_rfl) (by kernel_rfl) rfl trivial (fun _ _ _ h => h) hM (fun w hC => r_move hl rfl) rfl ?_
                        clear hl a; intro a hl
                        refine d_take (i := 7) hl rfl (by kernel_rfl) (by kernel_rfl) (by kernel_rfl) (by kernel_rfl) (by kernel_rfl) rfl trivial (fun _ _ _ h => h) hM (fun w hC => r_nilCheck hl rfl) rfl ?_
                        clear hl a; intro a hl
                        refine d_take (i := 8) hl rfl (by kernel_rfl) (by kernel_rfl) (by kernel_rfl) (by kernel_rfl) (by kernel_rfl) rfl trivial (fun _ _ _ h => h) hM (fun w hC => r_field hl rfl fld55_4) rfl ?_
                        clear hl a; intro a hl
                        refine d_take (i := 14) hl rfl (by kernel_rfl) (by kernel_rfl) (by kernel_rfl) (by kernel_rfl) (by kernel_rfl) rfl trivial (fun _ _ _ h => h) hM (fun w hC => r_move hl rfl) rfl ?_
                        clear hl a; intro a hl
                        refine d_one (i := 9) (by kernel_rfl) rfl ?_
                        try clear hM
                        refine id (w_load hl hh rfl trivial one53 rfl (by repeat (first | exact find_head | apply find_tail | apply find_skip)) (by first | exact hct | exact hcr | exact hch | exact hcl | rfl) ?_)
                        clear hl a; intro a hl
                        have hM : Mem [(k4, C [.int .u8 o.k, .int .i64 o.A, .int .i64 o.B, .slice p o.tx.length cap, .int .u8 o.m.k, .int .u8 o.m.d, .int .u32 o.m.e, .int .u32 o.m.b, .bool o.m.y, .int .u32 o.m.r, .int .u32 o.m.s, .string o.m.t, .int .u8 o.v.k, .int .u8 o.v.a, .int .u8 o.v.b, .int .u8 o.v.w, .int .u8 o.v.da, .int .u8 o.v.dl] 45)] w := (memK hh (by repeat (first | exact keeps_nil | apply keeps_cons (by repeat (first | exact find_head | apply find_tail | apply find_skip)) (by first  | rfl) | exact keeps_self | exact keeps_left | apply keeps_app | apply keeps_mv | apply keeps_skip)))
                        refine d_step (fun _ => hM) ?_
                        refine d_take (i := 10) hl rfl (by kernel_rfl) (by kernel_rfl) (by kernel_rfl) (by kernel_rfl) (by kernel_rfl) rfl trivial (fun _ _ _ h => h) hM (fun w hC => r_lenS hl rfl slc53) rfl ?_
                        clear hl a; intro a hl
                        refine d_one (i := 11) (by kernel_rfl) rfl ?_
                        try clear hM
                        refine id (w_call hl hh rfl trivial rfl cal22 rfl (mod_spec o.A (W.tg.length : Int) (by omega) (by omega)) (by repeat (first | exact keeps_nil | apply keeps_cons (by repeat (first | exact find_head | apply find_tail | apply find_skip)) (by first  | rfl) | exact keeps_self | exact keeps_left | apply keeps_app | apply keeps_mv | apply keeps_skip)) trivial ?_)
                        clear hl hh a w; intro vc Fc a w hR hl hh
                        obtain ⟨rfl, rfl⟩ := hR
                        try simp only [List.cons_append, List.nil_append, List.append_assoc, List.append_nil] at hh
                        obtain ⟨i9, hi9, hi8⟩ := mod_nat o.A (show 0 < W.tg.length by omega)
                        rw [hi9] at hl
                        have hM : Mem [(k4, C [.int .u8 o.k, .int .i64 o.A, .int .i64 o.B, .slice p o.tx.length cap, .int .u8 o.m.k, .int .u8 o.m.d, .int .u32 o.m.e, .int .u32 o.m.b, .bool o.m.y, .int .u32 o.m.r, .int .u32 o.m.s, .string o.m.t, .int .u8 o.v.k, .int .u8 o.v.a, .int .u8 o.v.b, .int .u8 o.v.w, .int .u8 o.v.da, .int .u8 o.v.dl] 45)] w := (memK hh (by repeat (first | exact keeps_nil | apply keeps_cons (by repeat (first | exact find_head | apply find_tail | apply find_skip)) (by first  | rfl) | exact keeps_self | exact keeps_left | apply keeps_app | apply keeps_mv | apply keeps_skip)))
                        refine d_step (fun _ => hM) ?_
                        refine d_one (i := 12) (by kernel_rfl) rfl ?_
                        try clear hM
                        refine id (w_call hl hh rfl trivial rfl cal21 rfl (take_spec wb W.c (0 + 19) W.tg W.gp W.gc W.gE hW.r hcr hW.rl i9 hi8) (by repeat (first | exact keeps_nil | apply keeps_cons (by repeat (first | exact find_head | apply find_tail | apply find_skip)) (by first  | rfl) | exact keeps_self | exact keeps_left | apply keeps_app | apply keeps_mv | apply keeps_skip)) trivial ?_)
                        clear hl hh a w; intro vc Fc a w hR hl hh
                        obtain ⟨m, p6, c6, E6, hm6, rfl, hR6, rfl⟩ := hR
                        try simp only [List.cons_append, List.nil_append, List.append_assoc, List.append_nil] at hh
                        rw [wc_stg W hW.dl p6 _ c6 E6] at hh
                        have hmo := hW.ro m (List.mem_of_getElem? hm6)
                        have hfd := feedM_spec (wb := wb) (tg_ok hW hR6 (fun m h => del_in0 i9 m (.inl h)) (del_len160 hW.rl i9)) hn9 hMx (m := m) (tg_K (Q.jk hJ) (del_in hm6) p6 c6 E6) (hn.cg rfl rfl) hg hmo
                        simp only [WoV.F] at hfd
                        simp only [msc] at hl
                        have hM : Mem [(k4, C [.int .u8 o.k, .int .i64 o.A, .int .i64 o.B, .slice p o.tx.length cap, .int .u8 o.m.k, .int .u8 o.m.d, .int .u32 o.m.e, .int .u32 o.m.b, .bool o.m.y, .int .u32 o.m.r, .int .u32 o.m.s, .string o.m.t, .int .u8 o.v.k, .int .u8 o.v.a, .int .u8 o.v.b, .int .u8 o.v.w, .int .u8 o.v.da, .int .u8 o.v.dl] 45)] w := (memK hh (by repeat (first | exact keeps_nil | apply keeps_cons (by repeat (first | exact find_head | apply find_tail | apply find_skip)) (by first  | rfl) | exact keeps_self | exact keeps_left | apply keeps_app | apply keeps_mv | apply keeps_skip)))
                        refine d_step (fun _ => hM) ?_
                        refine d_take (i := 13) hl rfl (by kernel_rfl) (by kernel_rfl) (by kernel_rfl) (by kernel_rfl) (by kernel_rfl) rfl trivial (fun _ _ _ h => h) hM (fun w hC => r_build hl rfl zero113 bld113 (by simp only [fillL, setL, List.getElem?_cons_zero, List.getElem?_cons_succ, Value.cells, List.take_zero, List.take_succ_cons, List.take_nil, List.drop_zero, List.drop_succ_cons, List.drop_nil, List.length_cons, List.length_nil, List.cons_append, List.nil_append, List.append_nil, Nat.zero_add, Nat.add_zero, Nat.reduceAdd, Nat.reduceBEq, Nat.reduceEqDiff, Nat.ble, BEq.rfl, Bool.and_true, Bool.and_self, cond_true, beq_self_eq_true]; rfl)) rfl ?_
                        clear hl a; intro a hl
                        refine d_one (i := 15) (by kernel_rfl) rfl ?_
                        try clear hM
                        refine id (w_call hl hh rfl trivial rfl cal19 rfl (hfd) (by repeat (first | exact keeps_nil | apply keeps_cons (by repeat (first | exact find_head | apply find_tail | apply find_skip)) (by first  | rfl) | exact keeps_self | exact keeps_left | apply keeps_app | apply keeps_mv | apply keeps_skip)) trivial ?_)
                        clear hl hh a w; intro vc Fc a w hR hl hh
                        obtain ⟨rfl, hSO⟩ := hR
                        try simp only [List.cons_append, List.nil_append, List.append_assoc, List.append_nil] at hh
                        refine d_step (fun h => absurd h (by decide)) ?_
                        refine d_takeL (i := 16) hl rfl (by kernel_rfl) (by kernel_rfl) (by kernel_rfl) (by kernel_rfl) (by kernel_rfl) rfl trivial (fun _ _ _ h => h) (fun w => r_assign hl rfl) rfl ?_
                        clear hl a; intro a hl
                        refine d_done (by kernel_rfl) ?_
                        try clear hM
                        have hl2 := hl.add (t := 6) (hl.nil) rfl; clear hl; have hl := hl2; clear hl2
                        refine then_normal ?_
                        refine wp_ret ?_
                        refine blk_ret ?_
                        refine then_ret ?_
                        first
                        | (have hq := hSO; refine f_ret1 (F' := Fc) hl hh rfl rfl (by first | exact keeps_left | exact keeps_self) ?_; exact ⟨rfl, hSO⟩)
                        | (refine f_ret1 (F' := Fx ++ ((wb, C W.c 55) :: (W.tE ++ (W.gE ++ (DsF W.ds ++ WoV.GF W Z))))) hl hh rfl rfl (by repeat (first | exact keeps_nil | apply keeps_cons (by repeat (first | exact find_head | apply find_tail | apply find_skip)) (by first  | rfl) | exact keeps_self | exact keeps_left | apply keeps_app | apply keeps_mv | apply keeps_skip)) ?_; exact StepO.same hW (Q.jk hJ) hn hMx rfl)
                      · intro hc11
                        try simp only [decide_eq_true_eq, decide_eq_false_iff_not, Bool.not_eq_true', Bool.not_eq_false', Bool.not_eq_true, Bool.not_eq_false, Bool.and_eq_true, Bool.or_eq_true, Bool.and_eq_false_iff, Bool.or_eq_false_iff, Bool.not_not, ne_eq, Int.not_lt, Int.not_le, Decidable.not_not, beq_iff_eq, bne_iff_ne] at hc11
                        refine wp_skip ?_
                        refine blk_normal ?_
                        refine then_normal ?_
                        refine c_seq ?_
                        refine c_region ?_
                        refine wl (wl_val hl rfl trivial (r_assign hl rfl) ?_)
                        clear hl a; intro a hl
                        refine w_nil ?_
                        have hl2 := hl.add (t := 6) (hl.nil) rfl; clear hl; have hl := hl2; clear hl2
                        refine then_normal ?_
                        refine wp_ret ?_
                        first
                        | (have hq := hSO; refine f_ret1 (F' := Fc) hl hh rfl rfl (by first | exact keeps_left | exact keeps_self) ?_; exact ⟨rfl, hSO⟩)
                        | (refine f_ret1 (F' := Fx ++ ((wb, C W.c 55) :: (W.tE ++ (W.gE ++ (DsF W.ds ++ WoV.GF W Z))))) hl hh rfl rfl (by repeat (first | exact keeps_nil | apply keeps_cons (by repeat (first | exact find_head | apply find_tail | apply find_skip)) (by first  | rfl) | exact keeps_self | exact keeps_left | apply keeps_app | apply keeps_mv | apply keeps_skip)) ?_; exact StepO.same hW (Q.jk hJ) hn hMx rfl)
                    · intro hc10
                      try simp only [decide_eq_true_eq, decide_eq_false_iff_not, Bool.not_eq_true', Bool.not_eq_false', Bool.not_eq_true, Bool.not_eq_false, Bool.and_eq_true, Bool.or_eq_true, Bool.and_eq_false_iff, Bool.or_eq_false_iff, Bool.not_not, ne_eq, Int.not_lt, Int.not_le, Decidable.not_not, beq_iff_eq, bne_iff_ne] at hc10
                      exfalso; first | contradiction | omega
  · intro hc0
    try simp only [decide_eq_true_eq, decide_eq_false_iff_not, Bool.not_eq_true', Bool.not_eq_false', Bool.not_eq_true, Bool.not_eq_false, Bool.and_eq_true, Bool.or_eq_true, Bool.and_eq_false_iff, Bool.or_eq_false_iff, Bool.not_not, ne_eq, Int.not_lt, Int.not_le, Decidable.not_not, beq_iff_eq, bne_iff_ne] at hc0
    refine wp_skip ?_
    refine then_normal ?_
    refine c_seq ?_
    refine c_seq ?_
    refine c_region ?_
    refine wl (wl_val hl rfl trivial (r_field hl rfl fld45_0) ?_)
    clear hl a; intro a hl
    refine wl (w_load hl hh rfl trivial one33 rfl (by repeat (first | exact find_head | apply find_tail | apply find_skip)) (by first | exact hct | exact hcr | exact hch | exact hcl | rfl) ?_)
    clear hl a; intro a hl
    refine w_nil ?_
    have hl2 := hl.add (t := 0) (hl.add (t := 2) (hl.add (t := 4) (hl.add (t := 7) (hl.add (t := 18) (hl.nil) rfl) rfl) rfl) rfl) rfl; clear hl; have hl := hl2; clear hl2
    refine then_normal ?_
    refine wp_block ?_
    refine c_seq ?_
    refine c_region ?_
    refine wl (wl_val hl rfl trivial (r_eql hl rfl rfl) ?_)
    clear hl a; intro a hl
    refine wl (wl_val hl rfl trivial (r_assign hl rfl) ?_)
    clear hl a; intro a hl
    refine w_nil ?_
    have hl2 := hl.add (t := 0) (hl.add (t := 2) (hl.add (t := 4) (hl.add (t := 7) (hl.add (t := 18) (hl.add (t := 19) (hl.nil) rfl) rfl) rfl) rfl) rfl) rfl; clear hl; have hl := hl2; clear hl2
    refine then_normal ?_
    refine c_cond hl rfl ?_ ?_
    · intro hc1
      try simp only [decide_eq_true_eq, decide_eq_false_iff_not, Bool.not_eq_true', Bool.not_eq_false', Bool.not_eq_true, Bool.not_eq_false, Bool.and_eq_true, Bool.or_eq_true, Bool.and_eq_false_iff, Bool.or_eq_false_iff, Bool.not_not, ne_eq, Int.not_lt, Int.not_le, Decidable.not_not, beq_iff_eq, bne_iff_ne] at hc1
      exfalso; first | contradiction | omega
    · intro hc1
      try simp only [decide_eq_true_eq, decide_eq_false_iff_not, Bool.not_eq_true', Bool.not_eq_false', Bool.not_eq_true, Bool.not_eq_false, Bool.and_eq_true, Bool.or_eq_true, Bool.and_eq_false_iff, Bool.or_eq_false_iff, Bool.not_not, ne_eq, Int.not_lt, Int.not_le, Decidable.not_not, beq_iff_eq, bne_iff_ne] at hc1
      refine c_seq ?_
      refine c_seq ?_
      refine c_region ?_
      refine wl (wl_val hl rfl trivial (r_eql hl rfl rfl) ?_)
      clear hl a; intro a hl
      refine wl (wl_val hl rfl trivial (r_assign hl rfl) ?_)
      clear hl a; intro a hl
      refine w_nil ?_
      have hl2 := hl.add (t := 0) (hl.add (t := 2) (hl.add (t := 4) (hl.add (t := 7) (hl.add (t := 18) (hl.add (t := 27) (hl.nil) rfl) rfl) rfl) rfl) rfl) rfl; clear hl; have hl := hl2; clear hl2
      refine then_normal ?_
      refine c_cond hl rfl ?_ ?_
      · intro hc2
        try simp only [decide_eq_true_eq, decide_eq_false_iff_not, Bool.not_eq_true', Bool.not_eq_false', Bool.not_eq_true, Bool.not_eq_false, Bool.and_eq_true, Bool.or_eq_true, Bool.and_eq_false_iff, Bool.or_eq_false_iff, Bool.not_not, ne_eq, Int.not_lt, Int.not_le, Decidable.not_not, beq_iff_eq, bne_iff_ne] at hc2
        exfalso; first | contradiction | omega
      · intro hc2
        try simp only [decide_eq_true_eq, decide_eq_false_iff_not, Bool.not_eq_true', Bool.not_eq_false', Bool.not_eq_true, Bool.not_eq_false, Bool.and_eq_true, Bool.or_eq_true, Bool.and_eq_false_iff, Bool.or_eq_false_iff, Bool.not_not, ne_eq, Int.not_lt, Int.not_le, Decidable.not_not, beq_iff_eq, bne_iff_ne] at hc2
        refine c_region ?_
        refine wl (wl_val hl rfl trivial (r_eql hl rfl rfl) ?_)
        clear hl a; intro a hl
        refine wl (wl_val hl rfl trivial (r_assign hl rfl) ?_)
        clear hl a; intro a hl
        refine w_nil ?_
        have hl2 := hl.add (t := 0) (hl.add (t := 2) (hl.add (t := 4) (hl.add (t := 7) (hl.add (t := 18) (hl.add (t := 27) (hl.nil) rfl) rfl) rfl) rfl) rfl) rfl; clear hl; have hl := hl2; clear hl2
        refine then_normal ?_
        refine c_cond hl rfl ?_ ?_
        · intro hc3
          try simp only [decide_eq_true_eq, decide_eq_false_iff_not, Bool.not_eq_true', Bool.not_eq_false', Bool.not_eq_true, Bool.not_eq_false, Bool.and_eq_true, Bool.or_eq_true, Bool.and_eq_false_iff, Bool.or_eq_false_iff, Bool.not_not, ne_eq, Int.not_lt, Int.not_le, Decidable.not_not, beq_iff_eq, bne_iff_ne] at hc3
          exfalso; first | contradiction | omega
        · intro hc3
          try simp only [decide_eq_true_eq, decide_eq_false_iff_not, Bool.not_eq_true', Bool.not_eq_false', Bool.not_eq_true, Bool.not_eq_false, Bool.and_eq_true, Bool.or_eq_true, Bool.and_eq_false_iff, Bool.or_eq_false_iff, Bool.not_not, ne_eq, Int.not_lt, Int.not_le, Decidable.not_not, beq_iff_eq, bne_iff_ne] at hc3
          refine c_seq ?_
          refine c_seq ?_
          refine c_region ?_
          refine wl (wl_val hl rfl trivial (r_eql hl rfl rfl) ?_)
          clear hl a; intro a hl
          refine wl (wl_val hl rfl trivial (r_assign hl rfl) ?_)
          clear hl a; intro a hl
          refine w_nil ?_
          have hl2 := hl.add (t := 0) (hl.add (t := 2) (hl.add (t := 4) (hl.add (t := 7) (hl.add (t := 18) (hl.add (t := 39) (hl.nil) rfl) rfl) rfl) rfl) rfl) rfl; clear hl; have hl := hl2; clear hl2
          refine then_normal ?_
          refine c_cond hl rfl ?_ ?_
          · intro hc4
            try simp only [decide_eq_true_eq, decide_eq_false_iff_not, Bool.not_eq_true', Bool.not_eq_false', Bool.not_eq_true, Bool.not_eq_false, Bool.and_eq_true, Bool.or_eq_true, Bool.and_eq_false_iff, Bool.or_eq_false_iff, Bool.not_not, ne_eq, Int.not_lt, Int.not_le, Decidable.not_not, beq_iff_eq, bne_iff_ne] at hc4
            exfalso; first | contradiction | omega
          · intro hc4
            try simp only [decide_eq_true_eq, decide_eq_false_iff_not, Bool.not_eq_true', Bool.not_eq_false', Bool.not_eq_true, Bool.not_eq_false, Bool.and_eq_true, Bool.or_eq_true, Bool.and_eq_false_iff, Bool.or_eq_false_iff, Bool.not_not, ne_eq, Int.not_lt, Int.not_le, Decidable.not_not, beq_iff_eq, bne_iff_ne] at hc4
            refine c_region ?_
            refine wl (wl_val hl rfl trivial (r_eql hl rfl rfl) ?_)
            clear hl a; intro a hl
            refine wl (wl_val hl rfl trivial (r_assign hl rfl) ?_)
            clear hl a; intro a hl
            refine w_nil ?_
            have hl2 := hl.add (t := 0) (hl.add (t := 2) (hl.add (t := 4) (hl.add (t := 7) (hl.add (t := 18) (hl.add (t := 39) (hl.nil) rfl) rfl) rfl) rfl) rfl) rfl; clear hl; have hl := hl2; clear hl2
            refine then_normal ?_
            refine c_cond hl rfl ?_ ?_
            · intro hc5
              try simp only [decide_eq_true_eq, decide_eq_false_iff_not, Bool.not_eq_true', Bool.not_eq_false', Bool.not_eq_true, Bool.not_eq_false, Bool.and_eq_true, Bool.or_eq_true, Bool.and_eq_false_iff, Bool.or_eq_false_iff, Bool.not_not, ne_eq, Int.not_lt, Int.not_le, Decidable.not_not, beq_iff_eq, bne_iff_ne] at hc5
              exfalso; first | contradiction | omega
            · intro hc5
              try simp only [decide_eq_true_eq, decide_eq_false_iff_not, Bool.not_eq_true', Bool.not_eq_false', Bool.not_eq_true, Bool.not_eq_false, Bool.and_eq_true, Bool.or_eq_true, Bool.and_eq_false_iff, Bool.or_eq_false_iff, Bool.not_not, ne_eq, Int.not_lt, Int.not_le, Decidable.not_not, beq_iff_eq, bne_iff_ne] at hc5
              refine c_seq ?_
              refine c_region ?_
              refine wl (wl_val hl rfl trivial (r_eql hl rfl rfl) ?_)
              clear hl a; intro a hl
              refine wl (wl_val hl rfl trivial (r_assign hl rfl) ?_)
              clear hl a; intro a hl
              refine w_nil ?_
              have hl2 := hl.add (t := 0) (hl.add (t := 2) (hl.add (t := 4) (hl.add (t := 7) (hl.add (t := 18) (hl.add (t := 50) (hl.nil) rfl) rfl) rfl) rfl) rfl) rfl; clear hl; have hl := hl2; clear hl2
              refine then_normal ?_
              refine c_cond hl rfl ?_ ?_
              · intro hc6
                try simp only [decide_eq_true_eq, decide_eq_false_iff_not, Bool.not_eq_true', Bool.not_eq_false', Bool.not_eq_true, Bool.not_eq_false, Bool.and_eq_true, Bool.or_eq_true, Bool.and_eq_false_iff, Bool.or_eq_false_iff, Bool.not_not, ne_eq, Int.not_lt, Int.not_le, Decidable.not_not, beq_iff_eq, bne_iff_ne] at hc6
                exfalso; first | contradiction | omega
              · intro hc6
                try simp only [decide_eq_true_eq, decide_eq_false_iff_not, Bool.not_eq_true', Bool.not_eq_false', Bool.not_eq_true, Bool.not_eq_false, Bool.and_eq_true, Bool.or_eq_true, Bool.and_eq_false_iff, Bool.or_eq_false_iff, Bool.not_not, ne_eq, Int.not_lt, Int.not_le, Decidable.not_not, beq_iff_eq, bne_iff_ne] at hc6
                refine c_seq ?_
                refine c_region ?_
                refine wl (wl_val hl rfl trivial (r_eql hl rfl rfl) ?_)
                clear hl a; intro a hl
                refine wl (wl_val hl rfl trivial (r_assign hl rfl) ?_)
                clear hl a; intro a hl
                refine w_nil ?_
                have hl2 := hl.add (t := 0) (hl.add (t := 2) (hl.add (t := 4) (hl.add (t := 7) (hl.add (t := 18) (hl.add (t := 62) (hl.nil) rfl) rfl) rfl) rfl) rfl) rfl; clear hl; have hl := hl2; clear hl2
                refine then_normal ?_
                refine c_cond hl rfl ?_ ?_
                · intro hc7
                  try simp only [decide_eq_true_eq, decide_eq_false_iff_not, Bool.not_eq_true', Bool.not_eq_false', Bool.not_eq_true, Bool.not_eq_false, Bool.and_eq_true, Bool.or_eq_true, Bool.and_eq_false_iff, Bool.or_eq_false_iff, Bool.not_not, ne_eq, Int.not_lt, Int.not_le, Decidable.not_not, beq_iff_eq, bne_iff_ne] at hc7
                  exfalso; first | contradiction | omega
                · intro hc7
                  try simp only [decide_eq_true_eq, decide_eq_false_iff_not, Bool.not_eq_true', Bool.not_eq_false', Bool.not_eq_true, Bool.not_eq_false, Bool.and_eq_true, Bool.or_eq_true, Bool.and_eq_false_iff, Bool.or_eq_false_iff, Bool.not_not, ne_eq, Int.not_lt, Int.not_le, Decidable.not_not, beq_iff_eq, bne_iff_ne] at hc7
                  refine c_seq ?_
                  refine c_region ?_
                  refine wl (wl_val hl rfl trivial (r_eql hl rfl rfl) ?_)
                  clear hl a; intro a hl
                  refine wl (wl_val hl rfl trivial (r_assign hl rfl) ?_)
                  clear hl a; intro a hl
                  refine w_nil ?_
                  have hl2 := hl.add (t := 0) (hl.add (t := 2) (hl.add (t := 4) (hl.add (t := 7) (hl.add (t := 18) (hl.add (t := 68) (hl.nil) rfl) rfl) rfl) rfl) rfl) rfl; clear hl; have hl := hl2; clear hl2
                  refine then_normal ?_
                  refine c_cond hl rfl ?_ ?_
                  · intro hc8
                    try simp only [decide_eq_true_eq, decide_eq_false_iff_not, Bool.not_eq_true', Bool.not_eq_false', Bool.not_eq_true, Bool.not_eq_false, Bool.and_eq_true, Bool.or_eq_true, Bool.and_eq_false_iff, Bool.or_eq_false_iff, Bool.not_not, ne_eq, Int.not_lt, Int.not_le, Decidable.not_not, beq_iff_eq, bne_iff_ne] at hc8
                    exfalso; first | contradiction | omega
                  · intro hc8
                    try simp only [decide_eq_true_eq, decide_eq_false_iff_not, Bool.not_eq_true', Bool.not_eq_false', Bool.not_eq_true, Bool.not_eq_false, Bool.and_eq_true, Bool.or_eq_true, Bool.and_eq_false_iff, Bool.or_eq_false_iff, Bool.not_not, ne_eq, Int.not_lt, Int.not_le, Decidable.not_not, beq_iff_eq, bne_iff_ne] at hc8
                    refine c_seq ?_
                    refine c_region ?_
                    refine wl (wl_val hl rfl trivial (r_eql hl rfl rfl) ?_)
                    clear hl a; intro a hl
                    refine wl (wl_val hl rfl trivial (r_assign hl rfl) ?_)
                    clear hl a; intro a hl
                    refine w_nil ?_
                    have hl2 := hl.add (t := 0) (hl.add (t := 2) (hl.add (t := 4) (hl.add (t := 7) (hl.add (t := 18) (hl.add (t := 90) (hl.nil) rfl) rfl) rfl) rfl) rfl) rfl; clear hl; have hl := hl2; clear hl2
                    refine then_normal ?_
                    refine c_cond hl rfl ?_ ?_
                    · intro hc10
                      try simp only [decide_eq_true_eq, decide_eq_false_iff_not, Bool.not_eq_true', Bool.not_eq_false', Bool.not_eq_true, Bool.not_eq_false, Bool.and_eq_true, Bool.or_eq_true, Bool.and_eq_false_iff, Bool.or_eq_false_iff, Bool.not_not, ne_eq, Int.not_lt, Int.not_le, Decidable.not_not, beq_iff_eq, bne_iff_ne] at hc10
                      refine c_seq ?_
                      refine c_region ?_
                      refine wl (wl_val hl rfl trivial (r_move hl rfl) ?_)
                      clear hl a; intro a hl
                      refine wl (wl_val hl rfl trivial (r_nilCheck hl rfl) ?_)
                      clear hl a; intro a hl
                      refine wl (wl_val hl rfl trivial (r_field hl rfl fld55_4) ?_)
                      clear hl a; intro a hl
                      refine wl (w_load hl hh rfl trivial one53 rfl (by repeat (first | exact find_head | apply find_tail | apply find_skip)) (by first | exact hct | exact hcr | exact hch | exact hcl | rfl) ?_)
                      clear hl a; intro a hl
                      refine wl (wl_val hl rfl trivial (r_lenS hl rfl slc53) ?_)
                      clear hl a; intro a hl
                      refine wl (wl_val hl rfl trivial (r_gtr hl rfl rfl) ?_)
                      clear hl a; intro a hl
                      refine w_nil ?_
                      have hl2 := hl.add (t := 0) (hl.add (t := 2) (hl.add (t := 4) (hl.add (t := 97) (hl.nil) rfl) rfl) rfl) rfl; clear hl; have hl := hl2; clear hl2
                      refine then_normal ?_
                      refine c_cond hl rfl ?_ ?_
                      · intro hc11
                        try simp only [decide_eq_true_eq, decide_eq_false_iff_not, Bool.not_eq_true', Bool.not_eq_false', Bool.not_eq_true, Bool.not_eq_false, Bool.and_eq_true, Bool.or_eq_true, Bool.and_eq_false_iff, Bool.or_eq_false_iff, Bool.not_not, ne_eq, Int.not_lt, Int.not_le, Decidable.not_not, beq_iff_eq, bne_iff_ne] at hc11
                        refine c_seq ?_
                        refine c_draw [(k4, C [.int .u8 o.k, .int .i64 o.A, .int .i64 o.B, .slice p o.tx.length cap, .int .u8 o.m.k, .int .u8 o.m.d, .int .u32 o.m.e, .int .u32 o.m.b, .bool o.m.y, .int .u32 o.m.r, .int .u32 o.m.s, .string o.m.t, .int .u8 o.v.k, .int .u8 o.v.a, .int .u8 o.v.b, .int .u8 o.v.w, .int .u8 o.v.da, .int .u8 o.v.dl] 45)] [15, 16] mixed hh ?_
                        clear hh w; intro w hh
                        have hM : Mem [(k4, C [.int .u8 o.k, .int .i64 o.A, .int .i64 o.B, .slice p o.tx.length cap, .int .u8 o.m.k, .int .u8 o.m.d, .int .u32 o.m.e, .int .u32 o.m.b, .bool o.m.y, .int .u32 o.m.r, .int .u32 o.m.s, .string o.m.t, .int .u8 o.v.k, .int .u8 o.v.a, .int .u8 o.v.b, .int .u8 o.v.w, .int .u8 o.v.da, .int .u8 o.v.dl] 45)] w := (memK hh (by repeat (first | exact keeps_nil | apply keeps_cons (by repeat (first | exact find_head | apply find_tail | apply find_skip)) (by first  | rfl) | exact keeps_self | exact keeps_left | apply keeps_app | apply keeps_mv | apply keeps_skip)))
                        refine d_take (i := 0) hl rfl (by kernel_rfl) (by kernel_rfl) (by kernel_rfl) (by kernel_rfl) (by kernel_rfl) rfl trivial (fun _ _ _ h => h) hM (fun w hC => r_move hl rfl) rfl ?_
                        clear hl a; intro a hl
                        refine d_take (i := 1) hl rfl (by kernel_rfl) (by kernel_rfl) (by kernel_rfl) (by kernel_rfl) (by kernel_rfl) rfl trivial (fun _ _ _ h => h) hM (fun w hC => r_move hl rfl) rfl ?_
                        clear hl a; intro a hl
                        refine d_take (i := 2) hl rfl (by kernel_rfl) (by kernel_rfl) (by kernel_rfl) (by kernel_rfl) (by kernel_rfl) rfl trivial (fun _ _ _ h => h) hM (fun w hC => r_nilCheck hl rfl) rfl ?_
                        clear hl a; intro a hl
                        refine d_take (i := 3) hl rfl (by kernel_rfl) (by kernel_rfl) (by kernel_rfl) (by kernel_rfl) (by kernel_rfl) rfl trivial (fun _ _ _ h => h) hM (fun w hC => r_field hl rfl fld55_4) rfl ?_
                        clear hl a; intro a hl
                        refine d_take (i := 4) hl rfl (by kernel_rfl) (by kernel_rfl) (by kernel_rfl) (by kernel_rfl) (by kernel_rfl) rfl trivial (fun _ _ _ h => h) hM (fun w hC => r_field hl rfl fld45_1) rfl ?_
                        clear hl a; intro a hl
                        refine d_take (i := 5) hl rfl (by kernel_rfl) (by kernel_rfl) (by kernel_rfl) (by kernel_rfl) (by kernel_rfl) rfl trivial (fun _ _ _ h => h) hM (fun w hC => r_loadC hl rfl one3 hC (by repeat (first | exact find_head | apply find_tail | apply find_skip)) (by first | exact hct | exact hcr | exact hch | exact hcl | rfl)) rfl ?_
                        clear hl a; intro a hl
                        refine d_take (i := 6) hl rfl (by kernel_rfl) (by kernel_rfl) (by kernel_rfl) (by kernel_rfl) (by kernel_rfl) rfl trivial (fun _ _ _ h => h) hM (fun w hC => r_move hl rfl) rfl ?_
                        clear hl a; intro a hl
                        refine d_take (i := 7) hl rfl (by kernel_rfl) (by kernel_rfl) (by kernel_rfl) (by kernel_rfl) (by kernel_rfl) rfl trivial (fun _ _ _ h => h) hM (fun w hC => r_nilCheck hl rfl) rfl ?_
                        clear hl a; intro a hl
                        refine d_take (i := 8) hl rfl (by kernel_rfl) (by kernel_rfl) (by kernel_rfl) (by kernel_rfl) (by kernel_rfl) rfl trivial (fun _ _ _ h => h) hM (fun w hC => r_field hl rfl fld55_4) rfl ?_
                        clear hl a; intro a hl
                        refine d_take (i := 14) hl rfl (by kernel_rfl) (by kernel_rfl) (by kernel_rfl) (by kernel_rfl) (by kernel_rfl) rfl trivial (fun _ _ _ h => h) hM (fun w hC => r_move hl rfl) rfl ?_
                        clear hl a; intro a hl
                        refine d_one (i := 9) (by kernel_rfl) rfl ?_
                        try clear hM
                        refine id (w_load hl hh rfl trivial one53 rfl (by repeat (first | exact find_head | apply find_tail | apply find_skip)) (by first | exact hct | exact hcr | exact hch | exact hcl | rfl) ?_)
                        clear hl a; intro a hl
                        have hM : Mem [(k4, C [.int .u8 o.k, .int .i64 o.A, .int .i64 o.B, .slice p o.tx.length cap, .int .u8 o.m.k, .int .u8 o.m.d, .int .u32 o.m.e, .int .u32 o.m.b, .bool o.m.y, .int .u32 o.m.r, .int .u32 o.m.s, .string o.m.t, .int .u8 o.v.k, .int .u8 o.v.a, .int .u8 o.v.b, .int .u8 o.v.w, .int .u8 o.v.da, .int .u8 o.v.dl] 45)] w := (memK hh (by repeat (first | exact keeps_nil | apply keeps_cons (by repeat (first | exact find_head | apply find_tail | apply find_skip)) (by first  | rfl) | exact keeps_self | exact keeps_left | apply keeps_app | apply keeps_mv | apply keeps_skip)))
                        refine d_step (fun _ => hM) ?_
                        refine d_take (i := 10) hl rfl (by kernel_rfl) (by kernel_rfl) (by kernel_rfl) (by kernel_rfl) (by kernel_rfl) rfl trivial (fun _ _ _ h => h) hM (fun w hC => r_lenS hl rfl slc53) rfl ?_
                        clear hl a; intro a hl
                        refine d_one (i := 11) (by kernel_rfl) rfl ?_
                        try clear hM
                        refine id (w_call hl hh rfl trivial rfl cal22 rfl (mod_spec o.A (W.tg.length : Int) (by omega) (by omega)) (by repeat (first | exact keeps_nil | apply keeps_cons (by repeat (first | exact find_head | apply find_tail | apply find_skip)) (by first  | rfl) | exact keeps_self | exact keeps_left | apply keeps_app | apply keeps_mv | apply keeps_skip)) trivial ?_)
                        clear hl hh a w; intro vc Fc a w hR hl hh
                        obtain ⟨rfl, rfl⟩ := hR
                        try simp only [List.cons_append, List.nil_append, List.append_assoc, List.append_nil] at hh
                        obtain ⟨i9, hi9, hi8⟩ := mod_nat o.A (show 0 < W.tg.length by omega)
                        rw [hi9] at hl
                        have hM : Mem [(k4, C [.int .u8 o.k, .int .i64 o.A, .int .i64 o.B, .slice p o.tx.length cap, .int .u8 o.m.k, .int .u8 o.m.d, .int .u32 o.m.e, .int .u32 o.m.b, .bool o.m.y, .int .u32 o.m.r, .int .u32 o.m.s, .string o.m.t, .int .u8 o.v.k, .int .u8 o.v.a, .int .u8 o.v.b, .int .u8 o.v.w, .int .u8 o.v.da, .int .u8 o.v.dl] 45)] w := (memK hh (by repeat (first | exact keeps_nil | apply keeps_cons (by repeat (first | exact find_head | apply find_tail | apply find_skip)) (by first  | rfl) | exact keeps_self | exact keeps_left | apply keeps_app | apply keeps_mv | apply keeps_skip)))
                        refine d_step (fun _ => hM) ?_
                        refine d_one (i := 12) (by kernel_rfl) rfl ?_
                        try clear hM
                        refine id (w_call hl hh rfl trivial rfl cal21 rfl (take_spec wb W.c (0 + 19) W.tg W.gp W.gc W.gE hW.r hcr hW.rl i9 hi8) (by repeat (first | exact keeps_nil | apply keeps_cons (by repeat (first | exact find_head | apply find_tail | apply find_skip)) (by first  | rfl) | exact keeps_self | exact keeps_left | apply keeps_app | apply keeps_mv | apply keeps_skip)) trivial ?_)
                        clear hl hh a w; intro vc Fc a w hR hl hh
                        obtain ⟨m, p6, c6, E6, hm6, rfl, hR6, rfl⟩ := hR
                        try simp only [List.cons_append, List.nil_append, List.append_assoc, List.append_nil] at hh
                        rw [wc_stg W hW.dl p6 _ c6 E6] at hh
                        have hmo := hW.ro m (List.mem_of_getElem? hm6)
                        have hfd := feedM_spec (wb := wb) (tg_ok hW hR6 (fun m h => del_in0 i9 m (.inl h)) (del_len160 hW.rl i9)) hn9 hMx (m := m) (tg_K (Q.jk hJ) (del_in hm6) p6 c6 E6) (hn.cg rfl rfl) hg hmo
                        simp only [WoV.F] at hfd
                        simp only [msc] at hl
                        have hM : Mem [(k4, C [.int .u8 o.k, .int .i64 o.A, .int .i64 o.B, .slice p o.tx.length cap, .int .u8 o.m.k, .int .u8 o.m.d, .int .u32 o.m.e, .int .u32 o.m.b, .bool o.m.y, .int .u32 o.m.r, .int .u32 o.m.s, .string o.m.t, .int .u8 o.v.k, .int .u8 o.v.a, .int .u8 o.v.b, .int .u8 o.v.w, .int .u8 o.v.da, .int .u8 o.v.dl] 45)] w := (memK hh (by repeat (first | exact keeps_nil | apply keeps_cons (by repeat (first | exact find_head | apply find_tail | apply find_skip)) (by first  | rfl) | exact keeps_self | exact keeps_left | apply keeps_app | apply keeps_mv | apply keeps_skip)))
                        refine d_step (fun _ => hM) ?_
                        refine d_take (i := 13) hl rfl (by kernel_rfl) (by kernel_rfl) (by kernel_rfl) (by kernel_rfl) (by kernel_rfl) rfl trivial (fun _ _ _ h => h) hM (fun w hC => r_build hl rfl zero113 bld113 (by simp only [fillL, setL, List.getElem?_cons_zero, List.getElem?_cons_succ, Value.cells, List.take_zero, List.take_succ_cons, List.take_nil, List.drop_zero, List.drop_succ_cons, List.drop_nil, List.length_cons, List.length_nil, List.cons_append, List.nil_append, List.append_nil, Nat.zero_add, Nat.add_zero, Nat.reduceAdd, Nat.reduceBEq, Nat.reduceEqDiff, Nat.ble, BEq.rfl, Bool.and_true, Bool.and_self, cond_true, beq_self_eq_true]; rfl)) rfl ?_
                        clear hl a; intro a hl
                        refine d_one (i := 15) (by kernel_rfl) rfl ?_
                        try clear hM
                        refine id (w_call hl hh rfl trivial rfl cal19 rfl (hfd) (by repeat (first | exact keeps_nil | apply keeps_cons (by repeat (first | exact find_head | apply find_tail | apply find_skip)) (by first  | rfl) | exact keeps_self | exact keeps_left | apply keeps_app | apply keeps_mv | apply keeps_skip)) trivial ?_)
                        clear hl hh a w; intro vc Fc a w hR hl hh
                        obtain ⟨rfl, hSO⟩ := hR
                        try simp only [List.cons_append, List.nil_append, List.append_assoc, List.append_nil] at hh
                        refine d_step (fun h => absurd h (by decide)) ?_
                        refine d_takeL (i := 16) hl rfl (by kernel_rfl) (by kernel_rfl) (by kernel_rfl) (by kernel_rfl) (by kernel_rfl) rfl trivial (fun _ _ _ h => h) (fun w => r_assign hl rfl) rfl ?_
                        clear hl a; intro a hl
                        refine d_done (by kernel_rfl) ?_
                        try clear hM
                        have hl2 := hl.add (t := 6) (hl.nil) rfl; clear hl; have hl := hl2; clear hl2
                        refine then_normal ?_
                        refine wp_ret ?_
                        refine blk_ret ?_
                        refine then_ret ?_
                        first
                        | (have hq := hSO; refine f_ret1 (F' := Fc) hl hh rfl rfl (by first | exact keeps_left | exact keeps_self) ?_; exact ⟨rfl, hSO⟩)
                        | (refine f_ret1 (F' := Fx ++ ((wb, C W.c 55) :: (W.tE ++ (W.gE ++ (DsF W.ds ++ WoV.GF W Z))))) hl hh rfl rfl (by repeat (first | exact keeps_nil | apply keeps_cons (by repeat (first | exact find_head | apply find_tail | apply find_skip)) (by first  | rfl) | exact keeps_self | exact keeps_left | apply keeps_app | apply keeps_mv | apply keeps_skip)) ?_; exact StepO.same hW (Q.jk hJ) hn hMx rfl)
                      · intro hc11
                        try simp only [decide_eq_true_eq, decide_eq_false_iff_not, Bool.not_eq_true', Bool.not_eq_false', Bool.not_eq_true, Bool.not_eq_false, Bool.and_eq_true, Bool.or_eq_true, Bool.and_eq_false_iff, Bool.or_eq_false_iff, Bool.not_not, ne_eq, Int.not_lt, Int.not_le, Decidable.not_not, beq_iff_eq, bne_iff_ne] at hc11
                        refine wp_skip ?_
                        refine blk_normal ?_
                        refine then_normal ?_
                        refine c_seq ?_
                        refine c_region ?_
                        refine wl (wl_val hl rfl trivial (r_assign hl rfl) ?_)
                        clear hl a; intro a hl
                        refine w_nil ?_
                        have hl2 := hl.add (t := 6) (hl.nil) rfl; clear hl; have hl := hl2; clear hl2
                        refine then_normal ?_
                        refine wp_ret ?_
                        first
                        | (have hq := hSO; refine f_ret1 (F' := Fc) hl hh rfl rfl (by first | exact keeps_left | exact keeps_self) ?_; exact ⟨rfl, hSO⟩)
                        | (refine f_ret1 (F' := Fx ++ ((wb, C W.c 55) :: (W.tE ++ (W.gE ++ (DsF W.ds ++ WoV.GF W Z))))) hl hh rfl rfl (by repeat (first | exact keeps_nil | apply keeps_cons (by repeat (first | exact find_head | apply find_tail | apply find_skip)) (by first  | rfl) | exact keeps_self | exact keeps_left | apply keeps_app | apply keeps_mv | apply keeps_skip)) ?_; exact StepO.same hW (Q.jk hJ) hn hMx rfl)
                    · intro hc10
                      try simp only [decide_eq_true_eq, decide_eq_false_iff_not, Bool.not_eq_true', Bool.not_eq_false', Bool.not_eq_true, Bool.not_eq_false, Bool.and_eq_true, Bool.or_eq_true, Bool.and_eq_false_iff, Bool.or_eq_false_iff, Bool.not_not, ne_eq, Int.not_lt, Int.not_le, Decidable.not_not, beq_iff_eq, bne_iff_ne] at hc10
                      exfalso; first | contradiction | omega

set_option maxHeartbeats 8000000 in
theorem step_lose0 {lb wb : Nat} (L : LawM lb wb) (Q : LawJ L) (Z : List (Nat × Obj)) (W : WoV) (hW : W.ok Z) (n : Nat) (hn9 : n + 200 < 1000000000) (x : L.X) (Fx : List (Nat × Obj)) (hMx : L.M Z x Fx) (hJ : Q.J (W.pl [] []) x) (hn : WI n (W.pl [] [])) (o : OpP) (p : Option Addr) (cap : Nat) (ho : OpOk Z o p cap) (hk : o.k = 8) (hb : oddP o.B = false) : Sp Tryz.prog 12 #[.pointer (some ⟨wb, 0, none⟩), .agg ⟨opC o p cap⟩, Lw L.T lb] (Fx ++ WoV.F wb W Z) (fun v F' => StepO Q Z n v F') := by
  refine f_enter (args := [.pointer (some ⟨wb, 0, none⟩), .agg ⟨[.int .u8 o.k, .int .i64 o.A, .int .i64 o.B, .slice p o.tx.length cap, .int .u8 o.m.k, .int .u8 o.m.d, .int .u32 o.m.e, .int .u32 o.m.b, .bool o.m.y, .int .u32 o.m.r, .int .u32 o.m.s, .string o.m.t, .int .u8 o.v.k, .int .u8 o.v.a, .int .u8 o.v.b, .int .u8 o.v.w, .int .u8 o.v.da, .int .u8 o.v.dl]⟩, .iface L.T (.pointer (some ⟨lb, 0, none⟩))]) Tryz.func12 rfl Tryz.ntmps12 rfl ?_
  intro w0 w a hpre hl hh
  generalize hDD : List.map Prod.fst (Fx ++ WoV.F wb W Z) = D at hh ⊢
  simp only [WoV.F] at hh
  have hct := wc_td W hW.dl
  have hcr := wc_tg W hW.dl
  have hch := wc_hn W hW.dl
  have hcl := wc_led W
  have hwl := wc_len W hW.dl
  have ho1 := ho.k
  have ho2 := ho.A
  have ho3 := ho.B
  have htl := hW.tl
  have hrl := hW.rl
  
  simp only [slotsFrom, Nat.reduceAdd] at hl
  refine c_seq ?_
  refine c_region ?_
  refine wl (w_box hl hh rfl trivial rfl rfl ?_)
  clear hl hh a w; intro k4 a w hl hh
  refine wl (wl_val hl rfl trivial (r_assign hl rfl) ?_)
  clear hl a; intro a hl
  refine w_nil ?_
  have hl2 := hl.add (t := 0) (hl.add (t := 2) (hl.add (t := 4) (hl.nil) rfl) rfl) rfl; clear hl; have hl := hl2; clear hl2
  refine then_normal ?_
  refine c_seq ?_
  refine c_region ?_
  refine wl (wl_val hl rfl trivial (r_move hl rfl) ?_)
  clear hl a; intro a hl
  refine wl (wl_val hl rfl trivial (r_nilCheck hl rfl) ?_)
  clear hl a; intro a hl
  refine wl (wl_val hl rfl trivial (r_field hl rfl fld55_3) ?_)
  clear hl a; intro a hl
  refine wl (wl_val hl rfl trivial (r_assign hl rfl) ?_)
  clear hl a; intro a hl
  refine w_nil ?_
  have hl2 := hl.add (t := 0) (hl.add (t := 2) (hl.add (t := 4) (hl.add (t := 7) (hl.nil) rfl) rfl) rfl) rfl; clear hl; have hl := hl2; clear hl2
  refine then_normal ?_
  refine c_seq ?_
  refine c_seq ?_
  refine c_region ?_
  refine wl (wl_val hl rfl trivial (r_field hl rfl fld45_2) ?_)
  clear hl a; intro a hl
  refine wl (w_load hl hh rfl trivial one3 rfl (by repeat (first | exact find_head | apply find_tail | apply find_skip)) (by first | exact hct | exact hcr | exact hch | exact hcl | rfl) ?_)
  clear hl a; intro a hl
  refine wl (w_call hl hh rfl trivial rfl cal18 rfl (odd_spec _ (by omega)) (by repeat (first | exact keeps_nil | apply keeps_cons (by repeat (first | exact find_head | apply find_tail | apply find_skip)) (by first  | rfl) | exact keeps_self | exact keeps_left | apply keeps_app | apply keeps_mv | apply keeps_skip)) trivial ?_)
  clear hl hh a w; intro vc Fc a w hR hl hh
  obtain ⟨rfl, rfl⟩ := hR
  try simp only [List.cons_append, List.nil_append, List.append_assoc, List.append_nil] at hh
  refine w_nil ?_
  have hl2 := hl.add (t := 0) (hl.add (t := 2) (hl.add (t := 4) (hl.add (t := 7) (hl.add (t := 13) (hl.nil) rfl) rfl) rfl) rfl) rfl; clear hl; have hl := hl2; clear hl2
  refine then_normal ?_
  refine c_cond hl rfl ?_ ?_
  · intro hc0
    try simp only [decide_eq_true_eq, decide_eq_false_iff_not, Bool.not_eq_true', Bool.not_eq_false', Bool.not_eq_true, Bool.not_eq_false, Bool.and_eq_true, Bool.or_eq_true, Bool.and_eq_false_iff, Bool.or_eq_false_iff, Bool.not_not, ne_eq, Int.not_lt, Int.not_le, Decidable.not_not, beq_iff_eq, bne_iff_ne] at hc0
    exfalso; first | contradiction | omega | (rw [hb] at hc0; simp at hc0)
  · intro hc0
    try simp only [decide_eq_true_eq, decide_eq_false_iff_not, Bool.not_eq_true', Bool.not_eq_false', Bool.not_eq_true, Bool.not_eq_false, Bool.and_eq_true, Bool.or_eq_true, Bool.and_eq_false_iff, Bool.or_eq_false_iff, Bool.not_not, ne_eq, Int.not_lt, Int.not_le, Decidable.not_not, beq_iff_eq, bne_iff_ne] at hc0
    refine wp_skip ?_
    refine then_normal ?_
    refine c_seq ?_
    refine c_seq ?_
    refine c_region ?_
    refine wl (wl_val hl rfl trivial (r_field hl rfl fld45_0) ?_)
    clear hl a; intro a hl
    refine wl (w_load hl hh rfl trivial one33 rfl (by repeat (first | exact find_head | apply find_tail | apply find_skip)) (by first | exact hct | exact hcr | exact hch | exact hcl | rfl) ?_)
    clear hl a; intro a hl
    refine w_nil ?_
    have hl2 := hl.add (t := 0) (hl.add (t := 2) (hl.add (t := 4) (hl.add (t := 7) (hl.add (t := 18) (hl.nil) rfl) rfl) rfl) rfl) rfl; clear hl; have hl := hl2; clear hl2
    refine then_normal ?_
    refine wp_block ?_
    refine c_seq ?_
    refine c_region ?_
    refine wl (wl_val hl rfl trivial (r_eql hl rfl rfl) ?_)
    clear hl a; intro a hl
    refine wl (wl_val hl rfl trivial (r_assign hl rfl) ?_)
    clear hl a; intro a hl
    refine w_nil ?_
    have hl2 := hl.add (t := 0) (hl.add (t := 2) (hl.add (t := 4) (hl.add (t := 7) (hl.add (t := 18) (hl.add (t := 19) (hl.nil) rfl) rfl) rfl) rfl) rfl) rfl; clear hl; have hl := hl2; clear hl2
    refine then_normal ?_
    refine c_cond hl rfl ?_ ?_
    · intro hc1
      try simp only [decide_eq_true_eq, decide_eq_false_iff_not, Bool.not_eq_true', Bool.not_eq_false', Bool.not_eq_true, Bool.not_eq_false, Bool.and_eq_true, Bool.or_eq_true, Bool.and_eq_false_iff, Bool.or_eq_false_iff, Bool.not_not, ne_eq, Int.not_lt, Int.not_le, Decidable.not_not, beq_iff_eq, bne_iff_ne] at hc1
      exfalso; first | contradiction | omega | (rw [hb] at hc0; simp at hc0)
    · intro hc1
      try simp only [decide_eq_true_eq, decide_eq_false_iff_not, Bool.not_eq_true', Bool.not_eq_false', Bool.not_eq_true, Bool.not_eq_false, Bool.and_eq_true, Bool.or_eq_true, Bool.and_eq_false_iff, Bool.or_eq_false_iff, Bool.not_not, ne_eq, Int.not_lt, Int.not_le, Decidable.not_not, beq_iff_eq, bne_iff_ne] at hc1
      refine c_seq ?_
      refine c_seq ?_
      refine c_region ?_
      refine wl (wl_val hl rfl trivial (r_eql hl rfl rfl) ?_)
      clear hl a; intro a hl
      refine wl (wl_val hl rfl trivial (r_assign hl rfl) ?_)
      clear hl a; intro a hl
      refine w_nil ?_
      have hl2 := hl.add (t := 0) (hl.add (t := 2) (hl.add (t := 4) (hl.add (t := 7) (hl.add (t := 18) (hl.add (t := 27) (hl.nil) rfl) rfl) rfl) rfl) rfl) rfl; clear hl; have hl := hl2; clear hl2
      refine then_normal ?_
      refine c_cond hl rfl ?_ ?_
      · intro hc2
        try simp only [decide_eq_true_eq, decide_eq_false_iff_not, Bool.not_eq_true', Bool.not_eq_false', Bool.not_eq_true, Bool.not_eq_false, Bool.and_eq_true, Bool.or_eq_true, Bool.and_eq_false_iff, Bool.or_eq_false_iff, Bool.not_not, ne_eq, Int.not_lt, Int.not_le, Decidable.not_not, beq_iff_eq, bne_iff_ne] at hc2
        exfalso; first | contradiction | omega | (rw [hb] at hc0; simp at hc0)
      · intro hc2
        try simp only [decide_eq_true_eq, decide_eq_false_iff_not, Bool.not_eq_true', Bool.not_eq_false', Bool.not_eq_true, Bool.not_eq_false, Bool.and_eq_true, Bool.or_eq_true, Bool.and_eq_false_iff, Bool.or_eq_false_iff, Bool.not_not, ne_eq, Int.not_lt, Int.not_le, Decidable.not_not, beq_iff_eq, bne_iff_ne] at hc2
        refine c_region ?_
        refine wl (wl_val hl rfl trivial (r_eql hl rfl rfl) ?_)
        clear hl a; intro a hl
        refine wl (wl_val hl rfl trivial (r_assign hl rfl) ?_)
        clear hl a; intro a hl
        refine w_nil ?_
        have hl2 := hl.add (t := 0) (hl.add (t := 2) (hl.add (t := 4) (hl.add (t := 7) (hl.add (t := 18) (hl.add (t := 27) (hl.nil) rfl) rfl) rfl) rfl) rfl) rfl; clear hl; have hl := hl2; clear hl2
        refine then_normal ?_
        refine c_cond hl rfl ?_ ?_
        · intro hc3
          try simp only [decide_eq_true_eq, decide_eq_false_iff_not, Bool.not_eq_true', Bool.not_eq_false', Bool.not_eq_true, Bool.not_eq_false, Bool.and_eq_true, Bool.or_eq_true, Bool.and_eq_false_iff, Bool.or_eq_false_iff, Bool.not_not, ne_eq, Int.not_lt, Int.not_le, Decidable.not_not, beq_iff_eq, bne_iff_ne] at hc3
          exfalso; first | contradiction | omega | (rw [hb] at hc0; simp at hc0)
        · intro hc3
          try simp only [decide_eq_true_eq, decide_eq_false_iff_not, Bool.not_eq_true', Bool.not_eq_false', Bool.not_eq_true, Bool.not_eq_false, Bool.and_eq_true, Bool.or_eq_true, Bool.and_eq_false_iff, Bool.or_eq_false_iff, Bool.not_not, ne_eq, Int.not_lt, Int.not_le, Decidable.not_not, beq_iff_eq, bne_iff_ne] at hc3
          refine c_seq ?_
          refine c_seq ?_
          refine c_region ?_
          refine wl (wl_val hl rfl trivial (r_eql hl rfl rfl) ?_)
          clear hl a; intro a hl
          refine wl (wl_val hl rfl trivial (r_assign hl rfl) ?_)
          clear hl a; intro a hl
          refine w_nil ?_
          have hl2 := hl.add (t := 0) (hl.add (t := 2) (hl.add (t := 4) (hl.add (t := 7) (hl.add (t := 18) (hl.add (t := 39) (hl.nil) rfl) rfl) rfl) rfl) rfl) rfl; clear hl; have hl := hl2; clear hl2
          refine then_normal ?_
          refine c_cond hl rfl ?_ ?_
          · intro hc4
            try simp only [decide_eq_true_eq, decide_eq_false_iff_not, Bool.not_eq_true', Bool.not_eq_false', Bool.not_eq_true, Bool.not_eq_false, Bool.and_eq_true, Bool.or_eq_true, Bool.and_eq_false_iff, Bool.or_eq_false_iff, Bool.not_not, ne_eq, Int.not_lt, Int.not_le, Decidable.not_not, beq_iff_eq, bne_iff_ne] at hc4
            exfalso; first | contradiction | omega | (rw [hb] at hc0; simp at hc0)
          · intro hc4
            try simp only [decide_eq_true_eq, decide_eq_false_iff_not, Bool.not_eq_true', Bool.not_eq_false', Bool.not_eq_true, Bool.not_eq_false, Bool.and_eq_true, Bool.or_eq_true, Bool.and_eq_false_iff, Bool.or_eq_false_iff, Bool.not_not, ne_eq, Int.not_lt, Int.not_le, Decidable.not_not, beq_iff_eq, bne_iff_ne] at hc4
            refine c_region ?_
            refine wl (wl_val hl rfl trivial (r_eql hl rfl rfl) ?_)
            clear hl a; intro a hl
            refine wl (wl_val hl rfl trivial (r_assign hl rfl) ?_)
            clear hl a; intro a hl
            refine w_nil ?_
            have hl2 := hl.add (t := 0) (hl.add (t := 2) (hl.add (t := 4) (hl.add (t := 7) (hl.add (t := 18) (hl.add (t := 39) (hl.nil) rfl) rfl) rfl) rfl) rfl) rfl; clear hl; have hl := hl2; clear hl2
            refine then_normal ?_
            refine c_cond hl rfl ?_ ?_
            · intro hc5
              try simp only [decide_eq_true_eq, decide_eq_false_iff_not, Bool.not_eq_true', Bool.not_eq_false', Bool.not_eq_true, Bool.not_eq_false, Bool.and_eq_true, Bool.or_eq_true, Bool.and_eq_false_iff, Bool.or_eq_false_iff, Bool.not_not, ne_eq, Int.not_lt, Int.not_le, Decidable.not_not, beq_iff_eq, bne_iff_ne] at hc5
              exfalso; first | contradiction | omega | (rw [hb] at hc0; simp at hc0)
            · intro hc5
              try simp only [decide_eq_true_eq, decide_eq_false_iff_not, Bool.not_eq_true', Bool.not_eq_false', Bool.not_eq_true, Bool.not_eq_false, Bool.and_eq_true, Bool.or_eq_true, Bool.and_eq_false_iff, Bool.or_eq_false_iff, Bool.not_not, ne_eq, Int.not_lt, Int.not_le, Decidable.not_not, beq_iff_eq, bne_iff_ne] at hc5
              refine c_seq ?_
              refine c_region ?_
              refine wl (wl_val hl rfl trivial (r_eql hl rfl rfl) ?_)
              clear hl a; intro a hl
              refine wl (wl_val hl rfl trivial (r_assign hl rfl) ?_)
              clear hl a; intro a hl
              refine w_nil ?_
              have hl2 := hl.add (t := 0) (hl.add (t := 2) (hl.add (t := 4) (hl.add (t := 7) (hl.add (t := 18) (hl.add (t := 50) (hl.nil) rfl) rfl) rfl) rfl) rfl) rfl; clear hl; have hl := hl2; clear hl2
              refine then_normal ?_
              refine c_cond hl rfl ?_ ?_
              · intro hc6
                try simp only [decide_eq_true_eq, decide_eq_false_iff_not, Bool.not_eq_true', Bool.not_eq_false', Bool.not_eq_true, Bool.not_eq_false, Bool.and_eq_true, Bool.or_eq_true, Bool.and_eq_false_iff, Bool.or_eq_false_iff, Bool.not_not, ne_eq, Int.not_lt, Int.not_le, Decidable.not_not, beq_iff_eq, bne_iff_ne] at hc6
                exfalso; first | contradiction | omega | (rw [hb] at hc0; simp at hc0)
              · intro hc6
                try simp only [decide_eq_true_eq, decide_eq_false_iff_not, Bool.not_eq_true', Bool.not_eq_false', Bool.not_eq_true, Bool.not_eq_false, Bool.and_eq_true, Bool.or_eq_true, Bool.and_eq_false_iff, Bool.or_eq_false_iff, Bool.not_not, ne_eq, Int.not_lt, Int.not_le, Decidable.not_not, beq_iff_eq, bne_iff_ne] at hc6
                refine c_seq ?_
                refine c_region ?_
                refine wl (wl_val hl rfl trivial (r_eql hl rfl rfl) ?_)
                clear hl a; intro a hl
                refine wl (wl_val hl rfl trivial (r_assign hl rfl) ?_)
                clear hl a; intro a hl
                refine w_nil ?_
                have hl2 := hl.add (t := 0) (hl.add (t := 2) (hl.add (t := 4) (hl.add (t := 7) (hl.add (t := 18) (hl.add (t := 62) (hl.nil) rfl) rfl) rfl) rfl) rfl) rfl; clear hl; have hl := hl2; clear hl2
                refine then_normal ?_
                refine c_cond hl rfl ?_ ?_
                · intro hc7
                  try simp only [decide_eq_true_eq, decide_eq_false_iff_not, Bool.not_eq_true', Bool.not_eq_false', Bool.not_eq_true, Bool.not_eq_false, Bool.and_eq_true, Bool.or_eq_true, Bool.and_eq_false_iff, Bool.or_eq_false_iff, Bool.not_not, ne_eq, Int.not_lt, Int.not_le, Decidable.not_not, beq_iff_eq, bne_iff_ne] at hc7
                  exfalso; first | contradiction | omega | (rw [hb] at hc0; simp at hc0)
                · intro hc7
                  try simp only [decide_eq_true_eq, decide_eq_false_iff_not, Bool.not_eq_true', Bool.not_eq_false', Bool.not_eq_true, Bool.not_eq_false, Bool.and_eq_true, Bool.or_eq_true, Bool.and_eq_false_iff, Bool.or_eq_false_iff, Bool.not_not, ne_eq, Int.not_lt, Int.not_le, Decidable.not_not, beq_iff_eq, bne_iff_ne] at hc7
                  refine c_seq ?_
                  refine c_region ?_
                  refine wl (wl_val hl rfl trivial (r_eql hl rfl rfl) ?_)
                  clear hl a; intro a hl
                  refine wl (wl_val hl rfl trivial (r_assign hl rfl) ?_)
                  clear hl a; intro a hl
                  refine w_nil ?_
                  have hl2 := hl.add (t := 0) (hl.add (t := 2) (hl.add (t := 4) (hl.add (t := 7) (hl.add (t := 18) (hl.add (t := 68) (hl.nil) rfl) rfl) rfl) rfl) rfl) rfl; clear hl; have hl := hl2; clear hl2
                  refine then_normal ?_
                  refine c_cond hl rfl ?_ ?_
                  · intro hc8
                    try simp only [decide_eq_true_eq, decide_eq_false_iff_not, Bool.not_eq_true', Bool.not_eq_false', Bool.not_eq_true, Bool.not_eq_false, Bool.and_eq_true, Bool.or_eq_true, Bool.and_eq_false_iff, Bool.or_eq_false_iff, Bool.not_not, ne_eq, Int.not_lt, Int.not_le, Decidable.not_not, beq_iff_eq, bne_iff_ne] at hc8
                    exfalso; first | contradiction | omega | (rw [hb] at hc0; simp at hc0)
                  · intro hc8
                    try simp only [decide_eq_true_eq, decide_eq_false_iff_not, Bool.not_eq_true', Bool.not_eq_false', Bool.not_eq_true, Bool.not_eq_false, Bool.and_eq_true, Bool.or_eq_true, Bool.and_eq_false_iff, Bool.or_eq_false_iff, Bool.not_not, ne_eq, Int.not_lt, Int.not_le, Decidable.not_not, beq_iff_eq, bne_iff_ne] at hc8
                    refine c_seq ?_
                    refine c_region ?_
                    refine wl (wl_val hl rfl trivial (r_eql hl rfl rfl) ?_)
                    clear hl a; intro a hl
                    refine wl (wl_val hl rfl trivial (r_assign hl rfl) ?_)
                    clear hl a; intro a hl
                    refine w_nil ?_
                    have hl2 := hl.add (t := 0) (hl.add (t := 2) (hl.add (t := 4) (hl.add (t := 7) (hl.add (t := 18) (hl.add (t := 90) (hl.nil) rfl) rfl) rfl) rfl) rfl) rfl; clear hl; have hl := hl2; clear hl2
                    refine then_normal ?_
                    refine c_cond hl rfl ?_ ?_
                    · intro hc10
                      try simp only [decide_eq_true_eq, decide_eq_false_iff_not, Bool.not_eq_true', Bool.not_eq_false', Bool.not_eq_true, Bool.not_eq_false, Bool.and_eq_true, Bool.or_eq_true, Bool.and_eq_false_iff, Bool.or_eq_false_iff, Bool.not_not, ne_eq, Int.not_lt, Int.not_le, Decidable.not_not, beq_iff_eq, bne_iff_ne] at hc10
                      exfalso; first | contradiction | omega | (rw [hb] at hc0; simp at hc0)
                    · intro hc10
                      try simp only [decide_eq_true_eq, decide_eq_false_iff_not, Bool.not_eq_true', Bool.not_eq_false', Bool.not_eq_true, Bool.not_eq_false, Bool.and_eq_true, Bool.or_eq_true, Bool.and_eq_false_iff, Bool.or_eq_false_iff, Bool.not_not, ne_eq, Int.not_lt, Int.not_le, Decidable.not_not, beq_iff_eq, bne_iff_ne] at hc10
                      refine c_seq ?_
                      refine c_region ?_
                      refine wl (wl_val hl rfl trivial (r_eql hl rfl rfl) ?_)
                      clear hl a; intro a hl
                      refine wl (wl_val hl rfl trivial (r_assign hl rfl) ?_)
                      clear hl a; intro a hl
                      refine w_nil ?_
                      have hl2 := hl.add (t := 0) (hl.add (t := 2) (hl.add (t := 4) (hl.add (t := 7) (hl.add (t := 18) (hl.add (t := 114) (hl.nil) rfl) rfl) rfl) rfl) rfl) rfl; clear hl; have hl := hl2; clear hl2
                      refine then_normal ?_
                      refine c_cond hl rfl ?_ ?_
                      · intro hc12
                        try simp only [decide_eq_true_eq, decide_eq_false_iff_not, Bool.not_eq_true', Bool.not_eq_false', Bool.not_eq_true, Bool.not_eq_false, Bool.and_eq_true, Bool.or_eq_true, Bool.and_eq_false_iff, Bool.or_eq_false_iff, Bool.not_not, ne_eq, Int.not_lt, Int.not_le, Decidable.not_not, beq_iff_eq, bne_iff_ne] at hc12
                        refine c_seq ?_
                        refine c_region ?_
                        refine wl (wl_val hl rfl trivial (r_move hl rfl) ?_)
                        clear hl a; intro a hl
                        refine wl (wl_val hl rfl trivial (r_nilCheck hl rfl) ?_)
                        clear hl a; intro a hl
                        refine wl (w_load hl hh rfl trivial one53 rfl (by repeat (first | exact find_head | apply find_tail | apply find_skip)) (by first | exact hct | exact hcr | exact hch | exact hcl | rfl) ?_)
                        clear hl a; intro a hl
                        refine wl (wl_val hl rfl trivial (r_lenS hl rfl slc53) ?_)
                        clear hl a; intro a hl
                        refine wl (wl_val hl rfl trivial (r_gtr hl rfl rfl) ?_)
                        clear hl a; intro a hl
                        refine w_nil ?_
                        have hl2 := hl.add (t := 4) (hl.add (t := 7) (hl.add (t := 120) (hl.nil) rfl) rfl) rfl; clear hl; have hl := hl2; clear hl2
                        refine then_normal ?_
                        refine c_cond hl rfl ?_ ?_
                        · intro hc13
                          try simp only [decide_eq_true_eq, decide_eq_false_iff_not, Bool.not_eq_true', Bool.not_eq_false', Bool.not_eq_true, Bool.not_eq_false, Bool.and_eq_true, Bool.or_eq_true, Bool.and_eq_false_iff, Bool.or_eq_false_iff, Bool.not_not, ne_eq, Int.not_lt, Int.not_le, Decidable.not_not, beq_iff_eq, bne_iff_ne] at hc13
                          refine c_draw [(k4, C [.int .u8 o.k, .int .i64 o.A, .int .i64 o.B, .slice p o.tx.length cap, .int .u8 o.m.k, .int .u8 o.m.d, .int .u32 o.m.e, .int .u32 o.m.b, .bool o.m.y, .int .u32 o.m.r, .int .u32 o.m.s, .string o.m.t, .int .u8 o.v.k, .int .u8 o.v.a, .int .u8 o.v.b, .int .u8 o.v.w, .int .u8 o.v.da, .int .u8 o.v.dl] 45)] [8] mixed hh ?_
                          clear hh w; intro w hh
                          have hM : Mem [(k4, C [.int .u8 o.k, .int .i64 o.A, .int .i64 o.B, .slice p o.tx.length cap, .int .u8 o.m.k, .int .u8 o.m.d, .int .u32 o.m.e, .int .u32 o.m.b, .bool o.m.y, .int .u32 o.m.r, .int .u32 o.m.s, .string o.m.t, .int .u8 o.v.k, .int .u8 o.v.a, .int .u8 o.v.b, .int .u8 o.v.w, .int .u8 o.v.da, .int .u8 o.v.dl] 45)] w := (memK hh (by repeat (first | exact keeps_nil | apply keeps_cons (by repeat (first | exact find_head | apply find_tail | apply find_skip)) (by first  | rfl) | exact keeps_self | exact keeps_left | apply keeps_app | apply keeps_mv | apply keeps_skip)))
                          refine d_take (i := 0) hl rfl (by kernel_rfl) (by kernel_rfl) (by kernel_rfl) (by kernel_rfl) (by kernel_rfl) rfl trivial (fun _ _ _ h => h) hM (fun w hC => r_move hl rfl) rfl ?_
                          clear hl a; intro a hl
                          refine d_take (i := 1) hl rfl (by kernel_rfl) (by kernel_rfl) (by kernel_rfl) (by kernel_rfl) (by kernel_rfl) rfl trivial (fun _ _ _ h => h) hM (fun w hC => r_field hl rfl fld45_1) rfl ?_
                          clear hl a; intro a hl
                          refine d_take (i := 2) hl rfl (by kernel_rfl) (by kernel_rfl) (by kernel_rfl) (by kernel_rfl) (by kernel_rfl) rfl trivial (fun _ _ _ h => h) hM (fun w hC => r_loadC hl rfl one3 hC (by repeat (first | exact find_head | apply find_tail | apply find_skip)) (by first | exact hct | exact hcr | exact hch | exact hcl | rfl)) rfl ?_
                          clear hl a; intro a hl
                          refine d_take (i := 3) hl rfl (by kernel_rfl) (by kernel_rfl) (by kernel_rfl) (by kernel_rfl) (by kernel_rfl) rfl trivial (fun _ _ _ h => h) hM (fun w hC => r_move hl rfl) rfl ?_
                          clear hl a; intro a hl
                          refine d_take (i := 4) hl rfl (by kernel_rfl) (by kernel_rfl) (by kernel_rfl) (by kernel_rfl) (by kernel_rfl) rfl trivial (fun _ _ _ h => h) hM (fun w hC => r_nilCheck hl rfl) rfl ?_
                          clear hl a; intro a hl
                          refine d_one (i := 5) (by kernel_rfl) rfl ?_
                          try clear hM
                          refine id (w_load hl hh rfl trivial one53 rfl (by repeat (first | exact find_head | apply find_tail | apply find_skip)) (by first | exact hct | exact hcr | exact hch | exact hcl | rfl) ?_)
                          clear hl a; intro a hl
                          have hM : Mem [(k4, C [.int .u8 o.k, .int .i64 o.A, .int .i64 o.B, .slice p o.tx.length cap, .int .u8 o.m.k, .int .u8 o.m.d, .int .u32 o.m.e, .int .u32 o.m.b, .bool o.m.y, .int .u32 o.m.r, .int .u32 o.m.s, .string o.m.t, .int .u8 o.v.k, .int .u8 o.v.a, .int .u8 o.v.b, .int .u8 o.v.w, .int .u8 o.v.da, .int .u8 o.v.dl] 45)] w := (memK hh (by repeat (first | exact keeps_nil | apply keeps_cons (by repeat (first | exact find_head | apply find_tail | apply find_skip)) (by first  | rfl) | exact keeps_self | exact keeps_left | apply keeps_app | apply keeps_mv | apply keeps_skip)))
                          refine d_step (fun _ => hM) ?_
                          refine d_take (i := 6) hl rfl (by kernel_rfl) (by kernel_rfl) (by kernel_rfl) (by kernel_rfl) (by kernel_rfl) rfl trivial (fun _ _ _ h => h) hM (fun w hC => r_lenS hl rfl slc53) rfl ?_
                          clear hl a; intro a hl
                          refine d_one (i := 7) (by kernel_rfl) rfl ?_
                          try clear hM
                          refine id (w_call hl hh rfl trivial rfl cal22 rfl (mod_spec o.A (W.td.length : Int) (by omega) (by omega)) (by repeat (first | exact keeps_nil | apply keeps_cons (by repeat (first | exact find_head | apply find_tail | apply find_skip)) (by first  | rfl) | exact keeps_self | exact keeps_left | apply keeps_app | apply keeps_mv | apply keeps_skip)) trivial ?_)
                          clear hl hh a w; intro vc Fc a w hR hl hh
                          obtain ⟨rfl, rfl⟩ := hR
                          try simp only [List.cons_append, List.nil_append, List.append_assoc, List.append_nil] at hh
                          obtain ⟨i9, hi9, hi8⟩ := mod_nat o.A (show 0 < W.td.length by omega)
                          rw [hi9] at hl
                          have hM : Mem [(k4, C [.int .u8 o.k, .int .i64 o.A, .int .i64 o.B, .slice p o.tx.length cap, .int .u8 o.m.k, .int .u8 o.m.d, .int .u32 o.m.e, .int .u32 o.m.b, .bool o.m.y, .int .u32 o.m.r, .int .u32 o.m.s, .string o.m.t, .int .u8 o.v.k, .int .u8 o.v.a, .int .u8 o.v.b, .int .u8 o.v.w, .int .u8 o.v.da, .int .u8 o.v.dl] 45)] w := (memK hh (by repeat (first | exact keeps_nil | apply keeps_cons (by repeat (first | exact find_head | apply find_tail | apply find_skip)) (by first  | rfl) | exact keeps_self | exact keeps_left | apply keeps_app | apply keeps_mv | apply keeps_skip)))
                          refine d_step (fun _ => hM) ?_
                          refine d_one (i := 8) (by kernel_rfl) rfl ?_
                          try clear hM
                          refine id (w_call hl hh rfl trivial rfl cal21 rfl (take_spec wb W.c (0 + 18) W.td W.tp W.tc W.tE hW.t hct hW.tl i9 hi8) (by repeat (first | exact keeps_nil | apply keeps_cons (by repeat (first | exact find_head | apply find_tail | apply find_skip)) (by first  | rfl) | exact keeps_self | exact keeps_left | apply keeps_app | apply keeps_mv | apply keeps_skip)) trivial ?_)
                          clear hl hh a w; intro vc Fc a w hR hl hh
                          obtain ⟨m, p6, c6, E6, hm6, rfl, hR6, rfl⟩ := hR
                          try simp only [List.cons_append, List.nil_append, List.append_assoc, List.append_nil] at hh
                          rw [wc_std W hW.dl p6 _ c6 E6] at hh
                          have hmo := hW.to m (List.mem_of_getElem? hm6)
                          refine d_step (fun h => absurd h (by decide)) ?_
                          refine d_done (by kernel_rfl) ?_
                          try clear hM
                          have hl2 := hl.nil; clear hl; have hl := hl2; clear hl2
                          refine blk_normal ?_
                          refine then_normal ?_
                          refine c_seq ?_
                          refine c_region ?_
                          refine wl (wl_val hl rfl trivial (r_assign hl rfl) ?_)
                          clear hl a; intro a hl
                          refine w_nil ?_
                          have hl2 := hl.add (t := 6) (hl.nil) rfl; clear hl; have hl := hl2; clear hl2
                          refine then_normal ?_
                          refine wp_ret ?_
                          first
                          | (have hq := hR6; refine f_ret1 (F' := Fx ++ ((wb, C (WoV.c { W with td := delP W.td i9, tp := p6, tc := c6, tE := E6 }) 55) :: (E6 ++ (W.gE ++ (DsF W.ds ++ WoV.GF W Z))))) hl hh rfl rfl (by repeat (first | exact keeps_nil | apply keeps_cons (by repeat (first | exact find_head | apply find_tail | apply find_skip)) (by first  | rfl) | exact keeps_self | exact keeps_left | apply keeps_app | apply keeps_mv | apply keeps_skip)) ?_; exact StepO.same (W' := { W with td := delP W.td i9, tp := p6, tc := c6, tE := E6 }) (td_ok hW hR6 (fun m h => del_in0 i9 m (.inl h)) (del_len160 hW.tl i9)) (td_K (Q.jk hJ) (del_in0 i9) p6 c6 E6) (hn.cg rfl rfl) hMx rfl)
                          | (refine f_ret1 (F' := Fx ++ ((wb, C W.c 55) :: (W.tE ++ (W.gE ++ (DsF W.ds ++ WoV.GF W Z))))) hl hh rfl rfl (by repeat (first | exact keeps_nil | apply keeps_cons (by repeat (first | exact find_head | apply find_tail | apply find_skip)) (by first  | rfl) | exact keeps_self | exact keeps_left | apply keeps_app | apply keeps_mv | apply keeps_skip)) ?_; exact StepO.same hW (Q.jk hJ) hn hMx rfl)
                        · intro hc13
                          try simp only [decide_eq_true_eq, decide_eq_false_iff_not, Bool.not_eq_true', Bool.not_eq_false', Bool.not_eq_true, Bool.not_eq_false, Bool.and_eq_true, Bool.or_eq_true, Bool.and_eq_false_iff, Bool.or_eq_false_iff, Bool.not_not, ne_eq, Int.not_lt, Int.not_le, Decidable.not_not, beq_iff_eq, bne_iff_ne] at hc13
                          refine wp_skip ?_
                          refine blk_normal ?_
                          refine then_normal ?_
                          refine c_seq ?_
                          refine c_region ?_
                          refine wl (wl_val hl rfl trivial (r_assign hl rfl) ?_)
                          clear hl a; intro a hl
                          refine w_nil ?_
                          have hl2 := hl.add (t := 6) (hl.nil) rfl; clear hl; have hl := hl2; clear hl2
                          refine then_normal ?_
                          refine wp_ret ?_
                          first
                          | (have hq := hR6; refine f_ret1 (F' := Fx ++ ((wb, C (WoV.c { W with td := delP W.td i9, tp := p6, tc := c6, tE := E6 }) 55) :: (E6 ++ (W.gE ++ (DsF W.ds ++ WoV.GF W Z))))) hl hh rfl rfl (by repeat (first | exact keeps_nil | apply keeps_cons (by repeat (first | exact find_head | apply find_tail | apply find_skip)) (by first  | rfl) | exact keeps_self | exact keeps_left | apply keeps_app | apply keeps_mv | apply keeps_skip)) ?_; exact StepO.same (W' := { W with td := delP W.td i9, tp := p6, tc := c6, tE := E6 }) (td_ok hW hR6 (fun m h => del_in0 i9 m (.inl h)) (del_len160 hW.tl i9)) (td_K (Q.jk hJ) (del_in0 i9) p6 c6 E6) (hn.cg rfl rfl) hMx rfl)
                          | (refine f_ret1 (F' := Fx ++ ((wb, C W.c 55) :: (W.tE ++ (W.gE ++ (DsF W.ds ++ WoV.GF W Z))))) hl hh rfl rfl (by repeat (first | exact keeps_nil | apply keeps_cons (by repeat (first | exact find_head | apply find_tail | apply find_skip)) (by first  | rfl) | exact keeps_self | exact keeps_left | apply keeps_app | apply keeps_mv | apply keeps_skip)) ?_; exact StepO.same hW (Q.jk hJ) hn hMx rfl)
                      · intro hc12
                        try simp only [decide_eq_true_eq, decide_eq_false_iff_not, Bool.not_eq_true', Bool.not_eq_false', Bool.not_eq_true, Bool.not_eq_false, Bool.and_eq_true, Bool.or_eq_true, Bool.and_eq_false_iff, Bool.or_eq_false_iff, Bool.not_not, ne_eq, Int.not_lt, Int.not_le, Decidable.not_not, beq_iff_eq, bne_iff_ne] at hc12
                        exfalso; first | contradiction | omega | (rw [hb] at hc0; simp at hc0)

set_option maxHeartbeats 8000000 in
theorem step_lose1 {lb wb : Nat} (L : LawM lb wb) (Q : LawJ L) (Z : List (Nat × Obj)) (W : WoV) (hW : W.ok Z) (n : Nat) (hn9 : n + 200 < 1000000000) (x : L.X) (Fx : List (Nat × Obj)) (hMx : L.M Z x Fx) (hJ : Q.J (W.pl [] []) x) (hn : WI n (W.pl [] [])) (o : OpP) (p : Option Addr) (cap : Nat) (ho : OpOk Z o p cap) (hk : o.k = 8) (hb : oddP o.B = true) : Sp Tryz.prog 12 #[.pointer (some ⟨wb, 0, none⟩), .agg ⟨opC o p cap⟩, Lw L.T lb] (Fx ++ WoV.F wb W Z) (fun v F' => StepO Q Z n v F') := by
  refine f_enter (args := [.pointer (some ⟨wb, 0, none⟩), .agg ⟨[.int .u8 o.k, .int .i64 o.A, .int .i64 o.B, .slice p o.tx.length cap, .int .u8 o.m.k, .int .u8 o.m.d, .int .u32 o.m.e, .int .u32 o.m.b, .bool o.m.y, .int .u32 o.m.r, .int .u32 o.m.s, .string o.m.t, .int .u8 o.v.k, .int .u8 o.v.a, .int .u8 o.v.b, .int .u8 o.v.w, .int .u8 o.v.da, .int .u8 o.v.dl]⟩, .iface L.T (.pointer (some ⟨lb, 0, none⟩))]) Tryz.func12 rfl Tryz.ntmps12 rfl ?_
  intro w0 w a hpre hl hh
  generalize hDD : List.map Prod.fst (Fx ++ WoV.F wb W Z) = D at hh ⊢
  simp only [WoV.F] at hh
  have hct := wc_td W hW.dl
  have hcr := wc_tg W hW.dl
  have hch := wc_hn W hW.dl
  have hcl := wc_led W
  have hwl := wc_len W hW.dl
  have ho1 := ho.k
  have ho2 := ho.A
  have ho3 := ho.B
  have htl := hW.tl
  have hrl := hW.rl
  
  simp only [slotsFrom, Nat.reduceAdd] at hl
  refine c_seq ?_
  refine c_region ?_
  refine wl (w_box hl hh rfl trivial rfl rfl ?_)
  clear hl hh a w; intro k4 a w hl hh
  refine wl (wl_val hl rfl trivial (r_assign hl rfl) ?_)
  clear hl a; intro a hl
  refine w_nil ?_
  have hl2 := hl.add (t := 0) (hl.add (t := 2) (hl.add (t := 4) (hl.nil) rfl) rfl) rfl; clear hl; have hl := hl2; clear hl2
  refine then_normal ?_
  refine c_seq ?_
  refine c_region ?_
  refine wl (wl_val hl rfl trivial (r_move hl rfl) ?_)
  clear hl a; intro a hl
  refine wl (wl_val hl rfl trivial (r_nilCheck hl rfl) ?_)
  clear hl a; intro a hl
  refine wl (wl_val hl rfl trivial (r_field hl rfl fld55_3) ?_)
  clear hl a; intro a hl
  refine wl (wl_val hl rfl trivial (r_assign hl rfl) ?_)
  clear hl a; intro a hl
  refine w_nil ?_
  have hl2 := hl.add (t := 0) (hl.add (t := 2) (hl.add (t := 4) (hl.add (t := 7) (hl.nil) rfl) rfl) rfl) rfl; clear hl; have hl := hl2; clear hl2
  refine then_normal ?_
  refine c_seq ?_
  refine c_seq ?_
  refine c_region ?_
  refine wl (wl_val hl rfl trivial (r_field hl rfl fld45_2) ?_)
  clear hl a; intro a hl
  refine wl (w_load hl hh rfl trivial one3 rfl (by repeat (first | exact find_head | apply find_tail | apply find_skip)) (by first | exact hct | exact hcr | exact hch | exact hcl | rfl) ?_)
  clear hl a; intro a hl
  refine wl (w_call hl hh rfl trivial rfl cal18 rfl (odd_spec _ (by omega)) (by repeat (first | exact keeps_nil | apply keeps_cons (by repeat (first | exact find_head | apply find_tail | apply find_skip)) (by first  | rfl) | exact keeps_self | exact keeps_left | apply keeps_app | apply keeps_mv | apply keeps_skip)) trivial ?_)
  clear hl hh a w; intro vc Fc a w hR hl hh
  obtain ⟨rfl, rfl⟩ := hR
  try simp only [List.cons_append, List.nil_append, List.append_assoc, List.append_nil] at hh
  refine w_nil ?_
  have hl2 := hl.add (t := 0) (hl.add (t := 2) (hl.add (t := 4) (hl.add (t := 7) (hl.add (t := 13) (hl.nil) rfl) rfl) rfl) rfl) rfl; clear hl; have hl := hl2; clear hl2
  refine then_normal ?_
  refine c_cond hl rfl ?_ ?_
  · intro hc0
    try simp only [decide_eq_true_eq, decide_eq_false_iff_not, Bool.not_eq_true', Bool.not_eq_false', Bool.not_eq_true, Bool.not_eq_false, Bool.and_eq_true, Bool.or_eq_true, Bool.and_eq_false_iff, Bool.or_eq_false_iff, Bool.not_not, ne_eq, Int.not_lt, Int.not_le, Decidable.not_not, beq_iff_eq, bne_iff_ne] at hc0
    refine c_region ?_
    refine wl (wl_val hl rfl trivial (r_move hl rfl) ?_)
    clear hl a; intro a hl
    refine wl (wl_val hl rfl trivial (r_nilCheck hl rfl) ?_)
    clear hl a; intro a hl
    refine wl (wl_val hl rfl trivial (r_field hl rfl fld55_4) ?_)
    clear hl a; intro a hl
    refine wl (wl_val hl rfl trivial (r_assign hl rfl) ?_)
    clear hl a; intro a hl
    refine w_nil ?_
    have hl2 := hl.add (t := 0) (hl.add (t := 2) (hl.add (t := 4) (hl.add (t := 7) (hl.nil) rfl) rfl) rfl) rfl; clear hl; have hl := hl2; clear hl2
    refine then_normal ?_
    refine c_seq ?_
    refine c_seq ?_
    refine c_region ?_
    refine wl (wl_val hl rfl trivial (r_field hl rfl fld45_0) ?_)
    clear hl a; intro a hl
    refine wl (w_load hl hh rfl trivial one33 rfl (by repeat (first | exact find_head | apply find_tail | apply find_skip)) (by first | exact hct | exact hcr | exact hch | exact hcl | rfl) ?_)
    clear hl a; intro a hl
    refine w_nil ?_
    have hl2 := hl.add (t := 0) (hl.add (t := 2) (hl.add (t := 4) (hl.add (t := 7) (hl.add (t := 18) (hl.nil) rfl) rfl) rfl) rfl) rfl; clear hl; have hl := hl2; clear hl2
    refine then_normal ?_
    refine wp_block ?_
    refine c_seq ?_
    refine c_region ?_
    refine wl (wl_val hl rfl trivial (r_eql hl rfl rfl) ?_)
    clear hl a; intro a hl
    refine wl (wl_val hl rfl trivial (r_assign hl rfl) ?_)
    clear hl a; intro a hl
    refine w_nil ?_
    have hl2 := hl.add (t := 0) (hl.add (t := 2) (hl.add (t := 4) (hl.add (t := 7) (hl.add (t := 18) (hl.add (t := 19) (hl.nil) rfl) rfl) rfl) rfl) rfl) rfl; clear hl; have hl := hl2; clear hl2
    refine then_normal ?_
    refine c_cond hl rfl ?_ ?_
    · intro hc1
      try simp only [decide_eq_true_eq, decide_eq_false_iff_not, Bool.not_eq_true', Bool.not_eq_false', Bool.not_eq_true, Bool.not_eq_false, Bool.and_eq_true, Bool.or_eq_true, Bool.and_eq_false_iff, Bool.or_eq_false_iff, Bool.not_not, ne_eq, Int.not_lt, Int.not_le, Decidable.not_not, beq_iff_eq, bne_iff_ne] at hc1
      exfalso; first | contradiction | omega | (rw [hb] at hc0; simp at hc0)
    · intro hc1
      try simp only [decide_eq_true_eq, decide_eq_false_iff_not, Bool.not_eq_true', Bool.not_eq_false', Bool.not_eq_true, Bool.not_eq_false, Bool.and_eq_true, Bool.or_eq_true, Bool.and_eq_false_iff, Bool.or_eq_false_iff, Bool.not_not, ne_eq, Int.not_lt, Int.not_le, Decidable.not_not, beq_iff_eq, bne_iff_ne] at hc1
      refine c_seq ?_
      refine c_seq ?_
      refine c_region ?_
      refine wl (wl_val hl rfl trivial (r_eql hl rfl rfl) ?_)
      clear hl a; intro a hl
      refine wl (wl_val hl rfl trivial (r_assign hl rfl) ?_)
      clear hl a; intro a hl
      refine w_nil ?_
      have hl2 := hl.add (t := 0) (hl.add (t := 2) (hl.add (t := 4) (hl.add (t := 7) (hl.add (t := 18) (hl.add (t := 27) (hl.nil) rfl) rfl) rfl) rfl) rfl) rfl; clear hl; have hl := hl2; clear hl2
      refine then_normal ?_
      refine c_cond hl rfl ?_ ?_
      · intro hc2
        try simp only [decide_eq_true_eq, decide_eq_false_iff_not, Bool.not_eq_true', Bool.not_eq_false', Bool.not_eq_true, Bool.not_eq_false, Bool.and_eq_true, Bool.or_eq_true, Bool.and_eq_false_iff, Bool.or_eq_false_iff, Bool.not_not, ne_eq, Int.not_lt, Int.not_le, Decidable.not_not, beq_iff_eq, bne_iff_ne] at hc2
        exfalso; first | contradiction | omega | (rw [hb] at hc0; simp at hc0)
      · intro hc2
        try simp only [decide_eq_true_eq, decide_eq_false_iff_not, Bool.not_eq_true', Bool.not_eq_false', Bool.not_eq_true, Bool.not_eq_false, Bool.and_eq_true, Bool.or_eq_true, Bool.and_eq_false_iff, Bool.or_eq_false_iff, Bool.not_not, ne_eq, Int.not_lt, Int.not_le, Decidable.not_not, beq_iff_eq, bne_iff_ne] at hc2
        refine c_region ?_
        refine wl (wl_val hl rfl trivial (r_eql hl rfl rfl) ?_)
        clear hl a; intro a hl
        refine wl (wl_val hl rfl trivial (r_assign hl rfl) ?_)
        clear hl a; intro a hl
        refine w_nil ?_
        have hl2 := hl.add (t := 0) (hl.add (t := 2) (hl.add (t := 4) (hl.add (t := 7) (hl.add (t := 18) (hl.add (t := 27) (hl.nil) rfl) rfl) rfl) rfl) rfl) rfl; clear hl; have hl := hl2; clear hl2
        refine then_normal ?_
        refine c_cond hl rfl ?_ ?_
        · intro hc3
          try simp only [decide_eq_true_eq, decide_eq_false_iff_not, Bool.not_eq_true', Bool.not_eq_false', Bool.not_eq_true, Bool.not_eq_false, Bool.and_eq_true, Bool.or_eq_true, Bool.and_eq_false_iff, Bool.or_eq_false_iff, Bool.not_not, ne_eq, Int.not_lt, Int.not_le, Decidable.not_not, beq_iff_eq, bne_iff_ne] at hc3
          exfalso; first | contradiction | omega | (rw [hb] at hc0; simp at hc0)
        · intro hc3
          try simp only [decide_eq_true_eq, decide_eq_false_iff_not, Bool.not_eq_true', Bool.not_eq_false', Bool.not_eq_true, Bool.not_eq_false, Bool.and_eq_true, Bool.or_eq_true, Bool.and_eq_false_iff, Bool.or_eq_false_iff, Bool.not_not, ne_eq, Int.not_lt, Int.not_le, Decidable.not_not, beq_iff_eq, bne_iff_ne] at hc3
          refine c_seq ?_
          refine c_seq ?_
          refine c_region ?_
          refine wl (wl_val hl rfl trivial (r_eql hl rfl rfl) ?_)
          clear hl a; intro a hl
          refine wl (wl_val hl rfl trivial (r_assign hl rfl) ?_)
          clear hl a; intro a hl
          refine w_nil ?_
          have hl2 := hl.add (t := 0) (hl.add (t := 2) (hl.add (t := 4) (hl.add (t := 7) (hl.add (t := 18) (hl.add (t := 39) (hl.nil) rfl) rfl) rfl) rfl) rfl) rfl; clear hl; have hl := hl2; clear hl2
          refine then_normal ?_
          refine c_cond hl rfl ?_ ?_
          · intro hc4
            try simp only [decide_eq_true_eq, decide_eq_false_iff_not, Bool.not_eq_true', Bool.not_eq_false', Bool.not_eq_true, Bool.not_eq_false, Bool.and_eq_true, Bool.or_eq_true, Bool.and_eq_false_iff, Bool.or_eq_false_iff, Bool.not_not, ne_eq, Int.not_lt, Int.not_le, Decidable.not_not, beq_iff_eq, bne_iff_ne] at hc4
            exfalso; first | contradiction | omega | (rw [hb] at hc0; simp at hc0)
          · intro hc4
            try simp only [decide_eq_true_eq, decide_eq_false_iff_not, Bool.not_eq_true', Bool.not_eq_false', Bool.not_eq_true, Bool.not_eq_false, Bool.and_eq_true, Bool.or_eq_true, Bool.and_eq_false_iff, Bool.or_eq_false_iff, Bool.not_not, ne_eq, Int.not_lt, Int.not_le, Decidable.not_not, beq_iff_eq, bne_iff_ne] at hc4
            refine c_region ?_
            refine wl (wl_val hl rfl trivial (r_eql hl rfl rfl) ?_)
            clear hl a; intro a hl
            refine wl (wl_val hl rfl trivial (r_assign hl rfl) ?_)
            clear hl a; intro a hl
            refine w_nil ?_
            have hl2 := hl.add (t := 0) (hl.add (t := 2) (hl.add (t := 4) (hl.add (t := 7) (hl.add (t := 18) (hl.add (t := 39) (hl.nil) rfl) rfl) rfl) rfl) rfl) rfl; clear hl; have hl := hl2; clear hl2
            refine then_normal ?_
            refine c_cond hl rfl ?_ ?_
            · intro hc5
              try simp only [decide_eq_true_eq, decide_eq_false_iff_not, Bool.not_eq_true', Bool.not_eq_false', Bool.not_eq_true, Bool.not_eq_false, Bool.and_eq_true, Bool.or_eq_true, Bool.and_eq_false_iff, Bool.or_eq_false_iff, Bool.not_not, ne_eq, Int.not_lt, Int.not_le, Decidable.not_not, beq_iff_eq, bne_iff_ne] at hc5
              exfalso; first | contradiction | omega | (rw [hb] at hc0; simp at hc0)
            · intro hc5
              try simp only [decide_eq_true_eq, decide_eq_false_iff_not, Bool.not_eq_true', Bool.not_eq_false', Bool.not_eq_true, Bool.not_eq_false, Bool.and_eq_true, Bool.or_eq_true, Bool.and_eq_false_iff, Bool.or_eq_false_iff, Bool.not_not, ne_eq, Int.not_lt, Int.not_le, Decidable.not_not, beq_iff_eq, bne_iff_ne] at hc5
              refine c_seq ?_
              refine c_region ?_
              refine wl (wl_val hl rfl trivial (r_eql hl rfl rfl) ?_)
              clear hl a; intro a hl
              refine wl (wl_val hl rfl trivial (r_assign hl rfl) ?_)
              clear hl a; intro a hl
              refine w_nil ?_
              have hl2 := hl.add (t := 0) (hl.add (t := 2) (hl.add (t := 4) (hl.add (t := 7) (hl.add (t := 18) (hl.add (t := 50) (hl.nil) rfl) rfl) rfl) rfl) rfl) rfl; clear hl; have hl := hl2; clear hl2
              refine then_normal ?_
              refine c_cond hl rfl ?_ ?_
              · intro hc6
                try simp only [decide_eq_true_eq, decide_eq_false_iff_not, Bool.not_eq_true', Bool.not_eq_false', Bool.not_eq_true, Bool.not_eq_false, Bool.and_eq_true, Bool.or_eq_true, Bool.and_eq_false_iff, Bool.or_eq_false_iff, Bool.not_not, ne_eq, Int.not_lt, Int.not_le, Decidable.not_not, beq_iff_eq, bne_iff_ne] at hc6
                exfalso; first | contradiction | omega | (rw [hb] at hc0; simp at hc0)
              · intro hc6
                try simp only [decide_eq_true_eq, decide_eq_false_iff_not, Bool.not_eq_true', Bool.not_eq_false', Bool.not_eq_true, Bool.not_eq_false, Bool.and_eq_true, Bool.or_eq_true, Bool.and_eq_false_iff, Bool.or_eq_false_iff, Bool.not_not, ne_eq, Int.not_lt, Int.not_le, Decidable.not_not, beq_iff_eq, bne_iff_ne] at hc6
                refine c_seq ?_
                refine c_region ?_
                refine wl (wl_val hl rfl trivial (r_eql hl rfl rfl) ?_)
                clear hl a; intro a hl
                refine wl (wl_val hl rfl trivial (r_assign hl rfl) ?_)
                clear hl a; intro a hl
                refine w_nil ?_
                have hl2 := hl.add (t := 0) (hl.add (t := 2) (hl.add (t := 4) (hl.add (t := 7) (hl.add (t := 18) (hl.add (t := 62) (hl.nil) rfl) rfl) rfl) rfl) rfl) rfl; clear hl; have hl := hl2; clear hl2
                refine then_normal ?_
                refine c_cond hl rfl ?_ ?_
                · intro hc7
                  try simp only [decide_eq_true_eq, decide_eq_false_iff_not, Bool.not_eq_true', Bool.not_eq_false', Bool.not_eq_true, Bool.not_eq_false, Bool.and_eq_true, Bool.or_eq_true, Bool.and_eq_false_iff, Bool.or_eq_false_iff, Bool.not_not, ne_eq, Int.not_lt, Int.not_le, Decidable.not_not, beq_iff_eq, bne_iff_ne] at hc7
                  exfalso; first | contradiction | omega | (rw [hb] at hc0; simp at hc0)
                · intro hc7
                  try simp only [decide_eq_true_eq, decide_eq_false_iff_not, Bool.not_eq_true', Bool.not_eq_false', Bool.not_eq_true, Bool.not_eq_false, Bool.and_eq_true, Bool.or_eq_true, Bool.and_eq_false_iff, Bool.or_eq_false_iff, Bool.not_not, ne_eq, Int.not_lt, Int.not_le, Decidable.not_not, beq_iff_eq, bne_iff_ne] at hc7
                  refine c_seq ?_
                  refine c_region ?_
                  refine wl (wl_val hl rfl trivial (r_eql hl rfl rfl) ?_)
                  clear hl a; intro a hl
                  refine wl (wl_val hl rfl trivial (r_assign hl rfl) ?_)
                  clear hl a; intro a hl
                  refine w_nil ?_
                  have hl2 := hl.add (t := 0) (hl.add (t := 2) (hl.add (t := 4) (hl.add (t := 7) (hl.add (t := 18) (hl.add (t := 68) (hl.nil) rfl) rfl) rfl) rfl) rfl) rfl; clear hl; have hl := hl2; clear hl2
                  refine then_normal ?_
                  refine c_cond hl rfl ?_ ?_
                  · intro hc8
                    try simp only [decide_eq_true_eq, decide_eq_false_iff_not, Bool.not_eq_true', Bool.not_eq_false', Bool.not_eq_true, Bool.not_eq_false, Bool.and_eq_true, Bool.or_eq_true, Bool.and_eq_false_iff, Bool.or_eq_false_iff, Bool.not_not, ne_eq, Int.not_lt, Int.not_le, Decidable.not_not, beq_iff_eq, bne_iff_ne] at hc8
                    exfalso; first | contradiction | omega | (rw [hb] at hc0; simp at hc0)
                  · intro hc8
                    try simp only [decide_eq_true_eq, decide_eq_false_iff_not, Bool.not_eq_true', Bool.not_eq_false', Bool.not_eq_true, Bool.not_eq_false, Bool.and_eq_true, Bool.or_eq_true, Bool.and_eq_false_iff, Bool.or_eq_false_iff, Bool.not_not, ne_eq, Int.not_lt, Int.not_le, Decidable.not_not, beq_iff_eq, bne_iff_ne] at hc8
                    refine c_seq ?_
                    refine c_region ?_
                    refine wl (wl_val hl rfl trivial (r_eql hl rfl rfl) ?_)
                    clear hl a; intro a hl
                    refine wl (wl_val hl rfl trivial (r_assign hl rfl) ?_)
                    clear hl a; intro a hl
                    refine w_nil ?_
                    have hl2 := hl.add (t := 0) (hl.add (t := 2) (hl.add (t := 4) (hl.add (t := 7) (hl.add (t := 18) (hl.add (t := 90) (hl.nil) rfl) rfl) rfl) rfl) rfl) rfl; clear hl; have hl := hl2; clear hl2
                    refine then_normal ?_
                    refine c_cond hl rfl ?_ ?_
                    · intro hc10
                      try simp only [decide_eq_true_eq, decide_eq_false_iff_not, Bool.not_eq_true', Bool.not_eq_false', Bool.not_eq_true, Bool.not_eq_false, Bool.and_eq_true, Bool.or_eq_true, Bool.and_eq_false_iff, Bool.or_eq_false_iff, Bool.not_not, ne_eq, Int.not_lt, Int.not_le, Decidable.not_not, beq_iff_eq, bne_iff_ne] at hc10
                      exfalso; first | contradiction | omega | (rw [hb] at hc0; simp at hc0)
                    · intro hc10
                      try simp only [decide_eq_true_eq, decide_eq_false_iff_not, Bool.not_eq_true', Bool.not_eq_false', Bool.not_eq_true, Bool.not_eq_false, Bool.and_eq_true, Bool.or_eq_true, Bool.and_eq_false_iff, Bool.or_eq_false_iff, Bool.not_not, ne_eq, Int.not_lt, Int.not_le, Decidable.not_not, beq_iff_eq, bne_iff_ne] at hc10
                      refine c_seq ?_
                      refine c_region ?_
                      refine wl (wl_val hl rfl trivial (r_eql hl rfl rfl) ?_)
                      clear hl a; intro a hl
                      refine wl (wl_val hl rfl trivial (r_assign hl rfl) ?_)
                      clear hl a; intro a hl
                      refine w_nil ?_
                      have hl2 := hl.add (t := 0) (hl.add (t := 2) (hl.add (t := 4) (hl.add (t := 7) (hl.add (t := 18) (hl.add (t := 114) (hl.nil) rfl) rfl) rfl) rfl) rfl) rfl; clear hl; have hl := hl2; clear hl2
                      refine then_normal ?_
                      refine c_cond hl rfl ?_ ?_
                      · intro hc12
                        try simp only [decide_eq_true_eq, decide_eq_false_iff_not, Bool.not_eq_true', Bool.not_eq_false', Bool.not_eq_true, Bool.not_eq_false, Bool.and_eq_true, Bool.or_eq_true, Bool.and_eq_false_iff, Bool.or_eq_false_iff, Bool.not_not, ne_eq, Int.not_lt, Int.not_le, Decidable.not_not, beq_iff_eq, bne_iff_ne] at hc12
                        refine c_seq ?_
                        refine c_region ?_
                        refine wl (wl_val hl rfl trivial (r_move hl rfl) ?_)
                        clear hl a; intro a hl
                        refine wl (wl_val hl rfl trivial (r_nilCheck hl rfl) ?_)
                        clear hl a; intro a hl
                        refine wl (w_load hl hh rfl trivial one53 rfl (by repeat (first | exact find_head | apply find_tail | apply find_skip)) (by first | exact hct | exact hcr | exact hch | exact hcl | rfl) ?_)
                        clear hl a; intro a hl
                        refine wl (wl_val hl rfl trivial (r_lenS hl rfl slc53) ?_)
                        clear hl a; intro a hl
                        refine wl (wl_val hl rfl trivial (r_gtr hl rfl rfl) ?_)
                        clear hl a; intro a hl
                        refine w_nil ?_
                        have hl2 := hl.add (t := 4) (hl.add (t := 7) (hl.add (t := 120) (hl.nil) rfl) rfl) rfl; clear hl; have hl := hl2; clear hl2
                        refine then_normal ?_
                        refine c_cond hl rfl ?_ ?_
                        · intro hc13
                          try simp only [decide_eq_true_eq, decide_eq_false_iff_not, Bool.not_eq_true', Bool.not_eq_false', Bool.not_eq_true, Bool.not_eq_false, Bool.and_eq_true, Bool.or_eq_true, Bool.and_eq_false_iff, Bool.or_eq_false_iff, Bool.not_not, ne_eq, Int.not_lt, Int.not_le, Decidable.not_not, beq_iff_eq, bne_iff_ne] at hc13
                          refine c_draw [(k4, C [.int .u8 o.k, .int .i64 o.A, .int .i64 o.B, .slice p o.tx.length cap, .int .u8 o.m.k, .int .u8 o.m.d, .int .u32 o.m.e, .int .u32 o.m.b, .bool o.m.y, .int .u32 o.m.r, .int .u32 o.m.s, .string o.m.t, .int .u8 o.v.k, .int .u8 o.v.a, .int .u8 o.v.b, .int .u8 o.v.w, .int .u8 o.v.da, .int .u8 o.v.dl] 45)] [8] mixed hh ?_
                          clear hh w; intro w hh
                          have hM : Mem [(k4, C [.int .u8 o.k, .int .i64 o.A, .int .i64 o.B, .slice p o.tx.length cap, .int .u8 o.m.k, .int .u8 o.m.d, .int .u32 o.m.e, .int .u32 o.m.b, .bool o.m.y, .int .u32 o.m.r, .int .u32 o.m.s, .string o.m.t, .int .u8 o.v.k, .int .u8 o.v.a, .int .u8 o.v.b, .int .u8 o.v.w, .int .u8 o.v.da, .int .u8 o.v.dl] 45)] w := (memK hh (by repeat (first | exact keeps_nil | apply keeps_cons (by repeat (first | exact find_head | apply find_tail | apply find_skip)) (by first  | rfl) | exact keeps_self | exact keeps_left | apply keeps_app | apply keeps_mv | apply keeps_skip)))
                          refine d_take (i := 0) hl rfl (by kernel_rfl) (by kernel_rfl) (by kernel_rfl) (by kernel_rfl) (by kernel_rfl) rfl trivial (fun _ _ _ h => h) hM (fun w hC => r_move hl rfl) rfl ?_
                          clear hl a; intro a hl
                          refine d_take (i := 1) hl rfl (by kernel_rfl) (by kernel_rfl) (by kernel_rfl) (by kernel_rfl) (by kernel_rfl) rfl trivial (fun _ _ _ h => h) hM (fun w hC => r_field hl rfl fld45_1) rfl ?_
                          clear hl a; intro a hl
                          refine d_take (i := 2) hl rfl (by kernel_rfl) (by kernel_rfl) (by kernel_rfl) (by kernel_rfl) (by kernel_rfl) rfl trivial (fun _ _ _ h => h) hM (fun w hC => r_loadC hl rfl one3 hC (by repeat (first | exact find_head | apply find_tail | apply find_skip)) (by first | exact hct | exact hcr | exact hch | exact hcl | rfl)) rfl ?_
                          clear hl a; intro a hl
                          refine d_take (i := 3) hl rfl (by kernel_rfl) (by kernel_rfl) (by kernel_rfl) (by kernel_rfl) (by kernel_rfl) rfl trivial (fun _ _ _ h => h) hM (fun w hC => r_move hl rfl) rfl ?_
                          clear hl a; intro a hl
                          refine d_take (i := 4) hl rfl (by kernel_rfl) (by kernel_rfl) (by kernel_rfl) (by kernel_rfl) (by kernel_rfl) rfl trivial (fun _ _ _ h => h) hM (fun w hC => r_nilCheck hl rfl) rfl ?_
                          clear hl a; intro a hl
                          refine d_one (i := 5) (by kernel_rfl) rfl ?_
                          try clear hM
                          refine id (w_load hl hh rfl trivial one53 rfl (by repeat (first | exact find_head | apply find_tail | apply find_skip)) (by first | exact hct | exact hcr | exact hch | exact hcl | rfl) ?_)
                          clear hl a; intro a hl
                          have hM : Mem [(k4, C [.int .u8 o.k, .int .i64 o.A, .int .i64 o.B, .slice p o.tx.length cap, .int .u8 o.m.k, .int .u8 o.m.d, .int .u32 o.m.e, .int .u32 o.m.b, .bool o.m.y, .int .u32 o.m.r, .int .u32 o.m.s, .string o.m.t, .int .u8 o.v.k, .int .u8 o.v.a, .int .u8 o.v.b, .int .u8 o.v.w, .int .u8 o.v.da, .int .u8 o.v.dl] 45)] w := (memK hh (by repeat (first | exact keeps_nil | apply keeps_cons (by repeat (first | exact find_head | apply find_tail | apply find_skip)) (by first  | rfl) | exact keeps_self | exact keeps_left | apply keeps_app | apply keeps_mv | apply keeps_skip)))
                          refine d_step (fun _ => hM) ?_
                          refine d_take (i := 6) hl rfl (by kernel_rfl) (by kernel_rfl) (by kernel_rfl) (by kernel_rfl) (by kernel_rfl) rfl trivial (fun _ _ _ h => h) hM (fun w hC => r_lenS hl rfl slc53) rfl ?_
                          clear hl a; intro a hl
                          refine d_one (i := 7) (by kernel_rfl) rfl ?_
                          try clear hM
                          refine id (w_call hl hh rfl trivial rfl cal22 rfl (mod_spec o.A (W.tg.length : Int) (by omega) (by omega)) (by repeat (first | exact keeps_nil | apply keeps_cons (by repeat (first | exact find_head | apply find_tail | apply find_skip)) (by first  | rfl) | exact keeps_self | exact keeps_left | apply keeps_app | apply keeps_mv | apply keeps_skip)) trivial ?_)
                          clear hl hh a w; intro vc Fc a w hR hl hh
                          obtain ⟨rfl, rfl⟩ := hR
                          try simp only [List.cons_append, List.nil_append, List.append_assoc, List.append_nil] at hh
                          obtain ⟨i9, hi9, hi8⟩ := mod_nat o.A (show 0 < W.tg.length by omega)
                          rw [hi9] at hl
                          have hM : Mem [(k4, C [.int .u8 o.k, .int .i64 o.A, .int .i64 o.B, .slice p o.tx.length cap, .int .u8 o.m.k, .int .u8 o.m.d, .int .u32 o.m.e, .int .u32 o.m.b, .bool o.m.y, .int .u32 o.m.r, .int .u32 o.m.s, .string o.m.t, .int .u8 o.v.k, .int .u8 o.v.a, .int .u8 o.v.b, .int .u8 o.v.w, .int .u8 o.v.da, .int .u8 o.v.dl] 45)] w := (memK hh (by repeat (first | exact keeps_nil | apply keeps_cons (by repeat (first | exact find_head | apply find_tail | apply find_skip)) (by first  | rfl) | exact keeps_self | exact keeps_left | apply keeps_app | apply keeps_mv | apply keeps_skip)))
                          refine d_step (fun _ => hM) ?_
                          refine d_one (i := 8) (by kernel_rfl) rfl ?_
                          try clear hM
                          refine id (w_call hl hh rfl trivial rfl cal21 rfl (take_spec wb W.c (0 + 19) W.tg W.gp W.gc W.gE hW.r hcr hW.rl i9 hi8) (by repeat (first | exact keeps_nil | apply keeps_cons (by repeat (first | exact find_head | apply find_tail | apply find_skip)) (by first  | rfl) | exact keeps_self | exact keeps_left | apply keeps_app | apply keeps_mv | apply keeps_skip)) trivial ?_)
                          clear hl hh a w; intro vc Fc a w hR hl hh
                          obtain ⟨m, p6, c6, E6, hm6, rfl, hR6, rfl⟩ := hR
                          try simp only [List.cons_append, List.nil_append, List.append_assoc, List.append_nil] at hh
                          rw [wc_stg W hW.dl p6 _ c6 E6] at hh
                          have hmo := hW.ro m (List.mem_of_getElem? hm6)
                          refine d_step (fun h => absurd h (by decide)) ?_
                          refine d_done (by kernel_rfl) ?_
                          try clear hM
                          have hl2 := hl.nil; clear hl; have hl := hl2; clear hl2
                          refine blk_normal ?_
                          refine then_normal ?_
                          refine c_seq ?_
                          refine c_region ?_
                          refine wl (wl_val hl rfl trivial (r_assign hl rfl) ?_)
                          clear hl a; intro a hl
                          refine w_nil ?_
                          have hl2 := hl.add (t := 6) (hl.nil) rfl; clear hl; have hl := hl2; clear hl2
                          refine then_normal ?_
                          refine wp_ret ?_
                          first
                          | (have hq := hR6; refine f_ret1 (F' := Fx ++ ((wb, C (WoV.c { W with tg := delP W.tg i9, gp := p6, gc := c6, gE := E6 }) 55) :: (W.tE ++ (E6 ++ (DsF W.ds ++ WoV.GF W Z))))) hl hh rfl rfl (by repeat (first | exact keeps_nil | apply keeps_cons (by repeat (first | exact find_head | apply find_tail | apply find_skip)) (by first  | rfl) | exact keeps_self | exact keeps_left | apply keeps_app | apply keeps_mv | apply keeps_skip)) ?_; exact StepO.same (W' := { W with tg := delP W.tg i9, gp := p6, gc := c6, gE := E6 }) (tg_ok hW hR6 (fun m h => del_in0 i9 m (.inl h)) (del_len160 hW.rl i9)) (tg_K (Q.jk hJ) (del_in0 i9) p6 c6 E6) (hn.cg rfl rfl) hMx rfl)
                          | (refine f_ret1 (F' := Fx ++ ((wb, C W.c 55) :: (W.tE ++ (W.gE ++ (DsF W.ds ++ WoV.GF W Z))))) hl hh rfl rfl (by repeat (first | exact keeps_nil | apply keeps_cons (by repeat (first | exact find_head | apply find_tail | apply find_skip)) (by first  | rfl) | exact keeps_self | exact keeps_left | apply keeps_app | apply keeps_mv | apply keeps_skip)) ?_; exact StepO.same hW (Q.jk hJ) hn hMx rfl)
                        · intro hc13
                          try simp only [decide_eq_true_eq, decide_eq_false_iff_not, Bool.not_eq_true', Bool.not_eq_false', Bool.not_eq_true, Bool.not_eq_false, Bool.and_eq_true, Bool.or_eq_true, Bool.and_eq_false_iff, Bool.or_eq_false_iff, Bool.not_not, ne_eq, Int.not_lt, Int.not_le, Decidable.not_not, beq_iff_eq, bne_iff_ne] at hc13
                          refine wp_skip ?_
                          refine blk_normal ?_
                          refine then_normal ?_
                          refine c_seq ?_
                          refine c_region ?_
                          refine wl (wl_val hl rfl trivial (r_assign hl rfl) ?_)
                          clear hl a; intro a hl
                          refine w_nil ?_
                          have hl2 := hl.add (t := 6) (hl.nil) rfl; clear hl; have hl := hl2; clear hl2
                          refine then_normal ?_
                          refine wp_ret ?_
                          first
                          | (have hq := hR6; refine f_ret1 (F' := Fx ++ ((wb, C (WoV.c { W with tg := delP W.tg i9, gp := p6, gc := c6, gE := E6 }) 55) :: (W.tE ++ (E6 ++ (DsF W.ds ++ WoV.GF W Z))))) hl hh rfl rfl (by repeat (first | exact keeps_nil | apply keeps_cons (by repeat (first | exact find_head | apply find_tail | apply find_skip)) (by first  | rfl) | exact keeps_self | exact keeps_left | apply keeps_app | apply keeps_mv | apply keeps_skip)) ?_; exact StepO.same (W' := { W with tg := delP W.tg i9, gp := p6, gc := c6, gE := E6 }) (tg_ok hW hR6 (fun m h => del_in0 i9 m (.inl h)) (del_len160 hW.rl i9)) (tg_K (Q.jk hJ) (del_in0 i9) p6 c6 E6) (hn.cg rfl rfl) hMx rfl)
                          | (refine f_ret1 (F' := Fx ++ ((wb, C W.c 55) :: (W.tE ++ (W.gE ++ (DsF W.ds ++ WoV.GF W Z))))) hl hh rfl rfl (by repeat (first | exact keeps_nil | apply keeps_cons (by repeat (first | exact find_head | apply find_tail | apply find_skip)) (by first  | rfl) | exact keeps_self | exact keeps_left | apply keeps_app | apply keeps_mv | apply keeps_skip)) ?_; exact StepO.same hW (Q.jk hJ) hn hMx rfl)
                      · intro hc12
                        try simp only [decide_eq_true_eq, decide_eq_false_iff_not, Bool.not_eq_true', Bool.not_eq_false', Bool.not_eq_true, Bool.not_eq_false, Bool.and_eq_true, Bool.or_eq_true, Bool.and_eq_false_iff, Bool.or_eq_false_iff, Bool.not_not, ne_eq, Int.not_lt, Int.not_le, Decidable.not_not, beq_iff_eq, bne_iff_ne] at hc12
                        exfalso; first | contradiction | omega | (rw [hb] at hc0; simp at hc0)
  · intro hc0
    try simp only [decide_eq_true_eq, decide_eq_false_iff_not, Bool.not_eq_true', Bool.not_eq_false', Bool.not_eq_true, Bool.not_eq_false, Bool.and_eq_true, Bool.or_eq_true, Bool.and_eq_false_iff, Bool.or_eq_false_iff, Bool.not_not, ne_eq, Int.not_lt, Int.not_le, Decidable.not_not, beq_iff_eq, bne_iff_ne] at hc0
    exfalso; first | contradiction | omega | (rw [hb] at hc0; simp at hc0)
end Go.Proofs.Qxb6500908aGreat

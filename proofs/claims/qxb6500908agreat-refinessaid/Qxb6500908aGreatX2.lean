import Derived.Test.Qxb6500908aGreatX1
namespace Go.Proofs.Qxb6500908aGreat
open Go.Eng
set_option linter.unusedVariables false
set_option linter.unusedSimpArgs false
theorem fld113_0 : fieldOk Tryz.prog 113 0 0 = true := by kernel_rfl
theorem one33 : oneOk Tryz.prog 33 = true := by kernel_rfl
theorem fld55_1 : fieldOk Tryz.prog 55 1 1 = true := by kernel_rfl
theorem one50 : oneOk Tryz.prog 50 = true := by kernel_rfl
theorem fld113_3 : fieldOk Tryz.prog 113 3 3 = true := by kernel_rfl
theorem one34 : oneOk Tryz.prog 34 = true := by kernel_rfl
theorem cal32 : callable Tryz.prog 32 = true := by kernel_rfl
theorem cal16 : callable Tryz.prog 16 = true := by kernel_rfl
theorem fld55_3 : fieldOk Tryz.prog 55 3 18 = true := by kernel_rfl
theorem cal40 : callable Tryz.prog 40 = true := by kernel_rfl
theorem agg113 : aggOk Tryz.prog 113 18 = true := by kernel_rfl
theorem fld113_1 : fieldOk Tryz.prog 113 1 1 = true := by kernel_rfl
theorem cal34 : callable Tryz.prog 34 = true := by kernel_rfl
theorem fld113_4 : fieldOk Tryz.prog 113 4 4 = true := by kernel_rfl
theorem cal35 : callable Tryz.prog 35 = true := by kernel_rfl
theorem cal36 : callable Tryz.prog 36 = true := by kernel_rfl
theorem fld113_2 : fieldOk Tryz.prog 113 2 2 = true := by kernel_rfl
theorem cal37 : callable Tryz.prog 37 = true := by kernel_rfl
theorem cal38 : callable Tryz.prog 38 = true := by kernel_rfl
theorem fld113_5 : fieldOk Tryz.prog 113 5 10 = true := by kernel_rfl
theorem cal39 : callable Tryz.prog 39 = true := by kernel_rfl
attribute [local irreducible] postP

def GtV.clr (g : GtV) : GtV := { g with out := [], op := none, oc := 0, oE := [] }
theorem clr_ok {Z : List (Nat × Obj)} {g : GtV} (h : g.ok Z) : g.clr.ok Z := ⟨h.st, h.q, h.qo, h.ql, h.rv, h.rk, h.ys, h.dn, h.tk, Row.nil _ _, fun x hx => (by cases hx), Nat.zero_le _⟩
theorem out_d {g : GtP} {l : LdP} {i : InP} (hg : GtI g) (hs : g.st = l.d) (h : l.dn = false) : ∀ m, m ∈ (ginP g l i).1.1.out → m.d < 16 := by
  intro m hm
  rcases (eff (i := i) hg hs h).out with e | ⟨_, e⟩
  · rw [e] at hm; cases hm
  · rw [e] at hm
    obtain ⟨_, _, _, _, d, hd, h1, _⟩ := push_mem hm
    omega
theorem fedG_pl {W : WoV} {gb : Nat} {g g' : GtV} {l' : LdV} {i : InP} (hg : W.g = some (gb, g)) (hgp : g'.pl = (ginP g.pl W.l.pl i).1.1) (hlp : l'.pl = (ginP g.pl W.l.pl i).1.2) (p : Option Addr) (c : Nat) (E : List (Nat × Obj)) (xd xg : List Ms) :
    (g'.off = true → WoV.pl { W with l := l', g := none, td := postP W.td g'.out, tp := p, tc := c, tE := E } xd xg = fedG (W.pl xd xg) g.pl i) ∧
    (g'.off = false → WoV.pl { W with l := l', g := some (gb, g'.clr), td := postP W.td g'.out, tp := p, tc := c, tE := E } xd xg = fedG (W.pl xd xg) g.pl i) := by
  have e1 : (ginP g.pl W.l.pl i).1.1.off = g'.off := by rw [← hgp]; rfl
  have e2 : (ginP g.pl W.l.pl i).1.1.out = g'.out := by rw [← hgp]; rfl
  refine ⟨fun h => ?_, fun h => ?_⟩
  · unfold fedG fedW WoV.pl
    simp only
    rw [e1, h, if_pos rfl, e2, hlp]; rfl
  · unfold fedG fedW WoV.pl
    simp only
    rw [if_neg (by rw [e1, h]; simp), e2, hlp, ← hgp]; rfl
theorem w1_c (W : WoV) (hds : W.ds.length = 16) {gb : Nat} {g : GtV} (hg : W.g = some (gb, g)) (g2 : GtV) (l' : LdV) (p : Option Addr) (ms : List Ms) (c : Nat) (E : List (Nat × Obj)) : wst W.c (0 + 18) (.slice p ms.length c) = WoV.c { W with l := l', g := some (gb, g2), td := ms, tp := p, tc := c, tE := E } := by
  rw [wc_std W hds p ms c E]
  have h : gPtr (some (gb, g2)) = gPtr W.g := by rw [hg]; rfl
  unfold WoV.c
  simp only
  rw [h]; rfl
theorem w1_ok {Z : List (Nat × Obj)} {W : WoV} (hW : W.ok Z) {l' : LdV} (hl : l'.ok Z) {gb : Nat} {g2 : GtV} (hg : g2.ok Z) (hled : g2.led = W.lb) (ho : g2.out = []) (hE : g2.oE = []) {p : Option Addr} {c : Nat} {E : List (Nat × Obj)} {ns : List Ms} (hR : ROWB p (postP W.td ns) c E) (hn : ∀ m, m ∈ ns → m.ok ∧ m.d < 16) :
    WoV.ok Z { W with l := l', g := some (gb, g2), td := postP W.td ns, tp := p, tc := c, tE := E } :=
  by
  have h1 := hW.dl
  have h2 := hW.ds
  have h3 : (postP W.td ns).length ≤ 160 := postP_len W.td ns
  have h4 := hW.r
  have h5 := hW.ro
  have h6 := hW.rl
  refine WoV.ok.mk hl ?_ h1 h2 hR ?_ h3 h4 h5 h6
  · intro y hy
    injection hy with hy
    subst hy
    exact ⟨hg, hled, ho, hE⟩
  · intro m hm
    have hm : m ∈ postP W.td ns := hm
    rcases postP_mem hm with h9 | h9
    · exact hW.to m h9
    · exact hn m h9
theorem par_id (t : List Int) : ∀ b, parM t = some b → 0 ≤ b.1 ∧ b.1 ≤ 4294967295 := fun b h => (par_dom (id := b.1) (cs := b.2) h).1

attribute [local irreducible] NtV.k StV.c LdV.c StV.E GtV.c GtV.t orB sh1 WoV.c wst

set_option maxHeartbeats 16000000 in
theorem feed_spec {lb wb : Nat} (L : LawM lb wb) (Z : List (Nat × Obj)) (W : WoV) (hW : W.ok Z) (gb : Nat) (g : GtV) (hg : W.g = some (gb, g)) (hI : GtI g.pl) (hst : g.pl.st = W.l.pl.d) (hdn : W.l.pl.dn = false) (hvs : g.st.vs.length < 1000000000) (i : InP) (p : Option Addr) (cap : Nat) (hi : InOk Z i p cap) (x x' : L.X) (Fx : List (Nat × Obj)) (hMx : L.M Z x Fx) (hs : L.sawR (ginP g.pl W.l.pl i).1.2.d { (ginP g.pl W.l.pl i).1.1 with out := [] } x i (ginP g.pl W.l.pl i).2.1 (ginP g.pl W.l.pl i).2.2 (ginP g.pl W.l.pl i).1.1.out x') : Sp Tryz.prog 19 #[.pointer (some ⟨wb, 0, none⟩), .agg ⟨inC i p cap⟩, Lw L.T lb] (Fx ++ WoV.F wb W Z) (fun v F' => v = .bool true ∧ ∃ (W' : WoV) (G F2 : List (Nat × Obj)), W'.ok (Z ++ G) ∧ (∀ xd xg, W'.pl xd xg = fedG (W.pl xd xg) g.pl i) ∧ L.M (Z ++ G) (if (ginP g.pl W.l.pl i).1.1.off then L.fellF x' else x') F2 ∧ F' = F2 ++ WoV.F wb W' (Z ++ G)) := by
  refine f_enter (args := [.pointer (some ⟨wb, 0, none⟩), .agg ⟨[.int .u8 i.k, .int .u32 i.id, .int .u32 i.i2, .slice p i.tx.length cap, .int .u8 i.v.k, .int .u8 i.v.a, .int .u8 i.v.b, .int .u8 i.v.w, .int .u8 i.v.da, .int .u8 i.v.dl, .int .u8 i.m.k, .int .u8 i.m.d, .int .u32 i.m.e, .int .u32 i.m.b, .bool i.m.y, .int .u32 i.m.r, .int .u32 i.m.s, .string i.m.t]⟩, .iface L.T (.pointer (some ⟨lb, 0, none⟩))]) Tryz.func19 rfl Tryz.ntmps19 rfl ?_
  intro w0 w a hpre hl hh
  generalize hDD : List.map Prod.fst (Fx ++ WoV.F wb W Z) = D at hh ⊢
  simp only [WoV.F, WoV.GF, hg] at hh
  have hgok := (hW.g _ hg).1
  have hled : g.led = W.lb := (hW.g _ hg).2.1
  have hcg : W.c[0 + 1]? = some (.pointer (some ⟨gb, 0, none⟩)) := by rw [wc_g, hg]; rfl
  have hct := wc_td W hW.dl
  have hwl := wc_len W hW.dl
  have hik := hi.k
  have hi1 := hi.id
  have hi2 := hi.i2
  simp only [slotsFrom, Nat.reduceAdd] at hl
  refine c_seq ?_
  refine c_region ?_
  refine wl (w_box hl hh rfl trivial rfl rfl ?_)
  clear hl hh a w; intro k4 a w hl hh
  refine wl (wl_val hl rfl trivial (r_assign hl rfl) ?_)
  clear hl a; intro a hl
  refine w_nil ?_
  have hl2 := hl.add (t := 0) (hl.add (t := 2) (hl.add (t := 4) (hl.nil) rfl) rfl) rfl; clear hl; have hl := hl2; clear hl2
  refine then_normal ?_
  refine c_seq ?_
  refine c_region ?_
  refine wl (wl_val hl rfl trivial (r_assign hl rfl) ?_)
  clear hl a; intro a hl
  refine w_nil ?_
  have hl2 := hl.add (t := 0) (hl.add (t := 2) (hl.add (t := 4) (hl.add (t := 7) (hl.nil) rfl) rfl) rfl) rfl; clear hl; have hl := hl2; clear hl2
  refine then_normal ?_
  refine c_seq ?_
  refine c_region ?_
  refine wl (wl_val hl rfl trivial (r_assign hl rfl) ?_)
  clear hl a; intro a hl
  refine w_nil ?_
  have hl2 := hl.add (t := 0) (hl.add (t := 2) (hl.add (t := 4) (hl.add (t := 7) (hl.add (t := 8) (hl.nil) rfl) rfl) rfl) rfl) rfl; clear hl; have hl := hl2; clear hl2
  refine then_normal ?_
  refine c_seq ?_
  refine c_seq ?_
  refine c_region ?_
  refine wl (wl_val hl rfl trivial (r_field hl rfl fld113_0) ?_)
  clear hl a; intro a hl
  refine wl (w_load hl hh rfl trivial one33 rfl (by repeat (first | exact find_head | apply find_tail | apply find_skip)) (by first | exact hcg | exact hct | (exact (show (WoV.c { W with l := l', g := some (gb, g'.clr), td := postP W.td g'.out, tp := p6, tc := c6, tE := E6 })[0 + 1]? = some (.pointer (some ⟨gb, 0, none⟩)) from rfl)) | exact wc_g _ | rfl) ?_)
  clear hl a; intro a hl
  refine w_nil ?_
  have hl2 := hl.add (t := 0) (hl.add (t := 2) (hl.add (t := 4) (hl.add (t := 7) (hl.add (t := 8) (hl.add (t := 13) (hl.nil) rfl) rfl) rfl) rfl) rfl) rfl; clear hl; have hl := hl2; clear hl2
  refine then_normal ?_
  refine wp_block ?_
  refine c_seq ?_
  refine c_region ?_
  refine wl (wl_val hl rfl trivial (r_eql hl rfl rfl) ?_)
  clear hl a; intro a hl
  refine wl (wl_val hl rfl trivial (r_assign hl rfl) ?_)
  clear hl a; intro a hl
  refine w_nil ?_
  have hl2 := hl.add (t := 0) (hl.add (t := 2) (hl.add (t := 4) (hl.add (t := 7) (hl.add (t := 8) (hl.add (t := 13) (hl.add (t := 14) (hl.nil) rfl) rfl) rfl) rfl) rfl) rfl) rfl; clear hl; have hl := hl2; clear hl2
  refine then_normal ?_
  refine c_cond hl rfl ?_ ?_
  · intro hc0
    try simp only [decide_eq_true_eq, decide_eq_false_iff_not, Bool.not_eq_true', Bool.not_eq_false', Bool.not_eq_true, Bool.not_eq_false, Bool.and_eq_true, Bool.or_eq_true, Bool.and_eq_false_iff, Bool.or_eq_false_iff, Bool.not_not, ne_eq, Int.not_lt, Int.not_le, Decidable.not_not, beq_iff_eq, bne_iff_ne] at hc0
    have hck : i.k = 0 := by omega
    refine c_draw [(wb, C W.c 55), (k4, C [.int .u8 i.k, .int .u32 i.id, .int .u32 i.i2, .slice p i.tx.length cap, .int .u8 i.v.k, .int .u8 i.v.a, .int .u8 i.v.b, .int .u8 i.v.w, .int .u8 i.v.da, .int .u8 i.v.dl, .int .u8 i.m.k, .int .u8 i.m.d, .int .u32 i.m.e, .int .u32 i.m.b, .bool i.m.y, .int .u32 i.m.r, .int .u32 i.m.s, .string i.m.t] 113)] [6, 7, 8, 9, 10, 11] mixed hh ?_
    clear hh w; intro w hh
    have hM : Mem [(wb, C W.c 55), (k4, C [.int .u8 i.k, .int .u32 i.id, .int .u32 i.i2, .slice p i.tx.length cap, .int .u8 i.v.k, .int .u8 i.v.a, .int .u8 i.v.b, .int .u8 i.v.w, .int .u8 i.v.da, .int .u8 i.v.dl, .int .u8 i.m.k, .int .u8 i.m.d, .int .u32 i.m.e, .int .u32 i.m.b, .bool i.m.y, .int .u32 i.m.r, .int .u32 i.m.s, .string i.m.t] 113)] w := (memK hh (by repeat (first | exact keeps_nil | apply keeps_cons (by repeat (first | exact find_head | apply find_tail | apply find_skip)) (by first  | rfl) | exact keeps_self | exact keeps_left | apply keeps_app | apply keeps_mv | apply keeps_skip)))
    refine d_take (i := 0) hl rfl (by kernel_rfl) (by kernel_rfl) (by kernel_rfl) (by kernel_rfl) (by kernel_rfl) rfl trivial (fun _ _ _ h => h) hM (fun w hC => r_move hl rfl) rfl ?_
    clear hl a; intro a hl
    refine d_take (i := 1) hl rfl (by kernel_rfl) (by kernel_rfl) (by kernel_rfl) (by kernel_rfl) (by kernel_rfl) rfl trivial (fun _ _ _ h => h) hM (fun w hC => r_nilCheck hl rfl) rfl ?_
    clear hl a; intro a hl
    refine d_take (i := 2) hl rfl (by kernel_rfl) (by kernel_rfl) (by kernel_rfl) (by kernel_rfl) (by kernel_rfl) rfl trivial (fun _ _ _ h => h) hM (fun w hC => r_field hl rfl fld55_1) rfl ?_
    clear hl a; intro a hl
    refine d_take (i := 3) hl rfl (by kernel_rfl) (by kernel_rfl) (by kernel_rfl) (by kernel_rfl) (by kernel_rfl) rfl trivial (fun _ _ _ h => h) hM (fun w hC => r_loadC hl rfl one50 hC (by repeat (first | exact find_head | apply find_tail | apply find_skip)) (by first | exact hcg | exact hct | (exact (show (WoV.c { W with l := l', g := some (gb, g'.clr), td := postP W.td g'.out, tp := p6, tc := c6, tE := E6 })[0 + 1]? = some (.pointer (some ⟨gb, 0, none⟩)) from rfl)) | exact wc_g _ | rfl)) rfl ?_
    clear hl a; intro a hl
    refine d_take (i := 4) hl rfl (by kernel_rfl) (by kernel_rfl) (by kernel_rfl) (by kernel_rfl) (by kernel_rfl) rfl trivial (fun _ _ _ h => h) hM (fun w hC => r_field hl rfl fld113_3) rfl ?_
    clear hl a; intro a hl
    refine d_take (i := 5) hl rfl (by kernel_rfl) (by kernel_rfl) (by kernel_rfl) (by kernel_rfl) (by kernel_rfl) rfl trivial (fun _ _ _ h => h) hM (fun w hC => r_loadC hl rfl one34 hC (by repeat (first | exact find_head | apply find_tail | apply find_skip)) (by first | exact hcg | exact hct | (exact (show (WoV.c { W with l := l', g := some (gb, g'.clr), td := postP W.td g'.out, tp := p6, tc := c6, tE := E6 })[0 + 1]? = some (.pointer (some ⟨gb, 0, none⟩)) from rfl)) | exact wc_g _ | rfl)) rfl ?_
    clear hl a; intro a hl
    refine d_one (i := 6) (by kernel_rfl) rfl ?_
    try clear hM
    refine id (w_call hl hh rfl trivial rfl cal32 rfl (in_sub Z gb g W.l hgok hW.l hI hvs i p cap hi hck) (by repeat (first | exact keeps_nil | apply keeps_cons (by repeat (first | exact find_head | apply find_tail | apply find_skip)) (by first  | rfl) | exact keeps_self | exact keeps_left | apply keeps_app | apply keeps_mv | apply keeps_skip)) trivial ?_)
    clear hl hh a w; intro vc Fc a w hR hl hh
    obtain ⟨rfl, g', l', G9, hgl, hgo, hlo, hgp, hlp, rfl⟩ := hR
    try simp only [List.cons_append, List.nil_append, List.append_assoc, List.append_nil] at hh
    simp only [GF, List.append_assoc, List.cons_append] at hh
    rw [hgl, hled] at hh
    refine d_step (fun h => absurd h (by decide)) ?_
    refine d_takeL (i := 7) hl rfl (by kernel_rfl) (by kernel_rfl) (by kernel_rfl) (by kernel_rfl) (by kernel_rfl) rfl trivial (fun _ _ _ h => h) (fun w => r_move hl rfl) rfl ?_
    clear hl a; intro a hl
    refine d_takeL (i := 8) hl rfl (by kernel_rfl) (by kernel_rfl) (by kernel_rfl) (by kernel_rfl) (by kernel_rfl) rfl trivial (fun _ _ _ h => h) (fun w => r_extract hl rfl (by simp only [List.getElem?_toArray, List.getElem?_cons_zero, List.getElem?_cons_succ]; rfl)) rfl ?_
    clear hl a; intro a hl
    refine d_takeL (i := 9) hl rfl (by kernel_rfl) (by kernel_rfl) (by kernel_rfl) (by kernel_rfl) (by kernel_rfl) rfl trivial (fun _ _ _ h => h) (fun w => r_extract hl rfl (by simp only [List.getElem?_toArray, List.getElem?_cons_zero, List.getElem?_cons_succ]; rfl)) rfl ?_
    clear hl a; intro a hl
    refine d_takeL (i := 10) hl rfl (by kernel_rfl) (by kernel_rfl) (by kernel_rfl) (by kernel_rfl) (by kernel_rfl) rfl trivial (fun _ _ _ h => h) (fun w => r_assign hl rfl) rfl ?_
    clear hl a; intro a hl
    refine d_takeL (i := 11) hl rfl (by kernel_rfl) (by kernel_rfl) (by kernel_rfl) (by kernel_rfl) (by kernel_rfl) rfl trivial (fun _ _ _ h => h) (fun w => r_assign hl rfl) rfl ?_
    clear hl a; intro a hl
    refine d_done (by kernel_rfl) ?_
    try clear hM
    have hl2 := hl.add (t := 0) (hl.add (t := 2) (hl.add (t := 4) (hl.add (t := 7) (hl.add (t := 8) (hl.nil) rfl) rfl) rfl) rfl) rfl; clear hl; have hl := hl2; clear hl2
    refine blk_normal ?_
    refine then_normal ?_
    refine c_seq ?_
    refine c_region ?_
    refine wl (wl_val hl rfl trivial (r_move hl rfl) ?_)
    clear hl a; intro a hl
    refine wl (wl_val hl rfl trivial (r_nilCheck hl rfl) ?_)
    clear hl a; intro a hl
    refine wl (wl_val hl rfl trivial (r_field hl rfl fld55_1) ?_)
    clear hl a; intro a hl
    refine wl (w_load hl hh rfl trivial one50 rfl (by repeat (first | exact find_head | apply find_tail | apply find_skip)) (by first | exact hcg | exact hct | (exact (show (WoV.c { W with l := l', g := some (gb, g'.clr), td := postP W.td g'.out, tp := p6, tc := c6, tE := E6 })[0 + 1]? = some (.pointer (some ⟨gb, 0, none⟩)) from rfl)) | exact wc_g _ | rfl) ?_)
    clear hl a; intro a hl
    refine wl (w_call hl hh rfl trivial rfl cal16 rfl (outbox_spec gb g') (by repeat (first | exact keeps_nil | apply keeps_cons (by repeat (first | exact find_head | apply find_tail | apply find_skip)) (by first  | rfl) | exact keeps_self | exact keeps_left | apply keeps_app | apply keeps_mv | apply keeps_skip)) trivial ?_)
    clear hl hh a w; intro vc Fc a w hR hl hh
    obtain ⟨rfl, rfl⟩ := hR
    try simp only [List.cons_append, List.nil_append, List.append_assoc, List.append_nil] at hh
    refine wl (wl_val hl rfl trivial (r_assign hl rfl) ?_)
    clear hl a; intro a hl
    refine w_nil ?_
    have hl2 := hl.add (t := 0) (hl.add (t := 2) (hl.add (t := 4) (hl.add (t := 7) (hl.add (t := 8) (hl.add (t := 10) (hl.nil) rfl) rfl) rfl) rfl) rfl) rfl; clear hl; have hl := hl2; clear hl2
    refine then_normal ?_
    refine c_seq ?_
    refine c_region ?_
    refine wl (wl_val hl rfl trivial (r_move hl rfl) ?_)
    clear hl a; intro a hl
    refine wl (wl_val hl rfl trivial (r_nilCheck hl rfl) ?_)
    clear hl a; intro a hl
    refine wl (wl_val hl rfl trivial (r_field hl rfl fld55_3) ?_)
    clear hl a; intro a hl
    refine wl (wl_val hl rfl trivial (r_move hl rfl) ?_)
    clear hl a; intro a hl
    refine wl (w_call hl hh rfl trivial rfl cal17 rfl (post_spec wb W.c (0 + 18) W.td W.tp W.tc W.tE hW.t hct hW.tl g'.out g'.op g'.oc g'.oE hgo.o hgo.ol) (by repeat (first | exact keeps_nil | apply keeps_cons (by repeat (first | exact find_head | apply find_tail | apply find_skip)) (by first  | rfl) | exact keeps_self | exact keeps_left | apply keeps_app | apply keeps_mv | apply keeps_skip)) trivial ?_)
    clear hl hh a w; intro vc Fc a w hR hl hh
    obtain ⟨rfl, p6, c6, E6, hR6, rfl⟩ := hR
    try simp only [List.cons_append, List.nil_append, List.append_assoc, List.append_nil] at hh
    have hw1 : wst W.c (0 + 18) (.slice p6 (postP W.td g'.out).length c6) = WoV.c { W with l := l', g := some (gb, g'.clr), td := postP W.td g'.out, tp := p6, tc := c6, tE := E6 } := w1_c W hW.dl hg g'.clr l' p6 _ c6 E6
    rw [hw1] at hh
    have hW1 : WoV.ok (Z ++ G9) { W with l := l', g := some (gb, g'.clr), td := postP W.td g'.out, tp := p6, tc := c6, tE := E6 } := w1_ok hW.app hlo (clr_ok hgo) (hgl.trans hled) rfl rfl hR6 (fun m h9 => ⟨hgo.oo m h9, out_d (i := i) hI hst hdn m (by rw [← hgp]; exact h9)⟩)
    have hbd := gin_id (g := g.pl) (l := W.l.pl) (i := i) hI hdn (par_id i.tx)
    have hsw := fun (id c : Int) (h1 : id = (ginP g.pl W.l.pl i).2.1) (h2 : c = (ginP g.pl W.l.pl i).2.2) => L.saw { W with l := l', g := some (gb, g'.clr), td := postP W.td g'.out, tp := p6, tc := c6, tE := E6 } (Z ++ G9) x x' Fx i p cap gb g'.clr id c g'.out g'.op g'.oc g'.oE hW1 rfl (L.mono hMx) hi.app hgo.o hgo.oo hgo.ol (by rw [h1]; exact hbd.1) (by rw [h2]; exact hbd.2) (by rw [h1, h2]; have h9 := hs; rw [← hgp, ← hlp] at h9; exact h9)
    simp only [WoV.F, WoV.GF, GF, List.append_assoc, List.cons_append, List.nil_append] at hsw
    rw [show g'.clr.led = W.lb from hgl.trans hled] at hsw
    refine w_nil ?_
    have hl2 := hl.add (t := 0) (hl.add (t := 2) (hl.add (t := 4) (hl.add (t := 7) (hl.add (t := 8) (hl.add (t := 10) (hl.nil) rfl) rfl) rfl) rfl) rfl) rfl; clear hl; have hl := hl2; clear hl2
    refine then_normal ?_
    refine c_seq ?_
    refine c_region ?_
    refine wl (wl_val hl rfl trivial (r_move hl rfl) ?_)
    clear hl a; intro a hl
    refine wl (wl_val hl rfl trivial (r_nilCheck hl rfl) ?_)
    clear hl a; intro a hl
    refine wl (wl_val hl rfl trivial (r_field hl rfl fld55_1) ?_)
    clear hl a; intro a hl
    refine wl (w_load hl hh rfl trivial one50 rfl (by repeat (first | exact find_head | apply find_tail | apply find_skip)) (by first | exact hcg | exact hct | (exact (show (WoV.c { W with l := l', g := some (gb, g'.clr), td := postP W.td g'.out, tp := p6, tc := c6, tE := E6 })[0 + 1]? = some (.pointer (some ⟨gb, 0, none⟩)) from rfl)) | exact wc_g _ | rfl) ?_)
    clear hl a; intro a hl
    refine wl (w_call hl hh rfl trivial rfl cal40 rfl (down_spec gb g'.clr) (by repeat (first | exact keeps_nil | apply keeps_cons (by repeat (first | exact find_head | apply find_tail | apply find_skip)) (by first  | rfl) | exact keeps_self | exact keeps_left | apply keeps_app | apply keeps_mv | apply keeps_skip)) trivial ?_)
    clear hl hh a w; intro vc Fc a w hR hl hh
    obtain ⟨rfl, rfl⟩ := hR
    try simp only [List.cons_append, List.nil_append, List.append_assoc, List.append_nil] at hh
    refine wl (wl_val hl rfl trivial (r_assign hl rfl) ?_)
    clear hl a; intro a hl
    refine w_nil ?_
    have hl2 := hl.add (t := 0) (hl.add (t := 2) (hl.add (t := 4) (hl.add (t := 7) (hl.add (t := 8) (hl.add (t := 10) (hl.add (t := 11) (hl.nil) rfl) rfl) rfl) rfl) rfl) rfl) rfl; clear hl; have hl := hl2; clear hl2
    refine then_normal ?_
    refine c_seq ?_
    refine c_seq ?_
    refine c_region ?_
    refine wl (wl_val hl rfl trivial (r_move hl rfl) ?_)
    clear hl a; intro a hl
    refine wl (w_loadA hl hh rfl trivial agg113 rfl (by repeat (first | exact find_head | apply find_tail | apply find_skip)) (by rfl) (by rfl) ?_)
    clear hl a; intro a hl
    refine wl (wl_val hl rfl trivial (r_move hl rfl) ?_)
    clear hl a; intro a hl
    refine wl (wl_val hl rfl trivial (r_move hl rfl) ?_)
    clear hl a; intro a hl
    refine wl (wl_val hl rfl trivial (r_move hl rfl) ?_)
    clear hl a; intro a hl
    refine wl (w_callP hl hh rfl trivial rfl L.dsaw rfl (hsw _ _ (by first | rfl | exact hid.symm | exact wrap_fits (k := .u32) hbd.1) (by first | rfl | exact hcd.symm)) (by repeat (first | exact keeps_nil | apply keeps_cons (by repeat (first | exact find_head | apply find_tail | apply find_skip)) (by first  | rfl) | exact keeps_self | exact keeps_left | apply keeps_app | apply keeps_mv | apply keeps_skip)) trivial ?_)
    clear hl hh a w; intro vc Fc a w hR hl hh
    rcases hR with ⟨rfl, F2, hM2, rfl⟩
    ·
      try simp only [List.cons_append, List.nil_append, List.append_nil] at hh
      try simp only [List.append_assoc, List.cons_append, List.nil_append] at hh
      refine wl (wl_val hl rfl trivial (r_not hl rfl) ?_)
      clear hl a; intro a hl
      refine w_nil ?_
      have hl2 := hl.add (t := 0) (hl.add (t := 2) (hl.add (t := 11) (hl.add (t := 115) (hl.nil) rfl) rfl) rfl) rfl; clear hl; have hl := hl2; clear hl2
      refine then_normal ?_
      refine c_condF hl rfl ?_
      refine wp_skip ?_
      refine then_normal ?_
      refine c_seq ?_
      refine c_seq ?_
      refine c_region ?_
      refine wl (wl_val hl rfl trivial (r_move hl rfl) ?_)
      clear hl a; intro a hl
      refine w_nil ?_
      have hl2 := hl.add (t := 0) (hl.add (t := 2) (hl.add (t := 116) (hl.nil) rfl) rfl) rfl; clear hl; have hl := hl2; clear hl2
      refine then_normal ?_
      refine c_cond hl rfl ?_ ?_
      · intro hc9
        try simp only [decide_eq_true_eq, decide_eq_false_iff_not, Bool.not_eq_true', Bool.not_eq_false', Bool.not_eq_true, Bool.not_eq_false, Bool.and_eq_true, Bool.or_eq_true, Bool.and_eq_false_iff, Bool.or_eq_false_iff, Bool.not_not, ne_eq, Int.not_lt, Int.not_le, Decidable.not_not, beq_iff_eq, bne_iff_ne] at hc9
        refine c_seq ?_
        refine c_region ?_
        refine wl (wl_val hl rfl trivial (r_move hl rfl) ?_)
        clear hl a; intro a hl
        refine wl (wl_val hl rfl trivial (r_nilCheck hl rfl) ?_)
        clear hl a; intro a hl
        refine wl (wl_val hl rfl trivial (r_field hl rfl fld55_1) ?_)
        clear hl a; intro a hl
        refine wl (w_store hl hh trivial one50 rfl rfl (by repeat (first | exact find_head | apply find_tail | apply find_skip)) (by first | (simp; done) | (simp; omega) | (rw [wc_len _ hW1.dl]; omega) | (rw [wc_len _ hW1.dl]; simp; done)) (by first | rfl | assumption | (apply Row.one; assumption)) (by first | exact wc_sg _ none | (simp only [setL, List.getElem?_cons_zero, List.getElem?_cons_succ, Value.cells, List.take_zero, List.take_succ_cons, List.take_nil, List.drop_zero, List.drop_succ_cons, List.drop_nil, List.length_cons, List.length_nil, List.cons_append, List.nil_append, List.append_nil, Nat.zero_add, Nat.add_zero, Nat.reduceAdd, Nat.reduceBEq, Nat.reduceEqDiff, Nat.ble, BEq.rfl, Bool.and_true, Bool.and_self, cond_true, beq_self_eq_true]; rfl)) ?_)
        clear hh w; intro w hh
        refine w_nil ?_
        have hl2 := hl.add (t := 2) (hl.nil) rfl; clear hl; have hl := hl2; clear hl2
        refine then_normal ?_
        refine c_region ?_
        refine wl (wl_val hl rfl trivial (r_move hl rfl) ?_)
        clear hl a; intro a hl
        refine wl (w_callP hl hh rfl trivial rfl L.dfell rfl (L.fell (Z ++ G9) x' F2 hM2) (by repeat (first | exact keeps_nil | apply keeps_cons (by repeat (first | exact find_head | apply find_tail | apply find_skip)) (by first  | rfl) | exact keeps_self | exact keeps_left | apply keeps_app | apply keeps_mv | apply keeps_skip)) trivial ?_)
        clear hl hh a w; intro vc Fc a w hR hl hh
        obtain ⟨rfl, hM3⟩ := hR
        try simp only [List.cons_append, List.nil_append, List.append_assoc, List.append_nil] at hh
        generalize Fc = F3 at hh hM3
        try simp only [List.append_assoc, List.cons_append, List.nil_append] at hh
        refine w_nil ?_
        have hl2 := hl.nil; clear hl; have hl := hl2; clear hl2
        refine then_normal ?_
        refine c_seq ?_
        refine c_region ?_
        refine wl (wl_val hl rfl trivial (r_assign hl rfl) ?_)
        clear hl a; intro a hl
        refine w_nil ?_
        have hl2 := hl.add (t := 6) (hl.nil) rfl; clear hl; have hl := hl2; clear hl2
        refine then_normal ?_
        refine wp_ret ?_
        first
        | (have hq := hM3; refine f_ret1 (F' := F3 ++ ((wb, C (WoV.c { W with l := l', g := none, td := postP W.td g'.out, tp := p6, tc := c6, tE := E6 }) 55) :: (E6 ++ (W.gE ++ (DsF W.ds ++ ((W.lb, C l'.c 91) :: (l'.d.E ++ (Z ++ G9)))))))) hl hh rfl rfl (by repeat (first | exact keeps_nil | apply keeps_cons (by repeat (first | exact find_head | apply find_tail | apply find_skip)) (by first  | rfl) | exact keeps_self | exact keeps_left | apply keeps_app | apply keeps_mv | apply keeps_skip)) ?_; refine ⟨rfl, { W with l := l', g := none, td := postP W.td g'.out, tp := p6, tc := c6, tE := E6 }, G9, F3, ⟨hlo, fun y hy => (by cases hy), hW.dl, hW.ds, hW1.t, hW1.to, hW1.tl, hW.r, hW.ro, hW.rl⟩, fun xd xg => (fedG_pl hg hgp hlp p6 c6 E6 xd xg).1 hc9, ?_, rfl⟩; (rw [if_pos (by rw [← hgp]; exact hc9)]; exact hM3))
        | (refine f_ret1 (F' := F2 ++ ((wb, C (WoV.c { W with l := l', g := some (gb, g'.clr), td := postP W.td g'.out, tp := p6, tc := c6, tE := E6 }) 55) :: (E6 ++ (W.gE ++ (DsF W.ds ++ ((gb, C (GtV.c g'.clr) 127) :: (g'.st.E ++ (g'.qE ++ ((g'.rb, MD (kInt .u32) g'.rl g'.rn) :: ((W.lb, C l'.c 91) :: (l'.d.E ++ (Z ++ G9)))))))))))) hl hh rfl rfl (by repeat (first | exact keeps_nil | apply keeps_cons (by repeat (first | exact find_head | apply find_tail | apply find_skip)) (by first  | rfl) | exact keeps_self | exact keeps_left | apply keeps_app | apply keeps_mv | apply keeps_skip)) ?_; refine ⟨rfl, { W with l := l', g := some (gb, g'.clr), td := postP W.td g'.out, tp := p6, tc := c6, tE := E6 }, G9, F2, hW1, fun xd xg => (fedG_pl hg hgp hlp p6 c6 E6 xd xg).2 hc9, ?_, ?_⟩; (rw [if_neg (by rw [← hgp]; show ¬ g'.off = true; rw [show g'.off = false from hc9]; simp)]; exact hM2); (simp only [WoV.F, WoV.GF, GF, List.append_assoc, List.cons_append, List.nil_append]; rw [show g'.clr.led = W.lb from hgl.trans hled]; rfl))
      · intro hc9
        try simp only [decide_eq_true_eq, decide_eq_false_iff_not, Bool.not_eq_true', Bool.not_eq_false', Bool.not_eq_true, Bool.not_eq_false, Bool.and_eq_true, Bool.or_eq_true, Bool.and_eq_false_iff, Bool.or_eq_false_iff, Bool.not_not, ne_eq, Int.not_lt, Int.not_le, Decidable.not_not, beq_iff_eq, bne_iff_ne] at hc9
        refine wp_skip ?_
        refine then_normal ?_
        refine c_seq ?_
        refine c_region ?_
        refine wl (wl_val hl rfl trivial (r_assign hl rfl) ?_)
        clear hl a; intro a hl
        refine w_nil ?_
        have hl2 := hl.add (t := 6) (hl.nil) rfl; clear hl; have hl := hl2; clear hl2
        refine then_normal ?_
        refine wp_ret ?_
        first
        | (have hq := hM3; refine f_ret1 (F' := F3 ++ ((wb, C (WoV.c { W with l := l', g := none, td := postP W.td g'.out, tp := p6, tc := c6, tE := E6 }) 55) :: (E6 ++ (W.gE ++ (DsF W.ds ++ ((W.lb, C l'.c 91) :: (l'.d.E ++ (Z ++ G9)))))))) hl hh rfl rfl (by repeat (first | exact keeps_nil | apply keeps_cons (by repeat (first | exact find_head | apply find_tail | apply find_skip)) (by first  | rfl) | exact keeps_self | exact keeps_left | apply keeps_app | apply keeps_mv | apply keeps_skip)) ?_; refine ⟨rfl, { W with l := l', g := none, td := postP W.td g'.out, tp := p6, tc := c6, tE := E6 }, G9, F3, ⟨hlo, fun y hy => (by cases hy), hW.dl, hW.ds, hW1.t, hW1.to, hW1.tl, hW.r, hW.ro, hW.rl⟩, fun xd xg => (fedG_pl hg hgp hlp p6 c6 E6 xd xg).1 hc9, ?_, rfl⟩; (rw [if_pos (by rw [← hgp]; exact hc9)]; exact hM3))
        | (refine f_ret1 (F' := F2 ++ ((wb, C (WoV.c { W with l := l', g := some (gb, g'.clr), td := postP W.td g'.out, tp := p6, tc := c6, tE := E6 }) 55) :: (E6 ++ (W.gE ++ (DsF W.ds ++ ((gb, C (GtV.c g'.clr) 127) :: (g'.st.E ++ (g'.qE ++ ((g'.rb, MD (kInt .u32) g'.rl g'.rn) :: ((W.lb, C l'.c 91) :: (l'.d.E ++ (Z ++ G9)))))))))))) hl hh rfl rfl (by repeat (first | exact keeps_nil | apply keeps_cons (by repeat (first | exact find_head | apply find_tail | apply find_skip)) (by first  | rfl) | exact keeps_self | exact keeps_left | apply keeps_app | apply keeps_mv | apply keeps_skip)) ?_; refine ⟨rfl, { W with l := l', g := some (gb, g'.clr), td := postP W.td g'.out, tp := p6, tc := c6, tE := E6 }, G9, F2, hW1, fun xd xg => (fedG_pl hg hgp hlp p6 c6 E6 xd xg).2 hc9, ?_, ?_⟩; (rw [if_neg (by rw [← hgp]; show ¬ g'.off = true; rw [show g'.off = false from hc9]; simp)]; exact hM2); (simp only [WoV.F, WoV.GF, GF, List.append_assoc, List.cons_append, List.nil_append]; rw [show g'.clr.led = W.lb from hgl.trans hled]; rfl))
  · intro hc0
    try simp only [decide_eq_true_eq, decide_eq_false_iff_not, Bool.not_eq_true', Bool.not_eq_false', Bool.not_eq_true, Bool.not_eq_false, Bool.and_eq_true, Bool.or_eq_true, Bool.and_eq_false_iff, Bool.or_eq_false_iff, Bool.not_not, ne_eq, Int.not_lt, Int.not_le, Decidable.not_not, beq_iff_eq, bne_iff_ne] at hc0
    refine c_seq ?_
    refine c_region ?_
    refine wl (wl_val hl rfl trivial (r_eql hl rfl rfl) ?_)
    clear hl a; intro a hl
    refine wl (wl_val hl rfl trivial (r_assign hl rfl) ?_)
    clear hl a; intro a hl
    refine w_nil ?_
    have hl2 := hl.add (t := 0) (hl.add (t := 2) (hl.add (t := 4) (hl.add (t := 7) (hl.add (t := 8) (hl.add (t := 13) (hl.add (t := 26) (hl.nil) rfl) rfl) rfl) rfl) rfl) rfl) rfl; clear hl; have hl := hl2; clear hl2
    refine then_normal ?_
    refine c_cond hl rfl ?_ ?_
    · intro hc1
      try simp only [decide_eq_true_eq, decide_eq_false_iff_not, Bool.not_eq_true', Bool.not_eq_false', Bool.not_eq_true, Bool.not_eq_false, Bool.and_eq_true, Bool.or_eq_true, Bool.and_eq_false_iff, Bool.or_eq_false_iff, Bool.not_not, ne_eq, Int.not_lt, Int.not_le, Decidable.not_not, beq_iff_eq, bne_iff_ne] at hc1
      have hck : i.k = 1 := by omega
      refine c_draw [(wb, C W.c 55), (k4, C [.int .u8 i.k, .int .u32 i.id, .int .u32 i.i2, .slice p i.tx.length cap, .int .u8 i.v.k, .int .u8 i.v.a, .int .u8 i.v.b, .int .u8 i.v.w, .int .u8 i.v.da, .int .u8 i.v.dl, .int .u8 i.m.k, .int .u8 i.m.d, .int .u32 i.m.e, .int .u32 i.m.b, .bool i.m.y, .int .u32 i.m.r, .int .u32 i.m.s, .string i.m.t] 113)] [6, 7] mixed hh ?_
      clear hh w; intro w hh
      have hM : Mem [(wb, C W.c 55), (k4, C [.int .u8 i.k, .int .u32 i.id, .int .u32 i.i2, .slice p i.tx.length cap, .int .u8 i.v.k, .int .u8 i.v.a, .int .u8 i.v.b, .int .u8 i.v.w, .int .u8 i.v.da, .int .u8 i.v.dl, .int .u8 i.m.k, .int .u8 i.m.d, .int .u32 i.m.e, .int .u32 i.m.b, .bool i.m.y, .int .u32 i.m.r, .int .u32 i.m.s, .string i.m.t] 113)] w := (memK hh (by repeat (first | exact keeps_nil | apply keeps_cons (by repeat (first | exact find_head | apply find_tail | apply find_skip)) (by first  | rfl) | exact keeps_self | exact keeps_left | apply keeps_app | apply keeps_mv | apply keeps_skip)))
      refine d_take (i := 0) hl rfl (by kernel_rfl) (by kernel_rfl) (by kernel_rfl) (by kernel_rfl) (by kernel_rfl) rfl trivial (fun _ _ _ h => h) hM (fun w hC => r_move hl rfl) rfl ?_
      clear hl a; intro a hl
      refine d_take (i := 1) hl rfl (by kernel_rfl) (by kernel_rfl) (by kernel_rfl) (by kernel_rfl) (by kernel_rfl) rfl trivial (fun _ _ _ h => h) hM (fun w hC => r_nilCheck hl rfl) rfl ?_
      clear hl a; intro a hl
      refine d_take (i := 2) hl rfl (by kernel_rfl) (by kernel_rfl) (by kernel_rfl) (by kernel_rfl) (by kernel_rfl) rfl trivial (fun _ _ _ h => h) hM (fun w hC => r_field hl rfl fld55_1) rfl ?_
      clear hl a; intro a hl
      refine d_take (i := 3) hl rfl (by kernel_rfl) (by kernel_rfl) (by kernel_rfl) (by kernel_rfl) (by kernel_rfl) rfl trivial (fun _ _ _ h => h) hM (fun w hC => r_loadC hl rfl one50 hC (by repeat (first | exact find_head | apply find_tail | apply find_skip)) (by first | exact hcg | exact hct | (exact (show (WoV.c { W with l := l', g := some (gb, g'.clr), td := postP W.td g'.out, tp := p6, tc := c6, tE := E6 })[0 + 1]? = some (.pointer (some ⟨gb, 0, none⟩)) from rfl)) | exact wc_g _ | rfl)) rfl ?_
      clear hl a; intro a hl
      refine d_take (i := 4) hl rfl (by kernel_rfl) (by kernel_rfl) (by kernel_rfl) (by kernel_rfl) (by kernel_rfl) rfl trivial (fun _ _ _ h => h) hM (fun w hC => r_field hl rfl fld113_1) rfl ?_
      clear hl a; intro a hl
      refine d_take (i := 5) hl rfl (by kernel_rfl) (by kernel_rfl) (by kernel_rfl) (by kernel_rfl) (by kernel_rfl) rfl trivial (fun _ _ _ h => h) hM (fun w hC => r_loadC hl rfl one36 hC (by repeat (first | exact find_head | apply find_tail | apply find_skip)) (by first | exact hcg | exact hct | (exact (show (WoV.c { W with l := l', g := some (gb, g'.clr), td := postP W.td g'.out, tp := p6, tc := c6, tE := E6 })[0 + 1]? = some (.pointer (some ⟨gb, 0, none⟩)) from rfl)) | exact wc_g _ | rfl)) rfl ?_
      clear hl a; intro a hl
      refine d_one (i := 6) (by kernel_rfl) rfl ?_
      try clear hM
      refine id (w_call hl hh rfl trivial rfl cal33 rfl (in_stat Z gb g W.l hgok hW.l hI hvs i p cap hi hck) (by repeat (first | exact keeps_nil | apply keeps_cons (by repeat (first | exact find_head | apply find_tail | apply find_skip)) (by first  | rfl) | exact keeps_self | exact keeps_left | apply keeps_app | apply keeps_mv | apply keeps_skip)) trivial ?_)
      clear hl hh a w; intro vc Fc a w hR hl hh
      obtain ⟨rfl, g', l', G9, hgl, hgo, hlo, hgp, hlp, rfl⟩ := hR
      try simp only [List.cons_append, List.nil_append, List.append_assoc, List.append_nil] at hh
      simp only [GF, List.append_assoc, List.cons_append] at hh
      rw [hgl, hled] at hh
      have hid : (ginP g.pl W.l.pl i).2.1 = 0 := by rw [gi_1 hck]
      refine d_step (fun h => absurd h (by decide)) ?_
      refine d_takeL (i := 7) hl rfl (by kernel_rfl) (by kernel_rfl) (by kernel_rfl) (by kernel_rfl) (by kernel_rfl) rfl trivial (fun _ _ _ h => h) (fun w => r_assign hl rfl) rfl ?_
      clear hl a; intro a hl
      refine d_done (by kernel_rfl) ?_
      try clear hM
      have hl2 := hl.add (t := 0) (hl.add (t := 2) (hl.add (t := 4) (hl.add (t := 7) (hl.add (t := 8) (hl.nil) rfl) rfl) rfl) rfl) rfl; clear hl; have hl := hl2; clear hl2
      refine blk_normal ?_
      refine then_normal ?_
      refine c_seq ?_
      refine c_region ?_
      refine wl (wl_val hl rfl trivial (r_move hl rfl) ?_)
      clear hl a; intro a hl
      refine wl (wl_val hl rfl trivial (r_nilCheck hl rfl) ?_)
      clear hl a; intro a hl
      refine wl (wl_val hl rfl trivial (r_field hl rfl fld55_1) ?_)
      clear hl a; intro a hl
      refine wl (w_load hl hh rfl trivial one50 rfl (by repeat (first | exact find_head | apply find_tail | apply find_skip)) (by first | exact hcg | exact hct | (exact (show (WoV.c { W with l := l', g := some (gb, g'.clr), td := postP W.td g'.out, tp := p6, tc := c6, tE := E6 })[0 + 1]? = some (.pointer (some ⟨gb, 0, none⟩)) from rfl)) | exact wc_g _ | rfl) ?_)
      clear hl a; intro a hl
      refine wl (w_call hl hh rfl trivial rfl cal16 rfl (outbox_spec gb g') (by repeat (first | exact keeps_nil | apply keeps_cons (by repeat (first | exact find_head | apply find_tail | apply find_skip)) (by first  | rfl) | exact keeps_self | exact keeps_left | apply keeps_app | apply keeps_mv | apply keeps_skip)) trivial ?_)
      clear hl hh a w; intro vc Fc a w hR hl hh
      obtain ⟨rfl, rfl⟩ := hR
      try simp only [List.cons_append, List.nil_append, List.append_assoc, List.append_nil] at hh
      refine wl (wl_val hl rfl trivial (r_assign hl rfl) ?_)
      clear hl a; intro a hl
      refine w_nil ?_
      have hl2 := hl.add (t := 0) (hl.add (t := 2) (hl.add (t := 4) (hl.add (t := 7) (hl.add (t := 8) (hl.add (t := 10) (hl.nil) rfl) rfl) rfl) rfl) rfl) rfl; clear hl; have hl := hl2; clear hl2
      refine then_normal ?_
      refine c_seq ?_
      refine c_region ?_
      refine wl (wl_val hl rfl trivial (r_move hl rfl) ?_)
      clear hl a; intro a hl
      refine wl (wl_val hl rfl trivial (r_nilCheck hl rfl) ?_)
      clear hl a; intro a hl
      refine wl (wl_val hl rfl trivial (r_field hl rfl fld55_3) ?_)
      clear hl a; intro a hl
      refine wl (wl_val hl rfl trivial (r_move hl rfl) ?_)
      clear hl a; intro a hl
      refine wl (w_call hl hh rfl trivial rfl cal17 rfl (post_spec wb W.c (0 + 18) W.td W.tp W.tc W.tE hW.t hct hW.tl g'.out g'.op g'.oc g'.oE hgo.o hgo.ol) (by repeat (first | exact keeps_nil | apply keeps_cons (by repeat (first | exact find_head | apply find_tail | apply find_skip)) (by first  | rfl) | exact keeps_self | exact keeps_left | apply keeps_app | apply keeps_mv | apply keeps_skip)) trivial ?_)
      clear hl hh a w; intro vc Fc a w hR hl hh
      obtain ⟨rfl, p6, c6, E6, hR6, rfl⟩ := hR
      try simp only [List.cons_append, List.nil_append, List.append_assoc, List.append_nil] at hh
      have hw1 : wst W.c (0 + 18) (.slice p6 (postP W.td g'.out).length c6) = WoV.c { W with l := l', g := some (gb, g'.clr), td := postP W.td g'.out, tp := p6, tc := c6, tE := E6 } := w1_c W hW.dl hg g'.clr l' p6 _ c6 E6
      rw [hw1] at hh
      have hW1 : WoV.ok (Z ++ G9) { W with l := l', g := some (gb, g'.clr), td := postP W.td g'.out, tp := p6, tc := c6, tE := E6 } := w1_ok hW.app hlo (clr_ok hgo) (hgl.trans hled) rfl rfl hR6 (fun m h9 => ⟨hgo.oo m h9, out_d (i := i) hI hst hdn m (by rw [← hgp]; exact h9)⟩)
      have hbd := gin_id (g := g.pl) (l := W.l.pl) (i := i) hI hdn (par_id i.tx)
      have hsw := fun (id c : Int) (h1 : id = (ginP g.pl W.l.pl i).2.1) (h2 : c = (ginP g.pl W.l.pl i).2.2) => L.saw { W with l := l', g := some (gb, g'.clr), td := postP W.td g'.out, tp := p6, tc := c6, tE := E6 } (Z ++ G9) x x' Fx i p cap gb g'.clr id c g'.out g'.op g'.oc g'.oE hW1 rfl (L.mono hMx) hi.app hgo.o hgo.oo hgo.ol (by rw [h1]; exact hbd.1) (by rw [h2]; exact hbd.2) (by rw [h1, h2]; have h9 := hs; rw [← hgp, ← hlp] at h9; exact h9)
      simp only [WoV.F, WoV.GF, GF, List.append_assoc, List.cons_append, List.nil_append] at hsw
      rw [show g'.clr.led = W.lb from hgl.trans hled] at hsw
      refine w_nil ?_
      have hl2 := hl.add (t := 0) (hl.add (t := 2) (hl.add (t := 4) (hl.add (t := 7) (hl.add (t := 8) (hl.add (t := 10) (hl.nil) rfl) rfl) rfl) rfl) rfl) rfl; clear hl; have hl := hl2; clear hl2
      refine then_normal ?_
      refine c_seq ?_
      refine c_region ?_
      refine wl (wl_val hl rfl trivial (r_move hl rfl) ?_)
      clear hl a; intro a hl
      refine wl (wl_val hl rfl trivial (r_nilCheck hl rfl) ?_)
      clear hl a; intro a hl
      refine wl (wl_val hl rfl trivial (r_field hl rfl fld55_1) ?_)
      clear hl a; intro a hl
      refine wl (w_load hl hh rfl trivial one50 rfl (by repeat (first | exact find_head | apply find_tail | apply find_skip)) (by first | exact hcg | exact hct | (exact (show (WoV.c { W with l := l', g := some (gb, g'.clr), td := postP W.td g'.out, tp := p6, tc := c6, tE := E6 })[0 + 1]? = some (.pointer (some ⟨gb, 0, none⟩)) from rfl)) | exact wc_g _ | rfl) ?_)
      clear hl a; intro a hl
      refine wl (w_call hl hh rfl trivial rfl cal40 rfl (down_spec gb g'.clr) (by repeat (first | exact keeps_nil | apply keeps_cons (by repeat (first | exact find_head | apply find_tail | apply find_skip)) (by first  | rfl) | exact keeps_self | exact keeps_left | apply keeps_app | apply keeps_mv | apply keeps_skip)) trivial ?_)
      clear hl hh a w; intro vc Fc a w hR hl hh
      obtain ⟨rfl, rfl⟩ := hR
      try simp only [List.cons_append, List.nil_append, List.append_assoc, List.append_nil] at hh
      refine wl (wl_val hl rfl trivial (r_assign hl rfl) ?_)
      clear hl a; intro a hl
      refine w_nil ?_
      have hl2 := hl.add (t := 0) (hl.add (t := 2) (hl.add (t := 4) (hl.add (t := 7) (hl.add (t := 8) (hl.add (t := 10) (hl.add (t := 11) (hl.nil) rfl) rfl) rfl) rfl) rfl) rfl) rfl; clear hl; have hl := hl2; clear hl2
      refine then_normal ?_
      refine c_seq ?_
      refine c_seq ?_
      refine c_region ?_
      refine wl (wl_val hl rfl trivial (r_move hl rfl) ?_)
      clear hl a; intro a hl
      refine wl (w_loadA hl hh rfl trivial agg113 rfl (by repeat (first | exact find_head | apply find_tail | apply find_skip)) (by rfl) (by rfl) ?_)
      clear hl a; intro a hl
      refine wl (wl_val hl rfl trivial (r_move hl rfl) ?_)
      clear hl a; intro a hl
      refine wl (wl_val hl rfl trivial (r_move hl rfl) ?_)
      clear hl a; intro a hl
      refine wl (wl_val hl rfl trivial (r_move hl rfl) ?_)
      clear hl a; intro a hl
      refine wl (w_callP hl hh rfl trivial rfl L.dsaw rfl (hsw _ _ (by first | rfl | exact hid.symm | exact wrap_fits (k := .u32) hbd.1) (by first | rfl | exact hcd.symm)) (by repeat (first | exact keeps_nil | apply keeps_cons (by repeat (first | exact find_head | apply find_tail | apply find_skip)) (by first  | rfl) | exact keeps_self | exact keeps_left | apply keeps_app | apply keeps_mv | apply keeps_skip)) trivial ?_)
      clear hl hh a w; intro vc Fc a w hR hl hh
      rcases hR with ⟨rfl, F2, hM2, rfl⟩
      ·
        try simp only [List.cons_append, List.nil_append, List.append_nil] at hh
        try simp only [List.append_assoc, List.cons_append, List.nil_append] at hh
        refine wl (wl_val hl rfl trivial (r_not hl rfl) ?_)
        clear hl a; intro a hl
        refine w_nil ?_
        have hl2 := hl.add (t := 0) (hl.add (t := 2) (hl.add (t := 11) (hl.add (t := 115) (hl.nil) rfl) rfl) rfl) rfl; clear hl; have hl := hl2; clear hl2
        refine then_normal ?_
        refine c_condF hl rfl ?_
        refine wp_skip ?_
        refine then_normal ?_
        refine c_seq ?_
        refine c_seq ?_
        refine c_region ?_
        refine wl (wl_val hl rfl trivial (r_move hl rfl) ?_)
        clear hl a; intro a hl
        refine w_nil ?_
        have hl2 := hl.add (t := 0) (hl.add (t := 2) (hl.add (t := 116) (hl.nil) rfl) rfl) rfl; clear hl; have hl := hl2; clear hl2
        refine then_normal ?_
        refine c_cond hl rfl ?_ ?_
        · intro hc9
          try simp only [decide_eq_true_eq, decide_eq_false_iff_not, Bool.not_eq_true', Bool.not_eq_false', Bool.not_eq_true, Bool.not_eq_false, Bool.and_eq_true, Bool.or_eq_true, Bool.and_eq_false_iff, Bool.or_eq_false_iff, Bool.not_not, ne_eq, Int.not_lt, Int.not_le, Decidable.not_not, beq_iff_eq, bne_iff_ne] at hc9
          refine c_seq ?_
          refine c_region ?_
          refine wl (wl_val hl rfl trivial (r_move hl rfl) ?_)
          clear hl a; intro a hl
          refine wl (wl_val hl rfl trivial (r_nilCheck hl rfl) ?_)
          clear hl a; intro a hl
          refine wl (wl_val hl rfl trivial (r_field hl rfl fld55_1) ?_)
          clear hl a; intro a hl
          refine wl (w_store hl hh trivial one50 rfl rfl (by repeat (first | exact find_head | apply find_tail | apply find_skip)) (by first | (simp; done) | (simp; omega) | (rw [wc_len _ hW1.dl]; omega) | (rw [wc_len _ hW1.dl]; simp; done)) (by first | rfl | assumption | (apply Row.one; assumption)) (by first | exact wc_sg _ none | (simp only [setL, List.getElem?_cons_zero, List.getElem?_cons_succ, Value.cells, List.take_zero, List.take_succ_cons, List.take_nil, List.drop_zero, List.drop_succ_cons, List.drop_nil, List.length_cons, List.length_nil, List.cons_append, List.nil_append, List.append_nil, Nat.zero_add, Nat.add_zero, Nat.reduceAdd, Nat.reduceBEq, Nat.reduceEqDiff, Nat.ble, BEq.rfl, Bool.and_true, Bool.and_self, cond_true, beq_self_eq_true]; rfl)) ?_)
          clear hh w; intro w hh
          refine w_nil ?_
          have hl2 := hl.add (t := 2) (hl.nil) rfl; clear hl; have hl := hl2; clear hl2
          refine then_normal ?_
          refine c_region ?_
          refine wl (wl_val hl rfl trivial (r_move hl rfl) ?_)
          clear hl a; intro a hl
          refine wl (w_callP hl hh rfl trivial rfl L.dfell rfl (L.fell (Z ++ G9) x' F2 hM2) (by repeat (first | exact keeps_nil | apply keeps_cons (by repeat (first | exact find_head | apply find_tail | apply find_skip)) (by first  | rfl) | exact keeps_self | exact keeps_left | apply keeps_app | apply keeps_mv | apply keeps_skip)) trivial ?_)
          clear hl hh a w; intro vc Fc a w hR hl hh
          obtain ⟨rfl, hM3⟩ := hR
          try simp only [List.cons_append, List.nil_append, List.append_assoc, List.append_nil] at hh
          generalize Fc = F3 at hh hM3
          try simp only [List.append_assoc, List.cons_append, List.nil_append] at hh
          refine w_nil ?_
          have hl2 := hl.nil; clear hl; have hl := hl2; clear hl2
          refine then_normal ?_
          refine c_seq ?_
          refine c_region ?_
          refine wl (wl_val hl rfl trivial (r_assign hl rfl) ?_)
          clear hl a; intro a hl
          refine w_nil ?_
          have hl2 := hl.add (t := 6) (hl.nil) rfl; clear hl; have hl := hl2; clear hl2
          refine then_normal ?_
          refine wp_ret ?_
          first
          | (have hq := hM3; refine f_ret1 (F' := F3 ++ ((wb, C (WoV.c { W with l := l', g := none, td := postP W.td g'.out, tp := p6, tc := c6, tE := E6 }) 55) :: (E6 ++ (W.gE ++ (DsF W.ds ++ ((W.lb, C l'.c 91) :: (l'.d.E ++ (Z ++ G9)))))))) hl hh rfl rfl (by repeat (first | exact keeps_nil | apply keeps_cons (by repeat (first | exact find_head | apply find_tail | apply find_skip)) (by first  | rfl) | exact keeps_self | exact keeps_left | apply keeps_app | apply keeps_mv | apply keeps_skip)) ?_; refine ⟨rfl, { W with l := l', g := none, td := postP W.td g'.out, tp := p6, tc := c6, tE := E6 }, G9, F3, ⟨hlo, fun y hy => (by cases hy), hW.dl, hW.ds, hW1.t, hW1.to, hW1.tl, hW.r, hW.ro, hW.rl⟩, fun xd xg => (fedG_pl hg hgp hlp p6 c6 E6 xd xg).1 hc9, ?_, rfl⟩; (rw [if_pos (by rw [← hgp]; exact hc9)]; exact hM3))
          | (refine f_ret1 (F' := F2 ++ ((wb, C (WoV.c { W with l := l', g := some (gb, g'.clr), td := postP W.td g'.out, tp := p6, tc := c6, tE := E6 }) 55) :: (E6 ++ (W.gE ++ (DsF W.ds ++ ((gb, C (GtV.c g'.clr) 127) :: (g'.st.E ++ (g'.qE ++ ((g'.rb, MD (kInt .u32) g'.rl g'.rn) :: ((W.lb, C l'.c 91) :: (l'.d.E ++ (Z ++ G9)))))))))))) hl hh rfl rfl (by repeat (first | exact keeps_nil | apply keeps_cons (by repeat (first | exact find_head | apply find_tail | apply find_skip)) (by first  | rfl) | exact keeps_self | exact keeps_left | apply keeps_app | apply keeps_mv | apply keeps_skip)) ?_; refine ⟨rfl, { W with l := l', g := some (gb, g'.clr), td := postP W.td g'.out, tp := p6, tc := c6, tE := E6 }, G9, F2, hW1, fun xd xg => (fedG_pl hg hgp hlp p6 c6 E6 xd xg).2 hc9, ?_, ?_⟩; (rw [if_neg (by rw [← hgp]; show ¬ g'.off = true; rw [show g'.off = false from hc9]; simp)]; exact hM2); (simp only [WoV.F, WoV.GF, GF, List.append_assoc, List.cons_append, List.nil_append]; rw [show g'.clr.led = W.lb from hgl.trans hled]; rfl))
        · intro hc9
          try simp only [decide_eq_true_eq, decide_eq_false_iff_not, Bool.not_eq_true', Bool.not_eq_false', Bool.not_eq_true, Bool.not_eq_false, Bool.and_eq_true, Bool.or_eq_true, Bool.and_eq_false_iff, Bool.or_eq_false_iff, Bool.not_not, ne_eq, Int.not_lt, Int.not_le, Decidable.not_not, beq_iff_eq, bne_iff_ne] at hc9
          refine wp_skip ?_
          refine then_normal ?_
          refine c_seq ?_
          refine c_region ?_
          refine wl (wl_val hl rfl trivial (r_assign hl rfl) ?_)
          clear hl a; intro a hl
          refine w_nil ?_
          have hl2 := hl.add (t := 6) (hl.nil) rfl; clear hl; have hl := hl2; clear hl2
          refine then_normal ?_
          refine wp_ret ?_
          first
          | (have hq := hM3; refine f_ret1 (F' := F3 ++ ((wb, C (WoV.c { W with l := l', g := none, td := postP W.td g'.out, tp := p6, tc := c6, tE := E6 }) 55) :: (E6 ++ (W.gE ++ (DsF W.ds ++ ((W.lb, C l'.c 91) :: (l'.d.E ++ (Z ++ G9)))))))) hl hh rfl rfl (by repeat (first | exact keeps_nil | apply keeps_cons (by repeat (first | exact find_head | apply find_tail | apply find_skip)) (by first  | rfl) | exact keeps_self | exact keeps_left | apply keeps_app | apply keeps_mv | apply keeps_skip)) ?_; refine ⟨rfl, { W with l := l', g := none, td := postP W.td g'.out, tp := p6, tc := c6, tE := E6 }, G9, F3, ⟨hlo, fun y hy => (by cases hy), hW.dl, hW.ds, hW1.t, hW1.to, hW1.tl, hW.r, hW.ro, hW.rl⟩, fun xd xg => (fedG_pl hg hgp hlp p6 c6 E6 xd xg).1 hc9, ?_, rfl⟩; (rw [if_pos (by rw [← hgp]; exact hc9)]; exact hM3))
          | (refine f_ret1 (F' := F2 ++ ((wb, C (WoV.c { W with l := l', g := some (gb, g'.clr), td := postP W.td g'.out, tp := p6, tc := c6, tE := E6 }) 55) :: (E6 ++ (W.gE ++ (DsF W.ds ++ ((gb, C (GtV.c g'.clr) 127) :: (g'.st.E ++ (g'.qE ++ ((g'.rb, MD (kInt .u32) g'.rl g'.rn) :: ((W.lb, C l'.c 91) :: (l'.d.E ++ (Z ++ G9)))))))))))) hl hh rfl rfl (by repeat (first | exact keeps_nil | apply keeps_cons (by repeat (first | exact find_head | apply find_tail | apply find_skip)) (by first  | rfl) | exact keeps_self | exact keeps_left | apply keeps_app | apply keeps_mv | apply keeps_skip)) ?_; refine ⟨rfl, { W with l := l', g := some (gb, g'.clr), td := postP W.td g'.out, tp := p6, tc := c6, tE := E6 }, G9, F2, hW1, fun xd xg => (fedG_pl hg hgp hlp p6 c6 E6 xd xg).2 hc9, ?_, ?_⟩; (rw [if_neg (by rw [← hgp]; show ¬ g'.off = true; rw [show g'.off = false from hc9]; simp)]; exact hM2); (simp only [WoV.F, WoV.GF, GF, List.append_assoc, List.cons_append, List.nil_append]; rw [show g'.clr.led = W.lb from hgl.trans hled]; rfl))
    · intro hc1
      try simp only [decide_eq_true_eq, decide_eq_false_iff_not, Bool.not_eq_true', Bool.not_eq_false', Bool.not_eq_true, Bool.not_eq_false, Bool.and_eq_true, Bool.or_eq_true, Bool.and_eq_false_iff, Bool.or_eq_false_iff, Bool.not_not, ne_eq, Int.not_lt, Int.not_le, Decidable.not_not, beq_iff_eq, bne_iff_ne] at hc1
      refine c_seq ?_
      refine c_region ?_
      refine wl (wl_val hl rfl trivial (r_eql hl rfl rfl) ?_)
      clear hl a; intro a hl
      refine wl (wl_val hl rfl trivial (r_assign hl rfl) ?_)
      clear hl a; intro a hl
      refine w_nil ?_
      have hl2 := hl.add (t := 0) (hl.add (t := 2) (hl.add (t := 4) (hl.add (t := 7) (hl.add (t := 8) (hl.add (t := 13) (hl.add (t := 35) (hl.nil) rfl) rfl) rfl) rfl) rfl) rfl) rfl; clear hl; have hl := hl2; clear hl2
      refine then_normal ?_
      refine c_cond hl rfl ?_ ?_
      · intro hc2
        try simp only [decide_eq_true_eq, decide_eq_false_iff_not, Bool.not_eq_true', Bool.not_eq_false', Bool.not_eq_true, Bool.not_eq_false, Bool.and_eq_true, Bool.or_eq_true, Bool.and_eq_false_iff, Bool.or_eq_false_iff, Bool.not_not, ne_eq, Int.not_lt, Int.not_le, Decidable.not_not, beq_iff_eq, bne_iff_ne] at hc2
        have hck : i.k = 2 := by omega
        refine c_draw [(wb, C W.c 55), (k4, C [.int .u8 i.k, .int .u32 i.id, .int .u32 i.i2, .slice p i.tx.length cap, .int .u8 i.v.k, .int .u8 i.v.a, .int .u8 i.v.b, .int .u8 i.v.w, .int .u8 i.v.da, .int .u8 i.v.dl, .int .u8 i.m.k, .int .u8 i.m.d, .int .u32 i.m.e, .int .u32 i.m.b, .bool i.m.y, .int .u32 i.m.r, .int .u32 i.m.s, .string i.m.t] 113)] [6, 7] mixed hh ?_
        clear hh w; intro w hh
        have hM : Mem [(wb, C W.c 55), (k4, C [.int .u8 i.k, .int .u32 i.id, .int .u32 i.i2, .slice p i.tx.length cap, .int .u8 i.v.k, .int .u8 i.v.a, .int .u8 i.v.b, .int .u8 i.v.w, .int .u8 i.v.da, .int .u8 i.v.dl, .int .u8 i.m.k, .int .u8 i.m.d, .int .u32 i.m.e, .int .u32 i.m.b, .bool i.m.y, .int .u32 i.m.r, .int .u32 i.m.s, .string i.m.t] 113)] w := (memK hh (by repeat (first | exact keeps_nil | apply keeps_cons (by repeat (first | exact find_head | apply find_tail | apply find_skip)) (by first  | rfl) | exact keeps_self | exact keeps_left | apply keeps_app | apply keeps_mv | apply keeps_skip)))
        refine d_take (i := 0) hl rfl (by kernel_rfl) (by kernel_rfl) (by kernel_rfl) (by kernel_rfl) (by kernel_rfl) rfl trivial (fun _ _ _ h => h) hM (fun w hC => r_move hl rfl) rfl ?_
        clear hl a; intro a hl
        refine d_take (i := 1) hl rfl (by kernel_rfl) (by kernel_rfl) (by kernel_rfl) (by kernel_rfl) (by kernel_rfl) rfl trivial (fun _ _ _ h => h) hM (fun w hC => r_nilCheck hl rfl) rfl ?_
        clear hl a; intro a hl
        refine d_take (i := 2) hl rfl (by kernel_rfl) (by kernel_rfl) (by kernel_rfl) (by kernel_rfl) (by kernel_rfl) rfl trivial (fun _ _ _ h => h) hM (fun w hC => r_field hl rfl fld55_1) rfl ?_
        clear hl a; intro a hl
        refine d_take (i := 3) hl rfl (by kernel_rfl) (by kernel_rfl) (by kernel_rfl) (by kernel_rfl) (by kernel_rfl) rfl trivial (fun _ _ _ h => h) hM (fun w hC => r_loadC hl rfl one50 hC (by repeat (first | exact find_head | apply find_tail | apply find_skip)) (by first | exact hcg | exact hct | (exact (show (WoV.c { W with l := l', g := some (gb, g'.clr), td := postP W.td g'.out, tp := p6, tc := c6, tE := E6 })[0 + 1]? = some (.pointer (some ⟨gb, 0, none⟩)) from rfl)) | exact wc_g _ | rfl)) rfl ?_
        clear hl a; intro a hl
        refine d_take (i := 4) hl rfl (by kernel_rfl) (by kernel_rfl) (by kernel_rfl) (by kernel_rfl) (by kernel_rfl) rfl trivial (fun _ _ _ h => h) hM (fun w hC => r_field hl rfl fld113_1) rfl ?_
        clear hl a; intro a hl
        refine d_take (i := 5) hl rfl (by kernel_rfl) (by kernel_rfl) (by kernel_rfl) (by kernel_rfl) (by kernel_rfl) rfl trivial (fun _ _ _ h => h) hM (fun w hC => r_loadC hl rfl one36 hC (by repeat (first | exact find_head | apply find_tail | apply find_skip)) (by first | exact hcg | exact hct | (exact (show (WoV.c { W with l := l', g := some (gb, g'.clr), td := postP W.td g'.out, tp := p6, tc := c6, tE := E6 })[0 + 1]? = some (.pointer (some ⟨gb, 0, none⟩)) from rfl)) | exact wc_g _ | rfl)) rfl ?_
        clear hl a; intro a hl
        refine d_one (i := 6) (by kernel_rfl) rfl ?_
        try clear hM
        refine id (w_call hl hh rfl trivial rfl cal34 rfl (in_abort Z gb g W.l hgok hW.l hI hvs i p cap hi hck) (by repeat (first | exact keeps_nil | apply keeps_cons (by repeat (first | exact find_head | apply find_tail | apply find_skip)) (by first  | rfl) | exact keeps_self | exact keeps_left | apply keeps_app | apply keeps_mv | apply keeps_skip)) trivial ?_)
        clear hl hh a w; intro vc Fc a w hR hl hh
        obtain ⟨rfl, g', l', G9, hgl, hgo, hlo, hgp, hlp, rfl⟩ := hR
        try simp only [List.cons_append, List.nil_append, List.append_assoc, List.append_nil] at hh
        simp only [GF, List.append_assoc, List.cons_append] at hh
        rw [hgl, hled] at hh
        have hid : (ginP g.pl W.l.pl i).2.1 = 0 := by rw [gi_2 hck]
        refine d_step (fun h => absurd h (by decide)) ?_
        refine d_takeL (i := 7) hl rfl (by kernel_rfl) (by kernel_rfl) (by kernel_rfl) (by kernel_rfl) (by kernel_rfl) rfl trivial (fun _ _ _ h => h) (fun w => r_assign hl rfl) rfl ?_
        clear hl a; intro a hl
        refine d_done (by kernel_rfl) ?_
        try clear hM
        have hl2 := hl.add (t := 0) (hl.add (t := 2) (hl.add (t := 4) (hl.add (t := 7) (hl.add (t := 8) (hl.nil) rfl) rfl) rfl) rfl) rfl; clear hl; have hl := hl2; clear hl2
        refine blk_normal ?_
        refine then_normal ?_
        refine c_seq ?_
        refine c_region ?_
        refine wl (wl_val hl rfl trivial (r_move hl rfl) ?_)
        clear hl a; intro a hl
        refine wl (wl_val hl rfl trivial (r_nilCheck hl rfl) ?_)
        clear hl a; intro a hl
        refine wl (wl_val hl rfl trivial (r_field hl rfl fld55_1) ?_)
        clear hl a; intro a hl
        refine wl (w_load hl hh rfl trivial one50 rfl (by repeat (first | exact find_head | apply find_tail | apply find_skip)) (by first | exact hcg | exact hct | (exact (show (WoV.c { W with l := l', g := some (gb, g'.clr), td := postP W.td g'.out, tp := p6, tc := c6, tE := E6 })[0 + 1]? = some (.pointer (some ⟨gb, 0, none⟩)) from rfl)) | exact wc_g _ | rfl) ?_)
        clear hl a; intro a hl
        refine wl (w_call hl hh rfl trivial rfl cal16 rfl (outbox_spec gb g') (by repeat (first | exact keeps_nil | apply keeps_cons (by repeat (first | exact find_head | apply find_tail | apply find_skip)) (by first  | rfl) | exact keeps_self | exact keeps_left | apply keeps_app | apply keeps_mv | apply keeps_skip)) trivial ?_)
        clear hl hh a w; intro vc Fc a w hR hl hh
        obtain ⟨rfl, rfl⟩ := hR
        try simp only [List.cons_append, List.nil_append, List.append_assoc, List.append_nil] at hh
        refine wl (wl_val hl rfl trivial (r_assign hl rfl) ?_)
        clear hl a; intro a hl
        refine w_nil ?_
        have hl2 := hl.add (t := 0) (hl.add (t := 2) (hl.add (t := 4) (hl.add (t := 7) (hl.add (t := 8) (hl.add (t := 10) (hl.nil) rfl) rfl) rfl) rfl) rfl) rfl; clear hl; have hl := hl2; clear hl2
        refine then_normal ?_
        refine c_seq ?_
        refine c_region ?_
        refine wl (wl_val hl rfl trivial (r_move hl rfl) ?_)
        clear hl a; intro a hl
        refine wl (wl_val hl rfl trivial (r_nilCheck hl rfl) ?_)
        clear hl a; intro a hl
        refine wl (wl_val hl rfl trivial (r_field hl rfl fld55_3) ?_)
        clear hl a; intro a hl
        refine wl (wl_val hl rfl trivial (r_move hl rfl) ?_)
        clear hl a; intro a hl
        refine wl (w_call hl hh rfl trivial rfl cal17 rfl (post_spec wb W.c (0 + 18) W.td W.tp W.tc W.tE hW.t hct hW.tl g'.out g'.op g'.oc g'.oE hgo.o hgo.ol) (by repeat (first | exact keeps_nil | apply keeps_cons (by repeat (first | exact find_head | apply find_tail | apply find_skip)) (by first  | rfl) | exact keeps_self | exact keeps_left | apply keeps_app | apply keeps_mv | apply keeps_skip)) trivial ?_)
        clear hl hh a w; intro vc Fc a w hR hl hh
        obtain ⟨rfl, p6, c6, E6, hR6, rfl⟩ := hR
        try simp only [List.cons_append, List.nil_append, List.append_assoc, List.append_nil] at hh
        have hw1 : wst W.c (0 + 18) (.slice p6 (postP W.td g'.out).length c6) = WoV.c { W with l := l', g := some (gb, g'.clr), td := postP W.td g'.out, tp := p6, tc := c6, tE := E6 } := w1_c W hW.dl hg g'.clr l' p6 _ c6 E6
        rw [hw1] at hh
        have hW1 : WoV.ok (Z ++ G9) { W with l := l', g := some (gb, g'.clr), td := postP W.td g'.out, tp := p6, tc := c6, tE := E6 } := w1_ok hW.app hlo (clr_ok hgo) (hgl.trans hled) rfl rfl hR6 (fun m h9 => ⟨hgo.oo m h9, out_d (i := i) hI hst hdn m (by rw [← hgp]; exact h9)⟩)
        have hbd := gin_id (g := g.pl) (l := W.l.pl) (i := i) hI hdn (par_id i.tx)
        have hsw := fun (id c : Int) (h1 : id = (ginP g.pl W.l.pl i).2.1) (h2 : c = (ginP g.pl W.l.pl i).2.2) => L.saw { W with l := l', g := some (gb, g'.clr), td := postP W.td g'.out, tp := p6, tc := c6, tE := E6 } (Z ++ G9) x x' Fx i p cap gb g'.clr id c g'.out g'.op g'.oc g'.oE hW1 rfl (L.mono hMx) hi.app hgo.o hgo.oo hgo.ol (by rw [h1]; exact hbd.1) (by rw [h2]; exact hbd.2) (by rw [h1, h2]; have h9 := hs; rw [← hgp, ← hlp] at h9; exact h9)
        simp only [WoV.F, WoV.GF, GF, List.append_assoc, List.cons_append, List.nil_append] at hsw
        rw [show g'.clr.led = W.lb from hgl.trans hled] at hsw
        refine w_nil ?_
        have hl2 := hl.add (t := 0) (hl.add (t := 2) (hl.add (t := 4) (hl.add (t := 7) (hl.add (t := 8) (hl.add (t := 10) (hl.nil) rfl) rfl) rfl) rfl) rfl) rfl; clear hl; have hl := hl2; clear hl2
        refine then_normal ?_
        refine c_seq ?_
        refine c_region ?_
        refine wl (wl_val hl rfl trivial (r_move hl rfl) ?_)
        clear hl a; intro a hl
        refine wl (wl_val hl rfl trivial (r_nilCheck hl rfl) ?_)
        clear hl a; intro a hl
        refine wl (wl_val hl rfl trivial (r_field hl rfl fld55_1) ?_)
        clear hl a; intro a hl
        refine wl (w_load hl hh rfl trivial one50 rfl (by repeat (first | exact find_head | apply find_tail | apply find_skip)) (by first | exact hcg | exact hct | (exact (show (WoV.c { W with l := l', g := some (gb, g'.clr), td := postP W.td g'.out, tp := p6, tc := c6, tE := E6 })[0 + 1]? = some (.pointer (some ⟨gb, 0, none⟩)) from rfl)) | exact wc_g _ | rfl) ?_)
        clear hl a; intro a hl
        refine wl (w_call hl hh rfl trivial rfl cal40 rfl (down_spec gb g'.clr) (by repeat (first | exact keeps_nil | apply keeps_cons (by repeat (first | exact find_head | apply find_tail | apply find_skip)) (by first  | rfl) | exact keeps_self | exact keeps_left | apply keeps_app | apply keeps_mv | apply keeps_skip)) trivial ?_)
        clear hl hh a w; intro vc Fc a w hR hl hh
        obtain ⟨rfl, rfl⟩ := hR
        try simp only [List.cons_append, List.nil_append, List.append_assoc, List.append_nil] at hh
        refine wl (wl_val hl rfl trivial (r_assign hl rfl) ?_)
        clear hl a; intro a hl
        refine w_nil ?_
        have hl2 := hl.add (t := 0) (hl.add (t := 2) (hl.add (t := 4) (hl.add (t := 7) (hl.add (t := 8) (hl.add (t := 10) (hl.add (t := 11) (hl.nil) rfl) rfl) rfl) rfl) rfl) rfl) rfl; clear hl; have hl := hl2; clear hl2
        refine then_normal ?_
        refine c_seq ?_
        refine c_seq ?_
        refine c_region ?_
        refine wl (wl_val hl rfl trivial (r_move hl rfl) ?_)
        clear hl a; intro a hl
        refine wl (w_loadA hl hh rfl trivial agg113 rfl (by repeat (first | exact find_head | apply find_tail | apply find_skip)) (by rfl) (by rfl) ?_)
        clear hl a; intro a hl
        refine wl (wl_val hl rfl trivial (r_move hl rfl) ?_)
        clear hl a; intro a hl
        refine wl (wl_val hl rfl trivial (r_move hl rfl) ?_)
        clear hl a; intro a hl
        refine wl (wl_val hl rfl trivial (r_move hl rfl) ?_)
        clear hl a; intro a hl
        refine wl (w_callP hl hh rfl trivial rfl L.dsaw rfl (hsw _ _ (by first | rfl | exact hid.symm | exact wrap_fits (k := .u32) hbd.1) (by first | rfl | exact hcd.symm)) (by repeat (first | exact keeps_nil | apply keeps_cons (by repeat (first | exact find_head | apply find_tail | apply find_skip)) (by first  | rfl) | exact keeps_self | exact keeps_left | apply keeps_app | apply keeps_mv | apply keeps_skip)) trivial ?_)
        clear hl hh a w; intro vc Fc a w hR hl hh
        rcases hR with ⟨rfl, F2, hM2, rfl⟩
        ·
          try simp only [List.cons_append, List.nil_append, List.append_nil] at hh
          try simp only [List.append_assoc, List.cons_append, List.nil_append] at hh
          refine wl (wl_val hl rfl trivial (r_not hl rfl) ?_)
          clear hl a; intro a hl
          refine w_nil ?_
          have hl2 := hl.add (t := 0) (hl.add (t := 2) (hl.add (t := 11) (hl.add (t := 115) (hl.nil) rfl) rfl) rfl) rfl; clear hl; have hl := hl2; clear hl2
          refine then_normal ?_
          refine c_condF hl rfl ?_
          refine wp_skip ?_
          refine then_normal ?_
          refine c_seq ?_
          refine c_seq ?_
          refine c_region ?_
          refine wl (wl_val hl rfl trivial (r_move hl rfl) ?_)
          clear hl a; intro a hl
          refine w_nil ?_
          have hl2 := hl.add (t := 0) (hl.add (t := 2) (hl.add (t := 116) (hl.nil) rfl) rfl) rfl; clear hl; have hl := hl2; clear hl2
          refine then_normal ?_
          refine c_cond hl rfl ?_ ?_
          · intro hc9
            try simp only [decide_eq_true_eq, decide_eq_false_iff_not, Bool.not_eq_true', Bool.not_eq_false', Bool.not_eq_true, Bool.not_eq_false, Bool.and_eq_true, Bool.or_eq_true, Bool.and_eq_false_iff, Bool.or_eq_false_iff, Bool.not_not, ne_eq, Int.not_lt, Int.not_le, Decidable.not_not, beq_iff_eq, bne_iff_ne] at hc9
            refine c_seq ?_
            refine c_region ?_
            refine wl (wl_val hl rfl trivial (r_move hl rfl) ?_)
            clear hl a; intro a hl
            refine wl (wl_val hl rfl trivial (r_nilCheck hl rfl) ?_)
            clear hl a; intro a hl
            refine wl (wl_val hl rfl trivial (r_field hl rfl fld55_1) ?_)
            clear hl a; intro a hl
            refine wl (w_store hl hh trivial one50 rfl rfl (by repeat (first | exact find_head | apply find_tail | apply find_skip)) (by first | (simp; done) | (simp; omega) | (rw [wc_len _ hW1.dl]; omega) | (rw [wc_len _ hW1.dl]; simp; done)) (by first | rfl | assumption | (apply Row.one; assumption)) (by first | exact wc_sg _ none | (simp only [setL, List.getElem?_cons_zero, List.getElem?_cons_succ, Value.cells, List.take_zero, List.take_succ_cons, List.take_nil, List.drop_zero, List.drop_succ_cons, List.drop_nil, List.length_cons, List.length_nil, List.cons_append, List.nil_append, List.append_nil, Nat.zero_add, Nat.add_zero, Nat.reduceAdd, Nat.reduceBEq, Nat.reduceEqDiff, Nat.ble, BEq.rfl, Bool.and_true, Bool.and_self, cond_true, beq_self_eq_true]; rfl)) ?_)
            clear hh w; intro w hh
            refine w_nil ?_
            have hl2 := hl.add (t := 2) (hl.nil) rfl; clear hl; have hl := hl2; clear hl2
            refine then_normal ?_
            refine c_region ?_
            refine wl (wl_val hl rfl trivial (r_move hl rfl) ?_)
            clear hl a; intro a hl
            refine wl (w_callP hl hh rfl trivial rfl L.dfell rfl (L.fell (Z ++ G9) x' F2 hM2) (by repeat (first | exact keeps_nil | apply keeps_cons (by repeat (first | exact find_head | apply find_tail | apply find_skip)) (by first  | rfl) | exact keeps_self | exact keeps_left | apply keeps_app | apply keeps_mv | apply keeps_skip)) trivial ?_)
            clear hl hh a w; intro vc Fc a w hR hl hh
            obtain ⟨rfl, hM3⟩ := hR
            try simp only [List.cons_append, List.nil_append, List.append_assoc, List.append_nil] at hh
            generalize Fc = F3 at hh hM3
            try simp only [List.append_assoc, List.cons_append, List.nil_append] at hh
            refine w_nil ?_
            have hl2 := hl.nil; clear hl; have hl := hl2; clear hl2
            refine then_normal ?_
            refine c_seq ?_
            refine c_region ?_
            refine wl (wl_val hl rfl trivial (r_assign hl rfl) ?_)
            clear hl a; intro a hl
            refine w_nil ?_
            have hl2 := hl.add (t := 6) (hl.nil) rfl; clear hl; have hl := hl2; clear hl2
            refine then_normal ?_
            refine wp_ret ?_
            first
            | (have hq := hM3; refine f_ret1 (F' := F3 ++ ((wb, C (WoV.c { W with l := l', g := none, td := postP W.td g'.out, tp := p6, tc := c6, tE := E6 }) 55) :: (E6 ++ (W.gE ++ (DsF W.ds ++ ((W.lb, C l'.c 91) :: (l'.d.E ++ (Z ++ G9)))))))) hl hh rfl rfl (by repeat (first | exact keeps_nil | apply keeps_cons (by repeat (first | exact find_head | apply find_tail | apply find_skip)) (by first  | rfl) | exact keeps_self | exact keeps_left | apply keeps_app | apply keeps_mv | apply keeps_skip)) ?_; refine ⟨rfl, { W with l := l', g := none, td := postP W.td g'.out, tp := p6, tc := c6, tE := E6 }, G9, F3, ⟨hlo, fun y hy => (by cases hy), hW.dl, hW.ds, hW1.t, hW1.to, hW1.tl, hW.r, hW.ro, hW.rl⟩, fun xd xg => (fedG_pl hg hgp hlp p6 c6 E6 xd xg).1 hc9, ?_, rfl⟩; (rw [if_pos (by rw [← hgp]; exact hc9)]; exact hM3))
            | (refine f_ret1 (F' := F2 ++ ((wb, C (WoV.c { W with l := l', g := some (gb, g'.clr), td := postP W.td g'.out, tp := p6, tc := c6, tE := E6 }) 55) :: (E6 ++ (W.gE ++ (DsF W.ds ++ ((gb, C (GtV.c g'.clr) 127) :: (g'.st.E ++ (g'.qE ++ ((g'.rb, MD (kInt .u32) g'.rl g'.rn) :: ((W.lb, C l'.c 91) :: (l'.d.E ++ (Z ++ G9)))))))))))) hl hh rfl rfl (by repeat (first | exact keeps_nil | apply keeps_cons (by repeat (first | exact find_head | apply find_tail | apply find_skip)) (by first  | rfl) | exact keeps_self | exact keeps_left | apply keeps_app | apply keeps_mv | apply keeps_skip)) ?_; refine ⟨rfl, { W with l := l', g := some (gb, g'.clr), td := postP W.td g'.out, tp := p6, tc := c6, tE := E6 }, G9, F2, hW1, fun xd xg => (fedG_pl hg hgp hlp p6 c6 E6 xd xg).2 hc9, ?_, ?_⟩; (rw [if_neg (by rw [← hgp]; show ¬ g'.off = true; rw [show g'.off = false from hc9]; simp)]; exact hM2); (simp only [WoV.F, WoV.GF, GF, List.append_assoc, List.cons_append, List.nil_append]; rw [show g'.clr.led = W.lb from hgl.trans hled]; rfl))
          · intro hc9
            try simp only [decide_eq_true_eq, decide_eq_false_iff_not, Bool.not_eq_true', Bool.not_eq_false', Bool.not_eq_true, Bool.not_eq_false, Bool.and_eq_true, Bool.or_eq_true, Bool.and_eq_false_iff, Bool.or_eq_false_iff, Bool.not_not, ne_eq, Int.not_lt, Int.not_le, Decidable.not_not, beq_iff_eq, bne_iff_ne] at hc9
            refine wp_skip ?_
            refine then_normal ?_
            refine c_seq ?_
            refine c_region ?_
            refine wl (wl_val hl rfl trivial (r_assign hl rfl) ?_)
            clear hl a; intro a hl
            refine w_nil ?_
            have hl2 := hl.add (t := 6) (hl.nil) rfl; clear hl; have hl := hl2; clear hl2
            refine then_normal ?_
            refine wp_ret ?_
            first
            | (have hq := hM3; refine f_ret1 (F' := F3 ++ ((wb, C (WoV.c { W with l := l', g := none, td := postP W.td g'.out, tp := p6, tc := c6, tE := E6 }) 55) :: (E6 ++ (W.gE ++ (DsF W.ds ++ ((W.lb, C l'.c 91) :: (l'.d.E ++ (Z ++ G9)))))))) hl hh rfl rfl (by repeat (first | exact keeps_nil | apply keeps_cons (by repeat (first | exact find_head | apply find_tail | apply find_skip)) (by first  | rfl) | exact keeps_self | exact keeps_left | apply keeps_app | apply keeps_mv | apply keeps_skip)) ?_; refine ⟨rfl, { W with l := l', g := none, td := postP W.td g'.out, tp := p6, tc := c6, tE := E6 }, G9, F3, ⟨hlo, fun y hy => (by cases hy), hW.dl, hW.ds, hW1.t, hW1.to, hW1.tl, hW.r, hW.ro, hW.rl⟩, fun xd xg => (fedG_pl hg hgp hlp p6 c6 E6 xd xg).1 hc9, ?_, rfl⟩; (rw [if_pos (by rw [← hgp]; exact hc9)]; exact hM3))
            | (refine f_ret1 (F' := F2 ++ ((wb, C (WoV.c { W with l := l', g := some (gb, g'.clr), td := postP W.td g'.out, tp := p6, tc := c6, tE := E6 }) 55) :: (E6 ++ (W.gE ++ (DsF W.ds ++ ((gb, C (GtV.c g'.clr) 127) :: (g'.st.E ++ (g'.qE ++ ((g'.rb, MD (kInt .u32) g'.rl g'.rn) :: ((W.lb, C l'.c 91) :: (l'.d.E ++ (Z ++ G9)))))))))))) hl hh rfl rfl (by repeat (first | exact keeps_nil | apply keeps_cons (by repeat (first | exact find_head | apply find_tail | apply find_skip)) (by first  | rfl) | exact keeps_self | exact keeps_left | apply keeps_app | apply keeps_mv | apply keeps_skip)) ?_; refine ⟨rfl, { W with l := l', g := some (gb, g'.clr), td := postP W.td g'.out, tp := p6, tc := c6, tE := E6 }, G9, F2, hW1, fun xd xg => (fedG_pl hg hgp hlp p6 c6 E6 xd xg).2 hc9, ?_, ?_⟩; (rw [if_neg (by rw [← hgp]; show ¬ g'.off = true; rw [show g'.off = false from hc9]; simp)]; exact hM2); (simp only [WoV.F, WoV.GF, GF, List.append_assoc, List.cons_append, List.nil_append]; rw [show g'.clr.led = W.lb from hgl.trans hled]; rfl))
      · intro hc2
        try simp only [decide_eq_true_eq, decide_eq_false_iff_not, Bool.not_eq_true', Bool.not_eq_false', Bool.not_eq_true, Bool.not_eq_false, Bool.and_eq_true, Bool.or_eq_true, Bool.and_eq_false_iff, Bool.or_eq_false_iff, Bool.not_not, ne_eq, Int.not_lt, Int.not_le, Decidable.not_not, beq_iff_eq, bne_iff_ne] at hc2
        refine c_seq ?_
        refine c_region ?_
        refine wl (wl_val hl rfl trivial (r_eql hl rfl rfl) ?_)
        clear hl a; intro a hl
        refine wl (wl_val hl rfl trivial (r_assign hl rfl) ?_)
        clear hl a; intro a hl
        refine w_nil ?_
        have hl2 := hl.add (t := 0) (hl.add (t := 2) (hl.add (t := 4) (hl.add (t := 7) (hl.add (t := 8) (hl.add (t := 13) (hl.add (t := 44) (hl.nil) rfl) rfl) rfl) rfl) rfl) rfl) rfl; clear hl; have hl := hl2; clear hl2
        refine then_normal ?_
        refine c_cond hl rfl ?_ ?_
        · intro hc3
          try simp only [decide_eq_true_eq, decide_eq_false_iff_not, Bool.not_eq_true', Bool.not_eq_false', Bool.not_eq_true, Bool.not_eq_false, Bool.and_eq_true, Bool.or_eq_true, Bool.and_eq_false_iff, Bool.or_eq_false_iff, Bool.not_not, ne_eq, Int.not_lt, Int.not_le, Decidable.not_not, beq_iff_eq, bne_iff_ne] at hc3
          have hck : i.k = 3 := by omega
          refine c_draw [(wb, C W.c 55), (k4, C [.int .u8 i.k, .int .u32 i.id, .int .u32 i.i2, .slice p i.tx.length cap, .int .u8 i.v.k, .int .u8 i.v.a, .int .u8 i.v.b, .int .u8 i.v.w, .int .u8 i.v.da, .int .u8 i.v.dl, .int .u8 i.m.k, .int .u8 i.m.d, .int .u32 i.m.e, .int .u32 i.m.b, .bool i.m.y, .int .u32 i.m.r, .int .u32 i.m.s, .string i.m.t] 113)] [6, 7] mixed hh ?_
          clear hh w; intro w hh
          have hM : Mem [(wb, C W.c 55), (k4, C [.int .u8 i.k, .int .u32 i.id, .int .u32 i.i2, .slice p i.tx.length cap, .int .u8 i.v.k, .int .u8 i.v.a, .int .u8 i.v.b, .int .u8 i.v.w, .int .u8 i.v.da, .int .u8 i.v.dl, .int .u8 i.m.k, .int .u8 i.m.d, .int .u32 i.m.e, .int .u32 i.m.b, .bool i.m.y, .int .u32 i.m.r, .int .u32 i.m.s, .string i.m.t] 113)] w := (memK hh (by repeat (first | exact keeps_nil | apply keeps_cons (by repeat (first | exact find_head | apply find_tail | apply find_skip)) (by first  | rfl) | exact keeps_self | exact keeps_left | apply keeps_app | apply keeps_mv | apply keeps_skip)))
          refine d_take (i := 0) hl rfl (by kernel_rfl) (by kernel_rfl) (by kernel_rfl) (by kernel_rfl) (by kernel_rfl) rfl trivial (fun _ _ _ h => h) hM (fun w hC => r_move hl rfl) rfl ?_
          clear hl a; intro a hl
          refine d_take (i := 1) hl rfl (by kernel_rfl) (by kernel_rfl) (by kernel_rfl) (by kernel_rfl) (by kernel_rfl) rfl trivial (fun _ _ _ h => h) hM (fun w hC => r_nilCheck hl rfl) rfl ?_
          clear hl a; intro a hl
          refine d_take (i := 2) hl rfl (by kernel_rfl) (by kernel_rfl) (by kernel_rfl) (by kernel_rfl) (by kernel_rfl) rfl trivial (fun _ _ _ h => h) hM (fun w hC => r_field hl rfl fld55_1) rfl ?_
          clear hl a; intro a hl
          refine d_take (i := 3) hl rfl (by kernel_rfl) (by kernel_rfl) (by kernel_rfl) (by kernel_rfl) (by kernel_rfl) rfl trivial (fun _ _ _ h => h) hM (fun w hC => r_loadC hl rfl one50 hC (by repeat (first | exact find_head | apply find_tail | apply find_skip)) (by first | exact hcg | exact hct | (exact (show (WoV.c { W with l := l', g := some (gb, g'.clr), td := postP W.td g'.out, tp := p6, tc := c6, tE := E6 })[0 + 1]? = some (.pointer (some ⟨gb, 0, none⟩)) from rfl)) | exact wc_g _ | rfl)) rfl ?_
          clear hl a; intro a hl
          refine d_take (i := 4) hl rfl (by kernel_rfl) (by kernel_rfl) (by kernel_rfl) (by kernel_rfl) (by kernel_rfl) rfl trivial (fun _ _ _ h => h) hM (fun w hC => r_field hl rfl fld113_4) rfl ?_
          clear hl a; intro a hl
          refine d_take (i := 5) hl rfl (by kernel_rfl) (by kernel_rfl) (by kernel_rfl) (by kernel_rfl) (by kernel_rfl) rfl trivial (fun _ _ _ h => h) hM (fun w hC => r_loadCA hl rfl agg43 hC (by repeat (first | exact find_head | apply find_tail | apply find_skip)) (by first | (simp only [List.getElem?_cons_zero, List.getElem?_cons_succ, Value.cells, List.take_zero, List.take_succ_cons, List.take_nil, List.drop_zero, List.drop_succ_cons, List.drop_nil, List.length_cons, List.length_nil, List.cons_append, List.nil_append, List.append_nil, Nat.zero_add, Nat.add_zero, Nat.reduceAdd, Nat.reduceBEq, Nat.reduceEqDiff, Nat.ble, BEq.rfl, Bool.and_true, Bool.and_self, cond_true, beq_self_eq_true]; rfl)) (by first | rfl | (simp; done))) rfl ?_
          clear hl a; intro a hl
          refine d_one (i := 6) (by kernel_rfl) rfl ?_
          try clear hM
          refine id (w_call hl hh rfl trivial rfl cal35 rfl (in_add Z gb g W.l hgok hW.l hI hvs i p cap hi hck) (by repeat (first | exact keeps_nil | apply keeps_cons (by repeat (first | exact find_head | apply find_tail | apply find_skip)) (by first  | rfl) | exact keeps_self | exact keeps_left | apply keeps_app | apply keeps_mv | apply keeps_skip)) trivial ?_)
          clear hl hh a w; intro vc Fc a w hR hl hh
          obtain ⟨rfl, g', l', G9, hgl, hgo, hlo, hgp, hlp, rfl⟩ := hR
          try simp only [List.cons_append, List.nil_append, List.append_assoc, List.append_nil] at hh
          simp only [GF, List.append_assoc, List.cons_append] at hh
          rw [hgl, hled] at hh
          have hid : (ginP g.pl W.l.pl i).2.1 = 0 := by rw [gi_3 hck]
          refine d_step (fun h => absurd h (by decide)) ?_
          refine d_takeL (i := 7) hl rfl (by kernel_rfl) (by kernel_rfl) (by kernel_rfl) (by kernel_rfl) (by kernel_rfl) rfl trivial (fun _ _ _ h => h) (fun w => r_assign hl rfl) rfl ?_
          clear hl a; intro a hl
          refine d_done (by kernel_rfl) ?_
          try clear hM
          have hl2 := hl.add (t := 0) (hl.add (t := 2) (hl.add (t := 4) (hl.add (t := 7) (hl.add (t := 8) (hl.nil) rfl) rfl) rfl) rfl) rfl; clear hl; have hl := hl2; clear hl2
          refine blk_normal ?_
          refine then_normal ?_
          refine c_seq ?_
          refine c_region ?_
          refine wl (wl_val hl rfl trivial (r_move hl rfl) ?_)
          clear hl a; intro a hl
          refine wl (wl_val hl rfl trivial (r_nilCheck hl rfl) ?_)
          clear hl a; intro a hl
          refine wl (wl_val hl rfl trivial (r_field hl rfl fld55_1) ?_)
          clear hl a; intro a hl
          refine wl (w_load hl hh rfl trivial one50 rfl (by repeat (first | exact find_head | apply find_tail | apply find_skip)) (by first | exact hcg | exact hct | (exact (show (WoV.c { W with l := l', g := some (gb, g'.clr), td := postP W.td g'.out, tp := p6, tc := c6, tE := E6 })[0 + 1]? = some (.pointer (some ⟨gb, 0, none⟩)) from rfl)) | exact wc_g _ | rfl) ?_)
          clear hl a; intro a hl
          refine wl (w_call hl hh rfl trivial rfl cal16 rfl (outbox_spec gb g') (by repeat (first | exact keeps_nil | apply keeps_cons (by repeat (first | exact find_head | apply find_tail | apply find_skip)) (by first  | rfl) | exact keeps_self | exact keeps_left | apply keeps_app | apply keeps_mv | apply keeps_skip)) trivial ?_)
          clear hl hh a w; intro vc Fc a w hR hl hh
          obtain ⟨rfl, rfl⟩ := hR
          try simp only [List.cons_append, List.nil_append, List.append_assoc, List.append_nil] at hh
          refine wl (wl_val hl rfl trivial (r_assign hl rfl) ?_)
          clear hl a; intro a hl
          refine w_nil ?_
          have hl2 := hl.add (t := 0) (hl.add (t := 2) (hl.add (t := 4) (hl.add (t := 7) (hl.add (t := 8) (hl.add (t := 10) (hl.nil) rfl) rfl) rfl) rfl) rfl) rfl; clear hl; have hl := hl2; clear hl2
          refine then_normal ?_
          refine c_seq ?_
          refine c_region ?_
          refine wl (wl_val hl rfl trivial (r_move hl rfl) ?_)
          clear hl a; intro a hl
          refine wl (wl_val hl rfl trivial (r_nilCheck hl rfl) ?_)
          clear hl a; intro a hl
          refine wl (wl_val hl rfl trivial (r_field hl rfl fld55_3) ?_)
          clear hl a; intro a hl
          refine wl (wl_val hl rfl trivial (r_move hl rfl) ?_)
          clear hl a; intro a hl
          refine wl (w_call hl hh rfl trivial rfl cal17 rfl (post_spec wb W.c (0 + 18) W.td W.tp W.tc W.tE hW.t hct hW.tl g'.out g'.op g'.oc g'.oE hgo.o hgo.ol) (by repeat (first | exact keeps_nil | apply keeps_cons (by repeat (first | exact find_head | apply find_tail | apply find_skip)) (by first  | rfl) | exact keeps_self | exact keeps_left | apply keeps_app | apply keeps_mv | apply keeps_skip)) trivial ?_)
          clear hl hh a w; intro vc Fc a w hR hl hh
          obtain ⟨rfl, p6, c6, E6, hR6, rfl⟩ := hR
          try simp only [List.cons_append, List.nil_append, List.append_assoc, List.append_nil] at hh
          have hw1 : wst W.c (0 + 18) (.slice p6 (postP W.td g'.out).length c6) = WoV.c { W with l := l', g := some (gb, g'.clr), td := postP W.td g'.out, tp := p6, tc := c6, tE := E6 } := w1_c W hW.dl hg g'.clr l' p6 _ c6 E6
          rw [hw1] at hh
          have hW1 : WoV.ok (Z ++ G9) { W with l := l', g := some (gb, g'.clr), td := postP W.td g'.out, tp := p6, tc := c6, tE := E6 } := w1_ok hW.app hlo (clr_ok hgo) (hgl.trans hled) rfl rfl hR6 (fun m h9 => ⟨hgo.oo m h9, out_d (i := i) hI hst hdn m (by rw [← hgp]; exact h9)⟩)
          have hbd := gin_id (g := g.pl) (l := W.l.pl) (i := i) hI hdn (par_id i.tx)
          have hsw := fun (id c : Int) (h1 : id = (ginP g.pl W.l.pl i).2.1) (h2 : c = (ginP g.pl W.l.pl i).2.2) => L.saw { W with l := l', g := some (gb, g'.clr), td := postP W.td g'.out, tp := p6, tc := c6, tE := E6 } (Z ++ G9) x x' Fx i p cap gb g'.clr id c g'.out g'.op g'.oc g'.oE hW1 rfl (L.mono hMx) hi.app hgo.o hgo.oo hgo.ol (by rw [h1]; exact hbd.1) (by rw [h2]; exact hbd.2) (by rw [h1, h2]; have h9 := hs; rw [← hgp, ← hlp] at h9; exact h9)
          simp only [WoV.F, WoV.GF, GF, List.append_assoc, List.cons_append, List.nil_append] at hsw
          rw [show g'.clr.led = W.lb from hgl.trans hled] at hsw
          refine w_nil ?_
          have hl2 := hl.add (t := 0) (hl.add (t := 2) (hl.add (t := 4) (hl.add (t := 7) (hl.add (t := 8) (hl.add (t := 10) (hl.nil) rfl) rfl) rfl) rfl) rfl) rfl; clear hl; have hl := hl2; clear hl2
          refine then_normal ?_
          refine c_seq ?_
          refine c_region ?_
          refine wl (wl_val hl rfl trivial (r_move hl rfl) ?_)
          clear hl a; intro a hl
          refine wl (wl_val hl rfl trivial (r_nilCheck hl rfl) ?_)
          clear hl a; intro a hl
          refine wl (wl_val hl rfl trivial (r_field hl rfl fld55_1) ?_)
          clear hl a; intro a hl
          refine wl (w_load hl hh rfl trivial one50 rfl (by repeat (first | exact find_head | apply find_tail | apply find_skip)) (by first | exact hcg | exact hct | (exact (show (WoV.c { W with l := l', g := some (gb, g'.clr), td := postP W.td g'.out, tp := p6, tc := c6, tE := E6 })[0 + 1]? = some (.pointer (some ⟨gb, 0, none⟩)) from rfl)) | exact wc_g _ | rfl) ?_)
          clear hl a; intro a hl
          refine wl (w_call hl hh rfl trivial rfl cal40 rfl (down_spec gb g'.clr) (by repeat (first | exact keeps_nil | apply keeps_cons (by repeat (first | exact find_head | apply find_tail | apply find_skip)) (by first  | rfl) | exact keeps_self | exact keeps_left | apply keeps_app | apply keeps_mv | apply keeps_skip)) trivial ?_)
          clear hl hh a w; intro vc Fc a w hR hl hh
          obtain ⟨rfl, rfl⟩ := hR
          try simp only [List.cons_append, List.nil_append, List.append_assoc, List.append_nil] at hh
          refine wl (wl_val hl rfl trivial (r_assign hl rfl) ?_)
          clear hl a; intro a hl
          refine w_nil ?_
          have hl2 := hl.add (t := 0) (hl.add (t := 2) (hl.add (t := 4) (hl.add (t := 7) (hl.add (t := 8) (hl.add (t := 10) (hl.add (t := 11) (hl.nil) rfl) rfl) rfl) rfl) rfl) rfl) rfl; clear hl; have hl := hl2; clear hl2
          refine then_normal ?_
          refine c_seq ?_
          refine c_seq ?_
          refine c_region ?_
          refine wl (wl_val hl rfl trivial (r_move hl rfl) ?_)
          clear hl a; intro a hl
          refine wl (w_loadA hl hh rfl trivial agg113 rfl (by repeat (first | exact find_head | apply find_tail | apply find_skip)) (by rfl) (by rfl) ?_)
          clear hl a; intro a hl
          refine wl (wl_val hl rfl trivial (r_move hl rfl) ?_)
          clear hl a; intro a hl
          refine wl (wl_val hl rfl trivial (r_move hl rfl) ?_)
          clear hl a; intro a hl
          refine wl (wl_val hl rfl trivial (r_move hl rfl) ?_)
          clear hl a; intro a hl
          refine wl (w_callP hl hh rfl trivial rfl L.dsaw rfl (hsw _ _ (by first | rfl | exact hid.symm | exact wrap_fits (k := .u32) hbd.1) (by first | rfl | exact hcd.symm)) (by repeat (first | exact keeps_nil | apply keeps_cons (by repeat (first | exact find_head | apply find_tail | apply find_skip)) (by first  | rfl) | exact keeps_self | exact keeps_left | apply keeps_app | apply keeps_mv | apply keeps_skip)) trivial ?_)
          clear hl hh a w; intro vc Fc a w hR hl hh
          rcases hR with ⟨rfl, F2, hM2, rfl⟩
          ·
            try simp only [List.cons_append, List.nil_append, List.append_nil] at hh
            try simp only [List.append_assoc, List.cons_append, List.nil_append] at hh
            refine wl (wl_val hl rfl trivial (r_not hl rfl) ?_)
            clear hl a; intro a hl
            refine w_nil ?_
            have hl2 := hl.add (t := 0) (hl.add (t := 2) (hl.add (t := 11) (hl.add (t := 115) (hl.nil) rfl) rfl) rfl) rfl; clear hl; have hl := hl2; clear hl2
            refine then_normal ?_
            refine c_condF hl rfl ?_
            refine wp_skip ?_
            refine then_normal ?_
            refine c_seq ?_
            refine c_seq ?_
            refine c_region ?_
            refine wl (wl_val hl rfl trivial (r_move hl rfl) ?_)
            clear hl a; intro a hl
            refine w_nil ?_
            have hl2 := hl.add (t := 0) (hl.add (t := 2) (hl.add (t := 116) (hl.nil) rfl) rfl) rfl; clear hl; have hl := hl2; clear hl2
            refine then_normal ?_
            refine c_cond hl rfl ?_ ?_
            · intro hc9
              try simp only [decide_eq_true_eq, decide_eq_false_iff_not, Bool.not_eq_true', Bool.not_eq_false', Bool.not_eq_true, Bool.not_eq_false, Bool.and_eq_true, Bool.or_eq_true, Bool.and_eq_false_iff, Bool.or_eq_false_iff, Bool.not_not, ne_eq, Int.not_lt, Int.not_le, Decidable.not_not, beq_iff_eq, bne_iff_ne] at hc9
              refine c_seq ?_
              refine c_region ?_
              refine wl (wl_val hl rfl trivial (r_move hl rfl) ?_)
              clear hl a; intro a hl
              refine wl (wl_val hl rfl trivial (r_nilCheck hl rfl) ?_)
              clear hl a; intro a hl
              refine wl (wl_val hl rfl trivial (r_field hl rfl fld55_1) ?_)
              clear hl a; intro a hl
              refine wl (w_store hl hh trivial one50 rfl rfl (by repeat (first | exact find_head | apply find_tail | apply find_skip)) (by first | (simp; done) | (simp; omega) | (rw [wc_len _ hW1.dl]; omega) | (rw [wc_len _ hW1.dl]; simp; done)) (by first | rfl | assumption | (apply Row.one; assumption)) (by first | exact wc_sg _ none | (simp only [setL, List.getElem?_cons_zero, List.getElem?_cons_succ, Value.cells, List.take_zero, List.take_succ_cons, List.take_nil, List.drop_zero, List.drop_succ_cons, List.drop_nil, List.length_cons, List.length_nil, List.cons_append, List.nil_append, List.append_nil, Nat.zero_add, Nat.add_zero, Nat.reduceAdd, Nat.reduceBEq, Nat.reduceEqDiff, Nat.ble, BEq.rfl, Bool.and_true, Bool.and_self, cond_true, beq_self_eq_true]; rfl)) ?_)
              clear hh w; intro w hh
              refine w_nil ?_
              have hl2 := hl.add (t := 2) (hl.nil) rfl; clear hl; have hl := hl2; clear hl2
              refine then_normal ?_
              refine c_region ?_
              refine wl (wl_val hl rfl trivial (r_move hl rfl) ?_)
              clear hl a; intro a hl
              refine wl (w_callP hl hh rfl trivial rfl L.dfell rfl (L.fell (Z ++ G9) x' F2 hM2) (by repeat (first | exact keeps_nil | apply keeps_cons (by repeat (first | exact find_head | apply find_tail | apply find_skip)) (by first  | rfl) | exact keeps_self | exact keeps_left | apply keeps_app | apply keeps_mv | apply keeps_skip)) trivial ?_)
              clear hl hh a w; intro vc Fc a w hR hl hh
              obtain ⟨rfl, hM3⟩ := hR
              try simp only [List.cons_append, List.nil_append, List.append_assoc, List.append_nil] at hh
              generalize Fc = F3 at hh hM3
              try simp only [List.append_assoc, List.cons_append, List.nil_append] at hh
              refine w_nil ?_
              have hl2 := hl.nil; clear hl; have hl := hl2; clear hl2
              refine then_normal ?_
              refine c_seq ?_
              refine c_region ?_
              refine wl (wl_val hl rfl trivial (r_assign hl rfl) ?_)
              clear hl a; intro a hl
              refine w_nil ?_
              have hl2 := hl.add (t := 6) (hl.nil) rfl; clear hl; have hl := hl2; clear hl2
              refine then_normal ?_
              refine wp_ret ?_
              first
              | (have hq := hM3; refine f_ret1 (F' := F3 ++ ((wb, C (WoV.c { W with l := l', g := none, td := postP W.td g'.out, tp := p6, tc := c6, tE := E6 }) 55) :: (E6 ++ (W.gE ++ (DsF W.ds ++ ((W.lb, C l'.c 91) :: (l'.d.E ++ (Z ++ G9)))))))) hl hh rfl rfl (by repeat (first | exact keeps_nil | apply keeps_cons (by repeat (first | exact find_head | apply find_tail | apply find_skip)) (by first  | rfl) | exact keeps_self | exact keeps_left | apply keeps_app | apply keeps_mv | apply keeps_skip)) ?_; refine ⟨rfl, { W with l := l', g := none, td := postP W.td g'.out, tp := p6, tc := c6, tE := E6 }, G9, F3, ⟨hlo, fun y hy => (by cases hy), hW.dl, hW.ds, hW1.t, hW1.to, hW1.tl, hW.r, hW.ro, hW.rl⟩, fun xd xg => (fedG_pl hg hgp hlp p6 c6 E6 xd xg).1 hc9, ?_, rfl⟩; (rw [if_pos (by rw [← hgp]; exact hc9)]; exact hM3))
              | (refine f_ret1 (F' := F2 ++ ((wb, C (WoV.c { W with l := l', g := some (gb, g'.clr), td := postP W.td g'.out, tp := p6, tc := c6, tE := E6 }) 55) :: (E6 ++ (W.gE ++ (DsF W.ds ++ ((gb, C (GtV.c g'.clr) 127) :: (g'.st.E ++ (g'.qE ++ ((g'.rb, MD (kInt .u32) g'.rl g'.rn) :: ((W.lb, C l'.c 91) :: (l'.d.E ++ (Z ++ G9)))))))))))) hl hh rfl rfl (by repeat (first | exact keeps_nil | apply keeps_cons (by repeat (first | exact find_head | apply find_tail | apply find_skip)) (by first  | rfl) | exact keeps_self | exact keeps_left | apply keeps_app | apply keeps_mv | apply keeps_skip)) ?_; refine ⟨rfl, { W with l := l', g := some (gb, g'.clr), td := postP W.td g'.out, tp := p6, tc := c6, tE := E6 }, G9, F2, hW1, fun xd xg => (fedG_pl hg hgp hlp p6 c6 E6 xd xg).2 hc9, ?_, ?_⟩; (rw [if_neg (by rw [← hgp]; show ¬ g'.off = true; rw [show g'.off = false from hc9]; simp)]; exact hM2); (simp only [WoV.F, WoV.GF, GF, List.append_assoc, List.cons_append, List.nil_append]; rw [show g'.clr.led = W.lb from hgl.trans hled]; rfl))
            · intro hc9
              try simp only [decide_eq_true_eq, decide_eq_false_iff_not, Bool.not_eq_true', Bool.not_eq_false', Bool.not_eq_true, Bool.not_eq_false, Bool.and_eq_true, Bool.or_eq_true, Bool.and_eq_false_iff, Bool.or_eq_false_iff, Bool.not_not, ne_eq, Int.not_lt, Int.not_le, Decidable.not_not, beq_iff_eq, bne_iff_ne] at hc9
              refine wp_skip ?_
              refine then_normal ?_
              refine c_seq ?_
              refine c_region ?_
              refine wl (wl_val hl rfl trivial (r_assign hl rfl) ?_)
              clear hl a; intro a hl
              refine w_nil ?_
              have hl2 := hl.add (t := 6) (hl.nil) rfl; clear hl; have hl := hl2; clear hl2
              refine then_normal ?_
              refine wp_ret ?_
              first
              | (have hq := hM3; refine f_ret1 (F' := F3 ++ ((wb, C (WoV.c { W with l := l', g := none, td := postP W.td g'.out, tp := p6, tc := c6, tE := E6 }) 55) :: (E6 ++ (W.gE ++ (DsF W.ds ++ ((W.lb, C l'.c 91) :: (l'.d.E ++ (Z ++ G9)))))))) hl hh rfl rfl (by repeat (first | exact keeps_nil | apply keeps_cons (by repeat (first | exact find_head | apply find_tail | apply find_skip)) (by first  | rfl) | exact keeps_self | exact keeps_left | apply keeps_app | apply keeps_mv | apply keeps_skip)) ?_; refine ⟨rfl, { W with l := l', g := none, td := postP W.td g'.out, tp := p6, tc := c6, tE := E6 }, G9, F3, ⟨hlo, fun y hy => (by cases hy), hW.dl, hW.ds, hW1.t, hW1.to, hW1.tl, hW.r, hW.ro, hW.rl⟩, fun xd xg => (fedG_pl hg hgp hlp p6 c6 E6 xd xg).1 hc9, ?_, rfl⟩; (rw [if_pos (by rw [← hgp]; exact hc9)]; exact hM3))
              | (refine f_ret1 (F' := F2 ++ ((wb, C (WoV.c { W with l := l', g := some (gb, g'.clr), td := postP W.td g'.out, tp := p6, tc := c6, tE := E6 }) 55) :: (E6 ++ (W.gE ++ (DsF W.ds ++ ((gb, C (GtV.c g'.clr) 127) :: (g'.st.E ++ (g'.qE ++ ((g'.rb, MD (kInt .u32) g'.rl g'.rn) :: ((W.lb, C l'.c 91) :: (l'.d.E ++ (Z ++ G9)))))))))))) hl hh rfl rfl (by repeat (first | exact keeps_nil | apply keeps_cons (by repeat (first | exact find_head | apply find_tail | apply find_skip)) (by first  | rfl) | exact keeps_self | exact keeps_left | apply keeps_app | apply keeps_mv | apply keeps_skip)) ?_; refine ⟨rfl, { W with l := l', g := some (gb, g'.clr), td := postP W.td g'.out, tp := p6, tc := c6, tE := E6 }, G9, F2, hW1, fun xd xg => (fedG_pl hg hgp hlp p6 c6 E6 xd xg).2 hc9, ?_, ?_⟩; (rw [if_neg (by rw [← hgp]; show ¬ g'.off = true; rw [show g'.off = false from hc9]; simp)]; exact hM2); (simp only [WoV.F, WoV.GF, GF, List.append_assoc, List.cons_append, List.nil_append]; rw [show g'.clr.led = W.lb from hgl.trans hled]; rfl))
        · intro hc3
          try simp only [decide_eq_true_eq, decide_eq_false_iff_not, Bool.not_eq_true', Bool.not_eq_false', Bool.not_eq_true, Bool.not_eq_false, Bool.and_eq_true, Bool.or_eq_true, Bool.and_eq_false_iff, Bool.or_eq_false_iff, Bool.not_not, ne_eq, Int.not_lt, Int.not_le, Decidable.not_not, beq_iff_eq, bne_iff_ne] at hc3
          refine c_seq ?_
          refine c_region ?_
          refine wl (wl_val hl rfl trivial (r_eql hl rfl rfl) ?_)
          clear hl a; intro a hl
          refine wl (wl_val hl rfl trivial (r_assign hl rfl) ?_)
          clear hl a; intro a hl
          refine w_nil ?_
          have hl2 := hl.add (t := 0) (hl.add (t := 2) (hl.add (t := 4) (hl.add (t := 7) (hl.add (t := 8) (hl.add (t := 13) (hl.add (t := 53) (hl.nil) rfl) rfl) rfl) rfl) rfl) rfl) rfl; clear hl; have hl := hl2; clear hl2
          refine then_normal ?_
          refine c_cond hl rfl ?_ ?_
          · intro hc4
            try simp only [decide_eq_true_eq, decide_eq_false_iff_not, Bool.not_eq_true', Bool.not_eq_false', Bool.not_eq_true, Bool.not_eq_false, Bool.and_eq_true, Bool.or_eq_true, Bool.and_eq_false_iff, Bool.or_eq_false_iff, Bool.not_not, ne_eq, Int.not_lt, Int.not_le, Decidable.not_not, beq_iff_eq, bne_iff_ne] at hc4
            have hck : i.k = 4 := by omega
            refine c_draw [(wb, C W.c 55), (k4, C [.int .u8 i.k, .int .u32 i.id, .int .u32 i.i2, .slice p i.tx.length cap, .int .u8 i.v.k, .int .u8 i.v.a, .int .u8 i.v.b, .int .u8 i.v.w, .int .u8 i.v.da, .int .u8 i.v.dl, .int .u8 i.m.k, .int .u8 i.m.d, .int .u32 i.m.e, .int .u32 i.m.b, .bool i.m.y, .int .u32 i.m.r, .int .u32 i.m.s, .string i.m.t] 113)] [6, 7] mixed hh ?_
            clear hh w; intro w hh
            have hM : Mem [(wb, C W.c 55), (k4, C [.int .u8 i.k, .int .u32 i.id, .int .u32 i.i2, .slice p i.tx.length cap, .int .u8 i.v.k, .int .u8 i.v.a, .int .u8 i.v.b, .int .u8 i.v.w, .int .u8 i.v.da, .int .u8 i.v.dl, .int .u8 i.m.k, .int .u8 i.m.d, .int .u32 i.m.e, .int .u32 i.m.b, .bool i.m.y, .int .u32 i.m.r, .int .u32 i.m.s, .string i.m.t] 113)] w := (memK hh (by repeat (first | exact keeps_nil | apply keeps_cons (by repeat (first | exact find_head | apply find_tail | apply find_skip)) (by first  | rfl) | exact keeps_self | exact keeps_left | apply keeps_app | apply keeps_mv | apply keeps_skip)))
            refine d_take (i := 0) hl rfl (by kernel_rfl) (by kernel_rfl) (by kernel_rfl) (by kernel_rfl) (by kernel_rfl) rfl trivial (fun _ _ _ h => h) hM (fun w hC => r_move hl rfl) rfl ?_
            clear hl a; intro a hl
            refine d_take (i := 1) hl rfl (by kernel_rfl) (by kernel_rfl) (by kernel_rfl) (by kernel_rfl) (by kernel_rfl) rfl trivial (fun _ _ _ h => h) hM (fun w hC => r_nilCheck hl rfl) rfl ?_
            clear hl a; intro a hl
            refine d_take (i := 2) hl rfl (by kernel_rfl) (by kernel_rfl) (by kernel_rfl) (by kernel_rfl) (by kernel_rfl) rfl trivial (fun _ _ _ h => h) hM (fun w hC => r_field hl rfl fld55_1) rfl ?_
            clear hl a; intro a hl
            refine d_take (i := 3) hl rfl (by kernel_rfl) (by kernel_rfl) (by kernel_rfl) (by kernel_rfl) (by kernel_rfl) rfl trivial (fun _ _ _ h => h) hM (fun w hC => r_loadC hl rfl one50 hC (by repeat (first | exact find_head | apply find_tail | apply find_skip)) (by first | exact hcg | exact hct | (exact (show (WoV.c { W with l := l', g := some (gb, g'.clr), td := postP W.td g'.out, tp := p6, tc := c6, tE := E6 })[0 + 1]? = some (.pointer (some ⟨gb, 0, none⟩)) from rfl)) | exact wc_g _ | rfl)) rfl ?_
            clear hl a; intro a hl
            refine d_take (i := 4) hl rfl (by kernel_rfl) (by kernel_rfl) (by kernel_rfl) (by kernel_rfl) (by kernel_rfl) rfl trivial (fun _ _ _ h => h) hM (fun w hC => r_field hl rfl fld113_4) rfl ?_
            clear hl a; intro a hl
            refine d_take (i := 5) hl rfl (by kernel_rfl) (by kernel_rfl) (by kernel_rfl) (by kernel_rfl) (by kernel_rfl) rfl trivial (fun _ _ _ h => h) hM (fun w hC => r_loadCA hl rfl agg43 hC (by repeat (first | exact find_head | apply find_tail | apply find_skip)) (by first | (simp only [List.getElem?_cons_zero, List.getElem?_cons_succ, Value.cells, List.take_zero, List.take_succ_cons, List.take_nil, List.drop_zero, List.drop_succ_cons, List.drop_nil, List.length_cons, List.length_nil, List.cons_append, List.nil_append, List.append_nil, Nat.zero_add, Nat.add_zero, Nat.reduceAdd, Nat.reduceBEq, Nat.reduceEqDiff, Nat.ble, BEq.rfl, Bool.and_true, Bool.and_self, cond_true, beq_self_eq_true]; rfl)) (by first | rfl | (simp; done))) rfl ?_
            clear hl a; intro a hl
            refine d_one (i := 6) (by kernel_rfl) rfl ?_
            try clear hM
            refine id (w_call hl hh rfl trivial rfl cal36 rfl (in_drop Z gb g W.l hgok hW.l hI hvs i p cap hi hck) (by repeat (first | exact keeps_nil | apply keeps_cons (by repeat (first | exact find_head | apply find_tail | apply find_skip)) (by first  | rfl) | exact keeps_self | exact keeps_left | apply keeps_app | apply keeps_mv | apply keeps_skip)) trivial ?_)
            clear hl hh a w; intro vc Fc a w hR hl hh
            obtain ⟨rfl, g', l', G9, hgl, hgo, hlo, hgp, hlp, rfl⟩ := hR
            try simp only [List.cons_append, List.nil_append, List.append_assoc, List.append_nil] at hh
            simp only [GF, List.append_assoc, List.cons_append] at hh
            rw [hgl, hled] at hh
            have hid : (ginP g.pl W.l.pl i).2.1 = 0 := by rw [gi_4 hck]
            refine d_step (fun h => absurd h (by decide)) ?_
            refine d_takeL (i := 7) hl rfl (by kernel_rfl) (by kernel_rfl) (by kernel_rfl) (by kernel_rfl) (by kernel_rfl) rfl trivial (fun _ _ _ h => h) (fun w => r_assign hl rfl) rfl ?_
            clear hl a; intro a hl
            refine d_done (by kernel_rfl) ?_
            try clear hM
            have hl2 := hl.add (t := 0) (hl.add (t := 2) (hl.add (t := 4) (hl.add (t := 7) (hl.add (t := 8) (hl.nil) rfl) rfl) rfl) rfl) rfl; clear hl; have hl := hl2; clear hl2
            refine blk_normal ?_
            refine then_normal ?_
            refine c_seq ?_
            refine c_region ?_
            refine wl (wl_val hl rfl trivial (r_move hl rfl) ?_)
            clear hl a; intro a hl
            refine wl (wl_val hl rfl trivial (r_nilCheck hl rfl) ?_)
            clear hl a; intro a hl
            refine wl (wl_val hl rfl trivial (r_field hl rfl fld55_1) ?_)
            clear hl a; intro a hl
            refine wl (w_load hl hh rfl trivial one50 rfl (by repeat (first | exact find_head | apply find_tail | apply find_skip)) (by first | exact hcg | exact hct | (exact (show (WoV.c { W with l := l', g := some (gb, g'.clr), td := postP W.td g'.out, tp := p6, tc := c6, tE := E6 })[0 + 1]? = some (.pointer (some ⟨gb, 0, none⟩)) from rfl)) | exact wc_g _ | rfl) ?_)
            clear hl a; intro a hl
            refine wl (w_call hl hh rfl trivial rfl cal16 rfl (outbox_spec gb g') (by repeat (first | exact keeps_nil | apply keeps_cons (by repeat (first | exact find_head | apply find_tail | apply find_skip)) (by first  | rfl) | exact keeps_self | exact keeps_left | apply keeps_app | apply keeps_mv | apply keeps_skip)) trivial ?_)
            clear hl hh a w; intro vc Fc a w hR hl hh
            obtain ⟨rfl, rfl⟩ := hR
            try simp only [List.cons_append, List.nil_append, List.append_assoc, List.append_nil] at hh
            refine wl (wl_val hl rfl trivial (r_assign hl rfl) ?_)
            clear hl a; intro a hl
            refine w_nil ?_
            have hl2 := hl.add (t := 0) (hl.add (t := 2) (hl.add (t := 4) (hl.add (t := 7) (hl.add (t := 8) (hl.add (t := 10) (hl.nil) rfl) rfl) rfl) rfl) rfl) rfl; clear hl; have hl := hl2; clear hl2
            refine then_normal ?_
            refine c_seq ?_
            refine c_region ?_
            refine wl (wl_val hl rfl trivial (r_move hl rfl) ?_)
            clear hl a; intro a hl
            refine wl (wl_val hl rfl trivial (r_nilCheck hl rfl) ?_)
            clear hl a; intro a hl
            refine wl (wl_val hl rfl trivial (r_field hl rfl fld55_3) ?_)
            clear hl a; intro a hl
            refine wl (wl_val hl rfl trivial (r_move hl rfl) ?_)
            clear hl a; intro a hl
            refine wl (w_call hl hh rfl trivial rfl cal17 rfl (post_spec wb W.c (0 + 18) W.td W.tp W.tc W.tE hW.t hct hW.tl g'.out g'.op g'.oc g'.oE hgo.o hgo.ol) (by repeat (first | exact keeps_nil | apply keeps_cons (by repeat (first | exact find_head | apply find_tail | apply find_skip)) (by first  | rfl) | exact keeps_self | exact keeps_left | apply keeps_app | apply keeps_mv | apply keeps_skip)) trivial ?_)
            clear hl hh a w; intro vc Fc a w hR hl hh
            obtain ⟨rfl, p6, c6, E6, hR6, rfl⟩ := hR
            try simp only [List.cons_append, List.nil_append, List.append_assoc, List.append_nil] at hh
            have hw1 : wst W.c (0 + 18) (.slice p6 (postP W.td g'.out).length c6) = WoV.c { W with l := l', g := some (gb, g'.clr), td := postP W.td g'.out, tp := p6, tc := c6, tE := E6 } := w1_c W hW.dl hg g'.clr l' p6 _ c6 E6
            rw [hw1] at hh
            have hW1 : WoV.ok (Z ++ G9) { W with l := l', g := some (gb, g'.clr), td := postP W.td g'.out, tp := p6, tc := c6, tE := E6 } := w1_ok hW.app hlo (clr_ok hgo) (hgl.trans hled) rfl rfl hR6 (fun m h9 => ⟨hgo.oo m h9, out_d (i := i) hI hst hdn m (by rw [← hgp]; exact h9)⟩)
            have hbd := gin_id (g := g.pl) (l := W.l.pl) (i := i) hI hdn (par_id i.tx)
            have hsw := fun (id c : Int) (h1 : id = (ginP g.pl W.l.pl i).2.1) (h2 : c = (ginP g.pl W.l.pl i).2.2) => L.saw { W with l := l', g := some (gb, g'.clr), td := postP W.td g'.out, tp := p6, tc := c6, tE := E6 } (Z ++ G9) x x' Fx i p cap gb g'.clr id c g'.out g'.op g'.oc g'.oE hW1 rfl (L.mono hMx) hi.app hgo.o hgo.oo hgo.ol (by rw [h1]; exact hbd.1) (by rw [h2]; exact hbd.2) (by rw [h1, h2]; have h9 := hs; rw [← hgp, ← hlp] at h9; exact h9)
            simp only [WoV.F, WoV.GF, GF, List.append_assoc, List.cons_append, List.nil_append] at hsw
            rw [show g'.clr.led = W.lb from hgl.trans hled] at hsw
            refine w_nil ?_
            have hl2 := hl.add (t := 0) (hl.add (t := 2) (hl.add (t := 4) (hl.add (t := 7) (hl.add (t := 8) (hl.add (t := 10) (hl.nil) rfl) rfl) rfl) rfl) rfl) rfl; clear hl; have hl := hl2; clear hl2
            refine then_normal ?_
            refine c_seq ?_
            refine c_region ?_
            refine wl (wl_val hl rfl trivial (r_move hl rfl) ?_)
            clear hl a; intro a hl
            refine wl (wl_val hl rfl trivial (r_nilCheck hl rfl) ?_)
            clear hl a; intro a hl
            refine wl (wl_val hl rfl trivial (r_field hl rfl fld55_1) ?_)
            clear hl a; intro a hl
            refine wl (w_load hl hh rfl trivial one50 rfl (by repeat (first | exact find_head | apply find_tail | apply find_skip)) (by first | exact hcg | exact hct | (exact (show (WoV.c { W with l := l', g := some (gb, g'.clr), td := postP W.td g'.out, tp := p6, tc := c6, tE := E6 })[0 + 1]? = some (.pointer (some ⟨gb, 0, none⟩)) from rfl)) | exact wc_g _ | rfl) ?_)
            clear hl a; intro a hl
            refine wl (w_call hl hh rfl trivial rfl cal40 rfl (down_spec gb g'.clr) (by repeat (first | exact keeps_nil | apply keeps_cons (by repeat (first | exact find_head | apply find_tail | apply find_skip)) (by first  | rfl) | exact keeps_self | exact keeps_left | apply keeps_app | apply keeps_mv | apply keeps_skip)) trivial ?_)
            clear hl hh a w; intro vc Fc a w hR hl hh
            obtain ⟨rfl, rfl⟩ := hR
            try simp only [List.cons_append, List.nil_append, List.append_assoc, List.append_nil] at hh
            refine wl (wl_val hl rfl trivial (r_assign hl rfl) ?_)
            clear hl a; intro a hl
            refine w_nil ?_
            have hl2 := hl.add (t := 0) (hl.add (t := 2) (hl.add (t := 4) (hl.add (t := 7) (hl.add (t := 8) (hl.add (t := 10) (hl.add (t := 11) (hl.nil) rfl) rfl) rfl) rfl) rfl) rfl) rfl; clear hl; have hl := hl2; clear hl2
            refine then_normal ?_
            refine c_seq ?_
            refine c_seq ?_
            refine c_region ?_
            refine wl (wl_val hl rfl trivial (r_move hl rfl) ?_)
            clear hl a; intro a hl
            refine wl (w_loadA hl hh rfl trivial agg113 rfl (by repeat (first | exact find_head | apply find_tail | apply find_skip)) (by rfl) (by rfl) ?_)
            clear hl a; intro a hl
            refine wl (wl_val hl rfl trivial (r_move hl rfl) ?_)
            clear hl a; intro a hl
            refine wl (wl_val hl rfl trivial (r_move hl rfl) ?_)
            clear hl a; intro a hl
            refine wl (wl_val hl rfl trivial (r_move hl rfl) ?_)
            clear hl a; intro a hl
            refine wl (w_callP hl hh rfl trivial rfl L.dsaw rfl (hsw _ _ (by first | rfl | exact hid.symm | exact wrap_fits (k := .u32) hbd.1) (by first | rfl | exact hcd.symm)) (by repeat (first | exact keeps_nil | apply keeps_cons (by repeat (first | exact find_head | apply find_tail | apply find_skip)) (by first  | rfl) | exact keeps_self | exact keeps_left | apply keeps_app | apply keeps_mv | apply keeps_skip)) trivial ?_)
            clear hl hh a w; intro vc Fc a w hR hl hh
            rcases hR with ⟨rfl, F2, hM2, rfl⟩
            ·
              try simp only [List.cons_append, List.nil_append, List.append_nil] at hh
              try simp only [List.append_assoc, List.cons_append, List.nil_append] at hh
              refine wl (wl_val hl rfl trivial (r_not hl rfl) ?_)
              clear hl a; intro a hl
              refine w_nil ?_
              have hl2 := hl.add (t := 0) (hl.add (t := 2) (hl.add (t := 11) (hl.add (t := 115) (hl.nil) rfl) rfl) rfl) rfl; clear hl; have hl := hl2; clear hl2
              refine then_normal ?_
              refine c_condF hl rfl ?_
              refine wp_skip ?_
              refine then_normal ?_
              refine c_seq ?_
              refine c_seq ?_
              refine c_region ?_
              refine wl (wl_val hl rfl trivial (r_move hl rfl) ?_)
              clear hl a; intro a hl
              refine w_nil ?_
              have hl2 := hl.add (t := 0) (hl.add (t := 2) (hl.add (t := 116) (hl.nil) rfl) rfl) rfl; clear hl; have hl := hl2; clear hl2
              refine then_normal ?_
              refine c_cond hl rfl ?_ ?_
              · intro hc9
                try simp only [decide_eq_true_eq, decide_eq_false_iff_not, Bool.not_eq_true', Bool.not_eq_false', Bool.not_eq_true, Bool.not_eq_false, Bool.and_eq_true, Bool.or_eq_true, Bool.and_eq_false_iff, Bool.or_eq_false_iff, Bool.not_not, ne_eq, Int.not_lt, Int.not_le, Decidable.not_not, beq_iff_eq, bne_iff_ne] at hc9
                refine c_seq ?_
                refine c_region ?_
                refine wl (wl_val hl rfl trivial (r_move hl rfl) ?_)
                clear hl a; intro a hl
                refine wl (wl_val hl rfl trivial (r_nilCheck hl rfl) ?_)
                clear hl a; intro a hl
                refine wl (wl_val hl rfl trivial (r_field hl rfl fld55_1) ?_)
                clear hl a; intro a hl
                refine wl (w_store hl hh trivial one50 rfl rfl (by repeat (first | exact find_head | apply find_tail | apply find_skip)) (by first | (simp; done) | (simp; omega) | (rw [wc_len _ hW1.dl]; omega) | (rw [wc_len _ hW1.dl]; simp; done)) (by first | rfl | assumption | (apply Row.one; assumption)) (by first | exact wc_sg _ none | (simp only [setL, List.getElem?_cons_zero, List.getElem?_cons_succ, Value.cells, List.take_zero, List.take_succ_cons, List.take_nil, List.drop_zero, List.drop_succ_cons, List.drop_nil, List.length_cons, List.length_nil, List.cons_append, List.nil_append, List.append_nil, Nat.zero_add, Nat.add_zero, Nat.reduceAdd, Nat.reduceBEq, Nat.reduceEqDiff, Nat.ble, BEq.rfl, Bool.and_true, Bool.and_self, cond_true, beq_self_eq_true]; rfl)) ?_)
                clear hh w; intro w hh
                refine w_nil ?_
                have hl2 := hl.add (t := 2) (hl.nil) rfl; clear hl; have hl := hl2; clear hl2
                refine then_normal ?_
                refine c_region ?_
                refine wl (wl_val hl rfl trivial (r_move hl rfl) ?_)
                clear hl a; intro a hl
                refine wl (w_callP hl hh rfl trivial rfl L.dfell rfl (L.fell (Z ++ G9) x' F2 hM2) (by repeat (first | exact keeps_nil | apply keeps_cons (by repeat (first | exact find_head | apply find_tail | apply find_skip)) (by first  | rfl) | exact keeps_self | exact keeps_left | apply keeps_app | apply keeps_mv | apply keeps_skip)) trivial ?_)
                clear hl hh a w; intro vc Fc a w hR hl hh
                obtain ⟨rfl, hM3⟩ := hR
                try simp only [List.cons_append, List.nil_append, List.append_assoc, List.append_nil] at hh
                generalize Fc = F3 at hh hM3
                try simp only [List.append_assoc, List.cons_append, List.nil_append] at hh
                refine w_nil ?_
                have hl2 := hl.nil; clear hl; have hl := hl2; clear hl2
                refine then_normal ?_
                refine c_seq ?_
                refine c_region ?_
                refine wl (wl_val hl rfl trivial (r_assign hl rfl) ?_)
                clear hl a; intro a hl
                refine w_nil ?_
                have hl2 := hl.add (t := 6) (hl.nil) rfl; clear hl; have hl := hl2; clear hl2
                refine then_normal ?_
                refine wp_ret ?_
                first
                | (have hq := hM3; refine f_ret1 (F' := F3 ++ ((wb, C (WoV.c { W with l := l', g := none, td := postP W.td g'.out, tp := p6, tc := c6, tE := E6 }) 55) :: (E6 ++ (W.gE ++ (DsF W.ds ++ ((W.lb, C l'.c 91) :: (l'.d.E ++ (Z ++ G9)))))))) hl hh rfl rfl (by repeat (first | exact keeps_nil | apply keeps_cons (by repeat (first | exact find_head | apply find_tail | apply find_skip)) (by first  | rfl) | exact keeps_self | exact keeps_left | apply keeps_app | apply keeps_mv | apply keeps_skip)) ?_; refine ⟨rfl, { W with l := l', g := none, td := postP W.td g'.out, tp := p6, tc := c6, tE := E6 }, G9, F3, ⟨hlo, fun y hy => (by cases hy), hW.dl, hW.ds, hW1.t, hW1.to, hW1.tl, hW.r, hW.ro, hW.rl⟩, fun xd xg => (fedG_pl hg hgp hlp p6 c6 E6 xd xg).1 hc9, ?_, rfl⟩; (rw [if_pos (by rw [← hgp]; exact hc9)]; exact hM3))
                | (refine f_ret1 (F' := F2 ++ ((wb, C (WoV.c { W with l := l', g := some (gb, g'.clr), td := postP W.td g'.out, tp := p6, tc := c6, tE := E6 }) 55) :: (E6 ++ (W.gE ++ (DsF W.ds ++ ((gb, C (GtV.c g'.clr) 127) :: (g'.st.E ++ (g'.qE ++ ((g'.rb, MD (kInt .u32) g'.rl g'.rn) :: ((W.lb, C l'.c 91) :: (l'.d.E ++ (Z ++ G9)))))))))))) hl hh rfl rfl (by repeat (first | exact keeps_nil | apply keeps_cons (by repeat (first | exact find_head | apply find_tail | apply find_skip)) (by first  | rfl) | exact keeps_self | exact keeps_left | apply keeps_app | apply keeps_mv | apply keeps_skip)) ?_; refine ⟨rfl, { W with l := l', g := some (gb, g'.clr), td := postP W.td g'.out, tp := p6, tc := c6, tE := E6 }, G9, F2, hW1, fun xd xg => (fedG_pl hg hgp hlp p6 c6 E6 xd xg).2 hc9, ?_, ?_⟩; (rw [if_neg (by rw [← hgp]; show ¬ g'.off = true; rw [show g'.off = false from hc9]; simp)]; exact hM2); (simp only [WoV.F, WoV.GF, GF, List.append_assoc, List.cons_append, List.nil_append]; rw [show g'.clr.led = W.lb from hgl.trans hled]; rfl))
              · intro hc9
                try simp only [decide_eq_true_eq, decide_eq_false_iff_not, Bool.not_eq_true', Bool.not_eq_false', Bool.not_eq_true, Bool.not_eq_false, Bool.and_eq_true, Bool.or_eq_true, Bool.and_eq_false_iff, Bool.or_eq_false_iff, Bool.not_not, ne_eq, Int.not_lt, Int.not_le, Decidable.not_not, beq_iff_eq, bne_iff_ne] at hc9
                refine wp_skip ?_
                refine then_normal ?_
                refine c_seq ?_
                refine c_region ?_
                refine wl (wl_val hl rfl trivial (r_assign hl rfl) ?_)
                clear hl a; intro a hl
                refine w_nil ?_
                have hl2 := hl.add (t := 6) (hl.nil) rfl; clear hl; have hl := hl2; clear hl2
                refine then_normal ?_
                refine wp_ret ?_
                first
                | (have hq := hM3; refine f_ret1 (F' := F3 ++ ((wb, C (WoV.c { W with l := l', g := none, td := postP W.td g'.out, tp := p6, tc := c6, tE := E6 }) 55) :: (E6 ++ (W.gE ++ (DsF W.ds ++ ((W.lb, C l'.c 91) :: (l'.d.E ++ (Z ++ G9)))))))) hl hh rfl rfl (by repeat (first | exact keeps_nil | apply keeps_cons (by repeat (first | exact find_head | apply find_tail | apply find_skip)) (by first  | rfl) | exact keeps_self | exact keeps_left | apply keeps_app | apply keeps_mv | apply keeps_skip)) ?_; refine ⟨rfl, { W with l := l', g := none, td := postP W.td g'.out, tp := p6, tc := c6, tE := E6 }, G9, F3, ⟨hlo, fun y hy => (by cases hy), hW.dl, hW.ds, hW1.t, hW1.to, hW1.tl, hW.r, hW.ro, hW.rl⟩, fun xd xg => (fedG_pl hg hgp hlp p6 c6 E6 xd xg).1 hc9, ?_, rfl⟩; (rw [if_pos (by rw [← hgp]; exact hc9)]; exact hM3))
                | (refine f_ret1 (F' := F2 ++ ((wb, C (WoV.c { W with l := l', g := some (gb, g'.clr), td := postP W.td g'.out, tp := p6, tc := c6, tE := E6 }) 55) :: (E6 ++ (W.gE ++ (DsF W.ds ++ ((gb, C (GtV.c g'.clr) 127) :: (g'.st.E ++ (g'.qE ++ ((g'.rb, MD (kInt .u32) g'.rl g'.rn) :: ((W.lb, C l'.c 91) :: (l'.d.E ++ (Z ++ G9)))))))))))) hl hh rfl rfl (by repeat (first | exact keeps_nil | apply keeps_cons (by repeat (first | exact find_head | apply find_tail | apply find_skip)) (by first  | rfl) | exact keeps_self | exact keeps_left | apply keeps_app | apply keeps_mv | apply keeps_skip)) ?_; refine ⟨rfl, { W with l := l', g := some (gb, g'.clr), td := postP W.td g'.out, tp := p6, tc := c6, tE := E6 }, G9, F2, hW1, fun xd xg => (fedG_pl hg hgp hlp p6 c6 E6 xd xg).2 hc9, ?_, ?_⟩; (rw [if_neg (by rw [← hgp]; show ¬ g'.off = true; rw [show g'.off = false from hc9]; simp)]; exact hM2); (simp only [WoV.F, WoV.GF, GF, List.append_assoc, List.cons_append, List.nil_append]; rw [show g'.clr.led = W.lb from hgl.trans hled]; rfl))
          · intro hc4
            try simp only [decide_eq_true_eq, decide_eq_false_iff_not, Bool.not_eq_true', Bool.not_eq_false', Bool.not_eq_true, Bool.not_eq_false, Bool.and_eq_true, Bool.or_eq_true, Bool.and_eq_false_iff, Bool.or_eq_false_iff, Bool.not_not, ne_eq, Int.not_lt, Int.not_le, Decidable.not_not, beq_iff_eq, bne_iff_ne] at hc4
            refine c_seq ?_
            refine c_region ?_
            refine wl (wl_val hl rfl trivial (r_eql hl rfl rfl) ?_)
            clear hl a; intro a hl
            refine wl (wl_val hl rfl trivial (r_assign hl rfl) ?_)
            clear hl a; intro a hl
            refine w_nil ?_
            have hl2 := hl.add (t := 0) (hl.add (t := 2) (hl.add (t := 4) (hl.add (t := 7) (hl.add (t := 8) (hl.add (t := 13) (hl.add (t := 62) (hl.nil) rfl) rfl) rfl) rfl) rfl) rfl) rfl; clear hl; have hl := hl2; clear hl2
            refine then_normal ?_
            refine c_cond hl rfl ?_ ?_
            · intro hc5
              try simp only [decide_eq_true_eq, decide_eq_false_iff_not, Bool.not_eq_true', Bool.not_eq_false', Bool.not_eq_true, Bool.not_eq_false, Bool.and_eq_true, Bool.or_eq_true, Bool.and_eq_false_iff, Bool.or_eq_false_iff, Bool.not_not, ne_eq, Int.not_lt, Int.not_le, Decidable.not_not, beq_iff_eq, bne_iff_ne] at hc5
              have hck : i.k = 17 := by omega
              refine c_seq ?_
              refine c_region ?_
              refine wl (wl_val hl rfl trivial (r_assign hl rfl) ?_)
              clear hl a; intro a hl
              refine w_nil ?_
              have hl2 := hl.add (t := 0) (hl.add (t := 2) (hl.add (t := 4) (hl.nil) rfl) rfl) rfl; clear hl; have hl := hl2; clear hl2
              refine then_normal ?_
              refine c_seq ?_
              refine c_draw [(wb, C W.c 55), (k4, C [.int .u8 i.k, .int .u32 i.id, .int .u32 i.i2, .slice p i.tx.length cap, .int .u8 i.v.k, .int .u8 i.v.a, .int .u8 i.v.b, .int .u8 i.v.w, .int .u8 i.v.da, .int .u8 i.v.dl, .int .u8 i.m.k, .int .u8 i.m.d, .int .u32 i.m.e, .int .u32 i.m.b, .bool i.m.y, .int .u32 i.m.r, .int .u32 i.m.s, .string i.m.t] 113)] [8, 9, 10, 11, 12, 13] mixed hh ?_
              clear hh w; intro w hh
              have hM : Mem [(wb, C W.c 55), (k4, C [.int .u8 i.k, .int .u32 i.id, .int .u32 i.i2, .slice p i.tx.length cap, .int .u8 i.v.k, .int .u8 i.v.a, .int .u8 i.v.b, .int .u8 i.v.w, .int .u8 i.v.da, .int .u8 i.v.dl, .int .u8 i.m.k, .int .u8 i.m.d, .int .u32 i.m.e, .int .u32 i.m.b, .bool i.m.y, .int .u32 i.m.r, .int .u32 i.m.s, .string i.m.t] 113)] w := (memK hh (by repeat (first | exact keeps_nil | apply keeps_cons (by repeat (first | exact find_head | apply find_tail | apply find_skip)) (by first  | rfl) | exact keeps_self | exact keeps_left | apply keeps_app | apply keeps_mv | apply keeps_skip)))
              refine d_take (i := 0) hl rfl (by kernel_rfl) (by kernel_rfl) (by kernel_rfl) (by kernel_rfl) (by kernel_rfl) rfl trivial (fun _ _ _ h => h) hM (fun w hC => r_move hl rfl) rfl ?_
              clear hl a; intro a hl
              refine d_take (i := 1) hl rfl (by kernel_rfl) (by kernel_rfl) (by kernel_rfl) (by kernel_rfl) (by kernel_rfl) rfl trivial (fun _ _ _ h => h) hM (fun w hC => r_nilCheck hl rfl) rfl ?_
              clear hl a; intro a hl
              refine d_take (i := 2) hl rfl (by kernel_rfl) (by kernel_rfl) (by kernel_rfl) (by kernel_rfl) (by kernel_rfl) rfl trivial (fun _ _ _ h => h) hM (fun w hC => r_field hl rfl fld55_1) rfl ?_
              clear hl a; intro a hl
              refine d_take (i := 3) hl rfl (by kernel_rfl) (by kernel_rfl) (by kernel_rfl) (by kernel_rfl) (by kernel_rfl) rfl trivial (fun _ _ _ h => h) hM (fun w hC => r_loadC hl rfl one50 hC (by repeat (first | exact find_head | apply find_tail | apply find_skip)) (by first | exact hcg | exact hct | (exact (show (WoV.c { W with l := l', g := some (gb, g'.clr), td := postP W.td g'.out, tp := p6, tc := c6, tE := E6 })[0 + 1]? = some (.pointer (some ⟨gb, 0, none⟩)) from rfl)) | exact wc_g _ | rfl)) rfl ?_
              clear hl a; intro a hl
              refine d_take (i := 4) hl rfl (by kernel_rfl) (by kernel_rfl) (by kernel_rfl) (by kernel_rfl) (by kernel_rfl) rfl trivial (fun _ _ _ h => h) hM (fun w hC => r_field hl rfl fld113_1) rfl ?_
              clear hl a; intro a hl
              refine d_take (i := 5) hl rfl (by kernel_rfl) (by kernel_rfl) (by kernel_rfl) (by kernel_rfl) (by kernel_rfl) rfl trivial (fun _ _ _ h => h) hM (fun w hC => r_loadC hl rfl one36 hC (by repeat (first | exact find_head | apply find_tail | apply find_skip)) (by first | exact hcg | exact hct | (exact (show (WoV.c { W with l := l', g := some (gb, g'.clr), td := postP W.td g'.out, tp := p6, tc := c6, tE := E6 })[0 + 1]? = some (.pointer (some ⟨gb, 0, none⟩)) from rfl)) | exact wc_g _ | rfl)) rfl ?_
              clear hl a; intro a hl
              refine d_take (i := 6) hl rfl (by kernel_rfl) (by kernel_rfl) (by kernel_rfl) (by kernel_rfl) (by kernel_rfl) rfl trivial (fun _ _ _ h => h) hM (fun w hC => r_field hl rfl fld113_2) rfl ?_
              clear hl a; intro a hl
              refine d_take (i := 7) hl rfl (by kernel_rfl) (by kernel_rfl) (by kernel_rfl) (by kernel_rfl) (by kernel_rfl) rfl trivial (fun _ _ _ h => h) hM (fun w hC => r_loadC hl rfl one36 hC (by repeat (first | exact find_head | apply find_tail | apply find_skip)) (by first | exact hcg | exact hct | (exact (show (WoV.c { W with l := l', g := some (gb, g'.clr), td := postP W.td g'.out, tp := p6, tc := c6, tE := E6 })[0 + 1]? = some (.pointer (some ⟨gb, 0, none⟩)) from rfl)) | exact wc_g _ | rfl)) rfl ?_
              clear hl a; intro a hl
              refine d_one (i := 8) (by kernel_rfl) rfl ?_
              try clear hM
              refine id (w_call hl hh rfl trivial rfl cal37 rfl (in_diff Z gb g W.l hgok hW.l hI hvs i p cap hi hck) (by repeat (first | exact keeps_nil | apply keeps_cons (by repeat (first | exact find_head | apply find_tail | apply find_skip)) (by first  | rfl) | exact keeps_self | exact keeps_left | apply keeps_app | apply keeps_mv | apply keeps_skip)) trivial ?_)
              clear hl hh a w; intro vc Fc a w hR hl hh
              obtain ⟨rfl, g', l', G9, hgl, hgo, hlo, hgp, hlp, rfl⟩ := hR
              try simp only [List.cons_append, List.nil_append, List.append_assoc, List.append_nil] at hh
              simp only [GF, List.append_assoc, List.cons_append] at hh
              rw [hgl, hled] at hh
              refine d_step (fun h => absurd h (by decide)) ?_
              refine d_takeL (i := 9) hl rfl (by kernel_rfl) (by kernel_rfl) (by kernel_rfl) (by kernel_rfl) (by kernel_rfl) rfl trivial (fun _ _ _ h => h) (fun w => r_move hl rfl) rfl ?_
              clear hl a; intro a hl
              refine d_takeL (i := 10) hl rfl (by kernel_rfl) (by kernel_rfl) (by kernel_rfl) (by kernel_rfl) (by kernel_rfl) rfl trivial (fun _ _ _ h => h) (fun w => r_extract hl rfl (by simp only [List.getElem?_toArray, List.getElem?_cons_zero, List.getElem?_cons_succ]; rfl)) rfl ?_
              clear hl a; intro a hl
              refine d_takeL (i := 11) hl rfl (by kernel_rfl) (by kernel_rfl) (by kernel_rfl) (by kernel_rfl) (by kernel_rfl) rfl trivial (fun _ _ _ h => h) (fun w => r_extract hl rfl (by simp only [List.getElem?_toArray, List.getElem?_cons_zero, List.getElem?_cons_succ]; rfl)) rfl ?_
              clear hl a; intro a hl
              refine d_takeL (i := 12) hl rfl (by kernel_rfl) (by kernel_rfl) (by kernel_rfl) (by kernel_rfl) (by kernel_rfl) rfl trivial (fun _ _ _ h => h) (fun w => r_assign hl rfl) rfl ?_
              clear hl a; intro a hl
              refine d_takeL (i := 13) hl rfl (by kernel_rfl) (by kernel_rfl) (by kernel_rfl) (by kernel_rfl) (by kernel_rfl) rfl trivial (fun _ _ _ h => h) (fun w => r_assign hl rfl) rfl ?_
              clear hl a; intro a hl
              refine d_done (by kernel_rfl) ?_
              try clear hM
              have hl2 := hl.add (t := 0) (hl.add (t := 2) (hl.add (t := 4) (hl.add (t := 8) (hl.add (t := 9) (hl.nil) rfl) rfl) rfl) rfl) rfl; clear hl; have hl := hl2; clear hl2
              refine then_normal ?_
              refine c_region ?_
              refine wl (wl_val hl rfl trivial (r_move hl rfl) ?_)
              clear hl a; intro a hl
              first | refine wl (wl_val hl rfl trivial (r_conv hl rfl Tryz.underlying60 Tryz.underlying36 (by simp only [Fits]; omega)) ?_) | refine wl (wl_val hl rfl trivial (r_convW hl rfl Tryz.underlying60 Tryz.underlying36) ?_)
              clear hl a; intro a hl
              refine wl (wl_val hl rfl trivial (r_assign hl rfl) ?_)
              clear hl a; intro a hl
              refine w_nil ?_
              have hl2 := hl.add (t := 0) (hl.add (t := 2) (hl.add (t := 4) (hl.add (t := 7) (hl.add (t := 8) (hl.nil) rfl) rfl) rfl) rfl) rfl; clear hl; have hl := hl2; clear hl2
              refine blk_normal ?_
              refine then_normal ?_
              refine c_seq ?_
              refine c_region ?_
              refine wl (wl_val hl rfl trivial (r_move hl rfl) ?_)
              clear hl a; intro a hl
              refine wl (wl_val hl rfl trivial (r_nilCheck hl rfl) ?_)
              clear hl a; intro a hl
              refine wl (wl_val hl rfl trivial (r_field hl rfl fld55_1) ?_)
              clear hl a; intro a hl
              refine wl (w_load hl hh rfl trivial one50 rfl (by repeat (first | exact find_head | apply find_tail | apply find_skip)) (by first | exact hcg | exact hct | (exact (show (WoV.c { W with l := l', g := some (gb, g'.clr), td := postP W.td g'.out, tp := p6, tc := c6, tE := E6 })[0 + 1]? = some (.pointer (some ⟨gb, 0, none⟩)) from rfl)) | exact wc_g _ | rfl) ?_)
              clear hl a; intro a hl
              refine wl (w_call hl hh rfl trivial rfl cal16 rfl (outbox_spec gb g') (by repeat (first | exact keeps_nil | apply keeps_cons (by repeat (first | exact find_head | apply find_tail | apply find_skip)) (by first  | rfl) | exact keeps_self | exact keeps_left | apply keeps_app | apply keeps_mv | apply keeps_skip)) trivial ?_)
              clear hl hh a w; intro vc Fc a w hR hl hh
              obtain ⟨rfl, rfl⟩ := hR
              try simp only [List.cons_append, List.nil_append, List.append_assoc, List.append_nil] at hh
              refine wl (wl_val hl rfl trivial (r_assign hl rfl) ?_)
              clear hl a; intro a hl
              refine w_nil ?_
              have hl2 := hl.add (t := 0) (hl.add (t := 2) (hl.add (t := 4) (hl.add (t := 7) (hl.add (t := 8) (hl.add (t := 10) (hl.nil) rfl) rfl) rfl) rfl) rfl) rfl; clear hl; have hl := hl2; clear hl2
              refine then_normal ?_
              refine c_seq ?_
              refine c_region ?_
              refine wl (wl_val hl rfl trivial (r_move hl rfl) ?_)
              clear hl a; intro a hl
              refine wl (wl_val hl rfl trivial (r_nilCheck hl rfl) ?_)
              clear hl a; intro a hl
              refine wl (wl_val hl rfl trivial (r_field hl rfl fld55_3) ?_)
              clear hl a; intro a hl
              refine wl (wl_val hl rfl trivial (r_move hl rfl) ?_)
              clear hl a; intro a hl
              refine wl (w_call hl hh rfl trivial rfl cal17 rfl (post_spec wb W.c (0 + 18) W.td W.tp W.tc W.tE hW.t hct hW.tl g'.out g'.op g'.oc g'.oE hgo.o hgo.ol) (by repeat (first | exact keeps_nil | apply keeps_cons (by repeat (first | exact find_head | apply find_tail | apply find_skip)) (by first  | rfl) | exact keeps_self | exact keeps_left | apply keeps_app | apply keeps_mv | apply keeps_skip)) trivial ?_)
              clear hl hh a w; intro vc Fc a w hR hl hh
              obtain ⟨rfl, p6, c6, E6, hR6, rfl⟩ := hR
              try simp only [List.cons_append, List.nil_append, List.append_assoc, List.append_nil] at hh
              have hw1 : wst W.c (0 + 18) (.slice p6 (postP W.td g'.out).length c6) = WoV.c { W with l := l', g := some (gb, g'.clr), td := postP W.td g'.out, tp := p6, tc := c6, tE := E6 } := w1_c W hW.dl hg g'.clr l' p6 _ c6 E6
              rw [hw1] at hh
              have hW1 : WoV.ok (Z ++ G9) { W with l := l', g := some (gb, g'.clr), td := postP W.td g'.out, tp := p6, tc := c6, tE := E6 } := w1_ok hW.app hlo (clr_ok hgo) (hgl.trans hled) rfl rfl hR6 (fun m h9 => ⟨hgo.oo m h9, out_d (i := i) hI hst hdn m (by rw [← hgp]; exact h9)⟩)
              have hbd := gin_id (g := g.pl) (l := W.l.pl) (i := i) hI hdn (par_id i.tx)
              have hsw := fun (id c : Int) (h1 : id = (ginP g.pl W.l.pl i).2.1) (h2 : c = (ginP g.pl W.l.pl i).2.2) => L.saw { W with l := l', g := some (gb, g'.clr), td := postP W.td g'.out, tp := p6, tc := c6, tE := E6 } (Z ++ G9) x x' Fx i p cap gb g'.clr id c g'.out g'.op g'.oc g'.oE hW1 rfl (L.mono hMx) hi.app hgo.o hgo.oo hgo.ol (by rw [h1]; exact hbd.1) (by rw [h2]; exact hbd.2) (by rw [h1, h2]; have h9 := hs; rw [← hgp, ← hlp] at h9; exact h9)
              simp only [WoV.F, WoV.GF, GF, List.append_assoc, List.cons_append, List.nil_append] at hsw
              rw [show g'.clr.led = W.lb from hgl.trans hled] at hsw
              refine w_nil ?_
              have hl2 := hl.add (t := 0) (hl.add (t := 2) (hl.add (t := 4) (hl.add (t := 7) (hl.add (t := 8) (hl.add (t := 10) (hl.nil) rfl) rfl) rfl) rfl) rfl) rfl; clear hl; have hl := hl2; clear hl2
              refine then_normal ?_
              refine c_seq ?_
              refine c_region ?_
              refine wl (wl_val hl rfl trivial (r_move hl rfl) ?_)
              clear hl a; intro a hl
              refine wl (wl_val hl rfl trivial (r_nilCheck hl rfl) ?_)
              clear hl a; intro a hl
              refine wl (wl_val hl rfl trivial (r_field hl rfl fld55_1) ?_)
              clear hl a; intro a hl
              refine wl (w_load hl hh rfl trivial one50 rfl (by repeat (first | exact find_head | apply find_tail | apply find_skip)) (by first | exact hcg | exact hct | (exact (show (WoV.c { W with l := l', g := some (gb, g'.clr), td := postP W.td g'.out, tp := p6, tc := c6, tE := E6 })[0 + 1]? = some (.pointer (some ⟨gb, 0, none⟩)) from rfl)) | exact wc_g _ | rfl) ?_)
              clear hl a; intro a hl
              refine wl (w_call hl hh rfl trivial rfl cal40 rfl (down_spec gb g'.clr) (by repeat (first | exact keeps_nil | apply keeps_cons (by repeat (first | exact find_head | apply find_tail | apply find_skip)) (by first  | rfl) | exact keeps_self | exact keeps_left | apply keeps_app | apply keeps_mv | apply keeps_skip)) trivial ?_)
              clear hl hh a w; intro vc Fc a w hR hl hh
              obtain ⟨rfl, rfl⟩ := hR
              try simp only [List.cons_append, List.nil_append, List.append_assoc, List.append_nil] at hh
              refine wl (wl_val hl rfl trivial (r_assign hl rfl) ?_)
              clear hl a; intro a hl
              refine w_nil ?_
              have hl2 := hl.add (t := 0) (hl.add (t := 2) (hl.add (t := 4) (hl.add (t := 7) (hl.add (t := 8) (hl.add (t := 10) (hl.add (t := 11) (hl.nil) rfl) rfl) rfl) rfl) rfl) rfl) rfl; clear hl; have hl := hl2; clear hl2
              refine then_normal ?_
              refine c_seq ?_
              refine c_seq ?_
              refine c_region ?_
              refine wl (wl_val hl rfl trivial (r_move hl rfl) ?_)
              clear hl a; intro a hl
              refine wl (w_loadA hl hh rfl trivial agg113 rfl (by repeat (first | exact find_head | apply find_tail | apply find_skip)) (by rfl) (by rfl) ?_)
              clear hl a; intro a hl
              refine wl (wl_val hl rfl trivial (r_move hl rfl) ?_)
              clear hl a; intro a hl
              refine wl (wl_val hl rfl trivial (r_move hl rfl) ?_)
              clear hl a; intro a hl
              refine wl (wl_val hl rfl trivial (r_move hl rfl) ?_)
              clear hl a; intro a hl
              refine wl (w_callP hl hh rfl trivial rfl L.dsaw rfl (hsw _ _ (by first | rfl | exact hid.symm | exact wrap_fits (k := .u32) hbd.1) (by first | rfl | exact hcd.symm)) (by repeat (first | exact keeps_nil | apply keeps_cons (by repeat (first | exact find_head | apply find_tail | apply find_skip)) (by first  | rfl) | exact keeps_self | exact keeps_left | apply keeps_app | apply keeps_mv | apply keeps_skip)) trivial ?_)
              clear hl hh a w; intro vc Fc a w hR hl hh
              rcases hR with ⟨rfl, F2, hM2, rfl⟩
              ·
                try simp only [List.cons_append, List.nil_append, List.append_nil] at hh
                try simp only [List.append_assoc, List.cons_append, List.nil_append] at hh
                refine wl (wl_val hl rfl trivial (r_not hl rfl) ?_)
                clear hl a; intro a hl
                refine w_nil ?_
                have hl2 := hl.add (t := 0) (hl.add (t := 2) (hl.add (t := 11) (hl.add (t := 115) (hl.nil) rfl) rfl) rfl) rfl; clear hl; have hl := hl2; clear hl2
                refine then_normal ?_
                refine c_condF hl rfl ?_
                refine wp_skip ?_
                refine then_normal ?_
                refine c_seq ?_
                refine c_seq ?_
                refine c_region ?_
                refine wl (wl_val hl rfl trivial (r_move hl rfl) ?_)
                clear hl a; intro a hl
                refine w_nil ?_
                have hl2 := hl.add (t := 0) (hl.add (t := 2) (hl.add (t := 116) (hl.nil) rfl) rfl) rfl; clear hl; have hl := hl2; clear hl2
                refine then_normal ?_
                refine c_cond hl rfl ?_ ?_
                · intro hc9
                  try simp only [decide_eq_true_eq, decide_eq_false_iff_not, Bool.not_eq_true', Bool.not_eq_false', Bool.not_eq_true, Bool.not_eq_false, Bool.and_eq_true, Bool.or_eq_true, Bool.and_eq_false_iff, Bool.or_eq_false_iff, Bool.not_not, ne_eq, Int.not_lt, Int.not_le, Decidable.not_not, beq_iff_eq, bne_iff_ne] at hc9
                  refine c_seq ?_
                  refine c_region ?_
                  refine wl (wl_val hl rfl trivial (r_move hl rfl) ?_)
                  clear hl a; intro a hl
                  refine wl (wl_val hl rfl trivial (r_nilCheck hl rfl) ?_)
                  clear hl a; intro a hl
                  refine wl (wl_val hl rfl trivial (r_field hl rfl fld55_1) ?_)
                  clear hl a; intro a hl
                  refine wl (w_store hl hh trivial one50 rfl rfl (by repeat (first | exact find_head | apply find_tail | apply find_skip)) (by first | (simp; done) | (simp; omega) | (rw [wc_len _ hW1.dl]; omega) | (rw [wc_len _ hW1.dl]; simp; done)) (by first | rfl | assumption | (apply Row.one; assumption)) (by first | exact wc_sg _ none | (simp only [setL, List.getElem?_cons_zero, List.getElem?_cons_succ, Value.cells, List.take_zero, List.take_succ_cons, List.take_nil, List.drop_zero, List.drop_succ_cons, List.drop_nil, List.length_cons, List.length_nil, List.cons_append, List.nil_append, List.append_nil, Nat.zero_add, Nat.add_zero, Nat.reduceAdd, Nat.reduceBEq, Nat.reduceEqDiff, Nat.ble, BEq.rfl, Bool.and_true, Bool.and_self, cond_true, beq_self_eq_true]; rfl)) ?_)
                  clear hh w; intro w hh
                  refine w_nil ?_
                  have hl2 := hl.add (t := 2) (hl.nil) rfl; clear hl; have hl := hl2; clear hl2
                  refine then_normal ?_
                  refine c_region ?_
                  refine wl (wl_val hl rfl trivial (r_move hl rfl) ?_)
                  clear hl a; intro a hl
                  refine wl (w_callP hl hh rfl trivial rfl L.dfell rfl (L.fell (Z ++ G9) x' F2 hM2) (by repeat (first | exact keeps_nil | apply keeps_cons (by repeat (first | exact find_head | apply find_tail | apply find_skip)) (by first  | rfl) | exact keeps_self | exact keeps_left | apply keeps_app | apply keeps_mv | apply keeps_skip)) trivial ?_)
                  clear hl hh a w; intro vc Fc a w hR hl hh
                  obtain ⟨rfl, hM3⟩ := hR
                  try simp only [List.cons_append, List.nil_append, List.append_assoc, List.append_nil] at hh
                  generalize Fc = F3 at hh hM3
                  try simp only [List.append_assoc, List.cons_append, List.nil_append] at hh
                  refine w_nil ?_
                  have hl2 := hl.nil; clear hl; have hl := hl2; clear hl2
                  refine then_normal ?_
                  refine c_seq ?_
                  refine c_region ?_
                  refine wl (wl_val hl rfl trivial (r_assign hl rfl) ?_)
                  clear hl a; intro a hl
                  refine w_nil ?_
                  have hl2 := hl.add (t := 6) (hl.nil) rfl; clear hl; have hl := hl2; clear hl2
                  refine then_normal ?_
                  refine wp_ret ?_
                  first
                  | (have hq := hM3; refine f_ret1 (F' := F3 ++ ((wb, C (WoV.c { W with l := l', g := none, td := postP W.td g'.out, tp := p6, tc := c6, tE := E6 }) 55) :: (E6 ++ (W.gE ++ (DsF W.ds ++ ((W.lb, C l'.c 91) :: (l'.d.E ++ (Z ++ G9)))))))) hl hh rfl rfl (by repeat (first | exact keeps_nil | apply keeps_cons (by repeat (first | exact find_head | apply find_tail | apply find_skip)) (by first  | rfl) | exact keeps_self | exact keeps_left | apply keeps_app | apply keeps_mv | apply keeps_skip)) ?_; refine ⟨rfl, { W with l := l', g := none, td := postP W.td g'.out, tp := p6, tc := c6, tE := E6 }, G9, F3, ⟨hlo, fun y hy => (by cases hy), hW.dl, hW.ds, hW1.t, hW1.to, hW1.tl, hW.r, hW.ro, hW.rl⟩, fun xd xg => (fedG_pl hg hgp hlp p6 c6 E6 xd xg).1 hc9, ?_, rfl⟩; (rw [if_pos (by rw [← hgp]; exact hc9)]; exact hM3))
                  | (refine f_ret1 (F' := F2 ++ ((wb, C (WoV.c { W with l := l', g := some (gb, g'.clr), td := postP W.td g'.out, tp := p6, tc := c6, tE := E6 }) 55) :: (E6 ++ (W.gE ++ (DsF W.ds ++ ((gb, C (GtV.c g'.clr) 127) :: (g'.st.E ++ (g'.qE ++ ((g'.rb, MD (kInt .u32) g'.rl g'.rn) :: ((W.lb, C l'.c 91) :: (l'.d.E ++ (Z ++ G9)))))))))))) hl hh rfl rfl (by repeat (first | exact keeps_nil | apply keeps_cons (by repeat (first | exact find_head | apply find_tail | apply find_skip)) (by first  | rfl) | exact keeps_self | exact keeps_left | apply keeps_app | apply keeps_mv | apply keeps_skip)) ?_; refine ⟨rfl, { W with l := l', g := some (gb, g'.clr), td := postP W.td g'.out, tp := p6, tc := c6, tE := E6 }, G9, F2, hW1, fun xd xg => (fedG_pl hg hgp hlp p6 c6 E6 xd xg).2 hc9, ?_, ?_⟩; (rw [if_neg (by rw [← hgp]; show ¬ g'.off = true; rw [show g'.off = false from hc9]; simp)]; exact hM2); (simp only [WoV.F, WoV.GF, GF, List.append_assoc, List.cons_append, List.nil_append]; rw [show g'.clr.led = W.lb from hgl.trans hled]; rfl))
                · intro hc9
                  try simp only [decide_eq_true_eq, decide_eq_false_iff_not, Bool.not_eq_true', Bool.not_eq_false', Bool.not_eq_true, Bool.not_eq_false, Bool.and_eq_true, Bool.or_eq_true, Bool.and_eq_false_iff, Bool.or_eq_false_iff, Bool.not_not, ne_eq, Int.not_lt, Int.not_le, Decidable.not_not, beq_iff_eq, bne_iff_ne] at hc9
                  refine wp_skip ?_
                  refine then_normal ?_
                  refine c_seq ?_
                  refine c_region ?_
                  refine wl (wl_val hl rfl trivial (r_assign hl rfl) ?_)
                  clear hl a; intro a hl
                  refine w_nil ?_
                  have hl2 := hl.add (t := 6) (hl.nil) rfl; clear hl; have hl := hl2; clear hl2
                  refine then_normal ?_
                  refine wp_ret ?_
                  first
                  | (have hq := hM3; refine f_ret1 (F' := F3 ++ ((wb, C (WoV.c { W with l := l', g := none, td := postP W.td g'.out, tp := p6, tc := c6, tE := E6 }) 55) :: (E6 ++ (W.gE ++ (DsF W.ds ++ ((W.lb, C l'.c 91) :: (l'.d.E ++ (Z ++ G9)))))))) hl hh rfl rfl (by repeat (first | exact keeps_nil | apply keeps_cons (by repeat (first | exact find_head | apply find_tail | apply find_skip)) (by first  | rfl) | exact keeps_self | exact keeps_left | apply keeps_app | apply keeps_mv | apply keeps_skip)) ?_; refine ⟨rfl, { W with l := l', g := none, td := postP W.td g'.out, tp := p6, tc := c6, tE := E6 }, G9, F3, ⟨hlo, fun y hy => (by cases hy), hW.dl, hW.ds, hW1.t, hW1.to, hW1.tl, hW.r, hW.ro, hW.rl⟩, fun xd xg => (fedG_pl hg hgp hlp p6 c6 E6 xd xg).1 hc9, ?_, rfl⟩; (rw [if_pos (by rw [← hgp]; exact hc9)]; exact hM3))
                  | (refine f_ret1 (F' := F2 ++ ((wb, C (WoV.c { W with l := l', g := some (gb, g'.clr), td := postP W.td g'.out, tp := p6, tc := c6, tE := E6 }) 55) :: (E6 ++ (W.gE ++ (DsF W.ds ++ ((gb, C (GtV.c g'.clr) 127) :: (g'.st.E ++ (g'.qE ++ ((g'.rb, MD (kInt .u32) g'.rl g'.rn) :: ((W.lb, C l'.c 91) :: (l'.d.E ++ (Z ++ G9)))))))))))) hl hh rfl rfl (by repeat (first | exact keeps_nil | apply keeps_cons (by repeat (first | exact find_head | apply find_tail | apply find_skip)) (by first  | rfl) | exact keeps_self | exact keeps_left | apply keeps_app | apply keeps_mv | apply keeps_skip)) ?_; refine ⟨rfl, { W with l := l', g := some (gb, g'.clr), td := postP W.td g'.out, tp := p6, tc := c6, tE := E6 }, G9, F2, hW1, fun xd xg => (fedG_pl hg hgp hlp p6 c6 E6 xd xg).2 hc9, ?_, ?_⟩; (rw [if_neg (by rw [← hgp]; show ¬ g'.off = true; rw [show g'.off = false from hc9]; simp)]; exact hM2); (simp only [WoV.F, WoV.GF, GF, List.append_assoc, List.cons_append, List.nil_append]; rw [show g'.clr.led = W.lb from hgl.trans hled]; rfl))
            · intro hc5
              try simp only [decide_eq_true_eq, decide_eq_false_iff_not, Bool.not_eq_true', Bool.not_eq_false', Bool.not_eq_true, Bool.not_eq_false, Bool.and_eq_true, Bool.or_eq_true, Bool.and_eq_false_iff, Bool.or_eq_false_iff, Bool.not_not, ne_eq, Int.not_lt, Int.not_le, Decidable.not_not, beq_iff_eq, bne_iff_ne] at hc5
              refine c_seq ?_
              refine c_region ?_
              refine wl (wl_val hl rfl trivial (r_eql hl rfl rfl) ?_)
              clear hl a; intro a hl
              refine wl (wl_val hl rfl trivial (r_assign hl rfl) ?_)
              clear hl a; intro a hl
              refine w_nil ?_
              have hl2 := hl.add (t := 0) (hl.add (t := 2) (hl.add (t := 4) (hl.add (t := 7) (hl.add (t := 8) (hl.add (t := 13) (hl.add (t := 78) (hl.nil) rfl) rfl) rfl) rfl) rfl) rfl) rfl; clear hl; have hl := hl2; clear hl2
              refine then_normal ?_
              refine c_cond hl rfl ?_ ?_
              · intro hc6
                try simp only [decide_eq_true_eq, decide_eq_false_iff_not, Bool.not_eq_true', Bool.not_eq_false', Bool.not_eq_true, Bool.not_eq_false, Bool.and_eq_true, Bool.or_eq_true, Bool.and_eq_false_iff, Bool.or_eq_false_iff, Bool.not_not, ne_eq, Int.not_lt, Int.not_le, Decidable.not_not, beq_iff_eq, bne_iff_ne] at hc6
                have hck : i.k = 5 := by omega
                refine c_region ?_
                refine wl (wl_val hl rfl trivial (r_move hl rfl) ?_)
                clear hl a; intro a hl
                refine wl (wl_val hl rfl trivial (r_nilCheck hl rfl) ?_)
                clear hl a; intro a hl
                refine wl (wl_val hl rfl trivial (r_field hl rfl fld55_1) ?_)
                clear hl a; intro a hl
                refine wl (w_load hl hh rfl trivial one50 rfl (by repeat (first | exact find_head | apply find_tail | apply find_skip)) (by first | exact hcg | exact hct | (exact (show (WoV.c { W with l := l', g := some (gb, g'.clr), td := postP W.td g'.out, tp := p6, tc := c6, tE := E6 })[0 + 1]? = some (.pointer (some ⟨gb, 0, none⟩)) from rfl)) | exact wc_g _ | rfl) ?_)
                clear hl a; intro a hl
                refine wl (w_call hl hh rfl trivial rfl cal38 rfl (in_tick Z gb g W.l hgok hW.l hI hvs i p cap hi hck) (by repeat (first | exact keeps_nil | apply keeps_cons (by repeat (first | exact find_head | apply find_tail | apply find_skip)) (by first  | rfl) | exact keeps_self | exact keeps_left | apply keeps_app | apply keeps_mv | apply keeps_skip)) trivial ?_)
                clear hl hh a w; intro vc Fc a w hR hl hh
                obtain ⟨rfl, g', l', G9, hgl, hgo, hlo, hgp, hlp, rfl⟩ := hR
                try simp only [List.cons_append, List.nil_append, List.append_assoc, List.append_nil] at hh
                simp only [GF, List.append_assoc, List.cons_append] at hh
                rw [hgl, hled] at hh
                have hid : (ginP g.pl W.l.pl i).2.1 = 0 := by rw [gi_5 hck]
                have hcd : (ginP g.pl W.l.pl i).2.2 = 0 := by rw [gi_5 hck]
                refine w_nil ?_
                have hl2 := hl.add (t := 0) (hl.add (t := 2) (hl.add (t := 4) (hl.add (t := 7) (hl.add (t := 8) (hl.nil) rfl) rfl) rfl) rfl) rfl; clear hl; have hl := hl2; clear hl2
                refine blk_normal ?_
                refine then_normal ?_
                refine c_seq ?_
                refine c_region ?_
                refine wl (wl_val hl rfl trivial (r_move hl rfl) ?_)
                clear hl a; intro a hl
                refine wl (wl_val hl rfl trivial (r_nilCheck hl rfl) ?_)
                clear hl a; intro a hl
                refine wl (wl_val hl rfl trivial (r_field hl rfl fld55_1) ?_)
                clear hl a; intro a hl
                refine wl (w_load hl hh rfl trivial one50 rfl (by repeat (first | exact find_head | apply find_tail | apply find_skip)) (by first | exact hcg | exact hct | (exact (show (WoV.c { W with l := l', g := some (gb, g'.clr), td := postP W.td g'.out, tp := p6, tc := c6, tE := E6 })[0 + 1]? = some (.pointer (some ⟨gb, 0, none⟩)) from rfl)) | exact wc_g _ | rfl) ?_)
                clear hl a; intro a hl
                refine wl (w_call hl hh rfl trivial rfl cal16 rfl (outbox_spec gb g') (by repeat (first | exact keeps_nil | apply keeps_cons (by repeat (first | exact find_head | apply find_tail | apply find_skip)) (by first  | rfl) | exact keeps_self | exact keeps_left | apply keeps_app | apply keeps_mv | apply keeps_skip)) trivial ?_)
                clear hl hh a w; intro vc Fc a w hR hl hh
                obtain ⟨rfl, rfl⟩ := hR
                try simp only [List.cons_append, List.nil_append, List.append_assoc, List.append_nil] at hh
                refine wl (wl_val hl rfl trivial (r_assign hl rfl) ?_)
                clear hl a; intro a hl
                refine w_nil ?_
                have hl2 := hl.add (t := 0) (hl.add (t := 2) (hl.add (t := 4) (hl.add (t := 7) (hl.add (t := 8) (hl.add (t := 10) (hl.nil) rfl) rfl) rfl) rfl) rfl) rfl; clear hl; have hl := hl2; clear hl2
                refine then_normal ?_
                refine c_seq ?_
                refine c_region ?_
                refine wl (wl_val hl rfl trivial (r_move hl rfl) ?_)
                clear hl a; intro a hl
                refine wl (wl_val hl rfl trivial (r_nilCheck hl rfl) ?_)
                clear hl a; intro a hl
                refine wl (wl_val hl rfl trivial (r_field hl rfl fld55_3) ?_)
                clear hl a; intro a hl
                refine wl (wl_val hl rfl trivial (r_move hl rfl) ?_)
                clear hl a; intro a hl
                refine wl (w_call hl hh rfl trivial rfl cal17 rfl (post_spec wb W.c (0 + 18) W.td W.tp W.tc W.tE hW.t hct hW.tl g'.out g'.op g'.oc g'.oE hgo.o hgo.ol) (by repeat (first | exact keeps_nil | apply keeps_cons (by repeat (first | exact find_head | apply find_tail | apply find_skip)) (by first  | rfl) | exact keeps_self | exact keeps_left | apply keeps_app | apply keeps_mv | apply keeps_skip)) trivial ?_)
                clear hl hh a w; intro vc Fc a w hR hl hh
                obtain ⟨rfl, p6, c6, E6, hR6, rfl⟩ := hR
                try simp only [List.cons_append, List.nil_append, List.append_assoc, List.append_nil] at hh
                have hw1 : wst W.c (0 + 18) (.slice p6 (postP W.td g'.out).length c6) = WoV.c { W with l := l', g := some (gb, g'.clr), td := postP W.td g'.out, tp := p6, tc := c6, tE := E6 } := w1_c W hW.dl hg g'.clr l' p6 _ c6 E6
                rw [hw1] at hh
                have hW1 : WoV.ok (Z ++ G9) { W with l := l', g := some (gb, g'.clr), td := postP W.td g'.out, tp := p6, tc := c6, tE := E6 } := w1_ok hW.app hlo (clr_ok hgo) (hgl.trans hled) rfl rfl hR6 (fun m h9 => ⟨hgo.oo m h9, out_d (i := i) hI hst hdn m (by rw [← hgp]; exact h9)⟩)
                have hbd := gin_id (g := g.pl) (l := W.l.pl) (i := i) hI hdn (par_id i.tx)
                have hsw := fun (id c : Int) (h1 : id = (ginP g.pl W.l.pl i).2.1) (h2 : c = (ginP g.pl W.l.pl i).2.2) => L.saw { W with l := l', g := some (gb, g'.clr), td := postP W.td g'.out, tp := p6, tc := c6, tE := E6 } (Z ++ G9) x x' Fx i p cap gb g'.clr id c g'.out g'.op g'.oc g'.oE hW1 rfl (L.mono hMx) hi.app hgo.o hgo.oo hgo.ol (by rw [h1]; exact hbd.1) (by rw [h2]; exact hbd.2) (by rw [h1, h2]; have h9 := hs; rw [← hgp, ← hlp] at h9; exact h9)
                simp only [WoV.F, WoV.GF, GF, List.append_assoc, List.cons_append, List.nil_append] at hsw
                rw [show g'.clr.led = W.lb from hgl.trans hled] at hsw
                refine w_nil ?_
                have hl2 := hl.add (t := 0) (hl.add (t := 2) (hl.add (t := 4) (hl.add (t := 7) (hl.add (t := 8) (hl.add (t := 10) (hl.nil) rfl) rfl) rfl) rfl) rfl) rfl; clear hl; have hl := hl2; clear hl2
                refine then_normal ?_
                refine c_seq ?_
                refine c_region ?_
                refine wl (wl_val hl rfl trivial (r_move hl rfl) ?_)
                clear hl a; intro a hl
                refine wl (wl_val hl rfl trivial (r_nilCheck hl rfl) ?_)
                clear hl a; intro a hl
                refine wl (wl_val hl rfl trivial (r_field hl rfl fld55_1) ?_)
                clear hl a; intro a hl
                refine wl (w_load hl hh rfl trivial one50 rfl (by repeat (first | exact find_head | apply find_tail | apply find_skip)) (by first | exact hcg | exact hct | (exact (show (WoV.c { W with l := l', g := some (gb, g'.clr), td := postP W.td g'.out, tp := p6, tc := c6, tE := E6 })[0 + 1]? = some (.pointer (some ⟨gb, 0, none⟩)) from rfl)) | exact wc_g _ | rfl) ?_)
                clear hl a; intro a hl
                refine wl (w_call hl hh rfl trivial rfl cal40 rfl (down_spec gb g'.clr) (by repeat (first | exact keeps_nil | apply keeps_cons (by repeat (first | exact find_head | apply find_tail | apply find_skip)) (by first  | rfl) | exact keeps_self | exact keeps_left | apply keeps_app | apply keeps_mv | apply keeps_skip)) trivial ?_)
                clear hl hh a w; intro vc Fc a w hR hl hh
                obtain ⟨rfl, rfl⟩ := hR
                try simp only [List.cons_append, List.nil_append, List.append_assoc, List.append_nil] at hh
                refine wl (wl_val hl rfl trivial (r_assign hl rfl) ?_)
                clear hl a; intro a hl
                refine w_nil ?_
                have hl2 := hl.add (t := 0) (hl.add (t := 2) (hl.add (t := 4) (hl.add (t := 7) (hl.add (t := 8) (hl.add (t := 10) (hl.add (t := 11) (hl.nil) rfl) rfl) rfl) rfl) rfl) rfl) rfl; clear hl; have hl := hl2; clear hl2
                refine then_normal ?_
                refine c_seq ?_
                refine c_seq ?_
                refine c_region ?_
                refine wl (wl_val hl rfl trivial (r_move hl rfl) ?_)
                clear hl a; intro a hl
                refine wl (w_loadA hl hh rfl trivial agg113 rfl (by repeat (first | exact find_head | apply find_tail | apply find_skip)) (by rfl) (by rfl) ?_)
                clear hl a; intro a hl
                refine wl (wl_val hl rfl trivial (r_move hl rfl) ?_)
                clear hl a; intro a hl
                refine wl (wl_val hl rfl trivial (r_move hl rfl) ?_)
                clear hl a; intro a hl
                refine wl (wl_val hl rfl trivial (r_move hl rfl) ?_)
                clear hl a; intro a hl
                refine wl (w_callP hl hh rfl trivial rfl L.dsaw rfl (hsw _ _ (by first | rfl | exact hid.symm | exact wrap_fits (k := .u32) hbd.1) (by first | rfl | exact hcd.symm)) (by repeat (first | exact keeps_nil | apply keeps_cons (by repeat (first | exact find_head | apply find_tail | apply find_skip)) (by first  | rfl) | exact keeps_self | exact keeps_left | apply keeps_app | apply keeps_mv | apply keeps_skip)) trivial ?_)
                clear hl hh a w; intro vc Fc a w hR hl hh
                rcases hR with ⟨rfl, F2, hM2, rfl⟩
                ·
                  try simp only [List.cons_append, List.nil_append, List.append_nil] at hh
                  try simp only [List.append_assoc, List.cons_append, List.nil_append] at hh
                  refine wl (wl_val hl rfl trivial (r_not hl rfl) ?_)
                  clear hl a; intro a hl
                  refine w_nil ?_
                  have hl2 := hl.add (t := 0) (hl.add (t := 2) (hl.add (t := 11) (hl.add (t := 115) (hl.nil) rfl) rfl) rfl) rfl; clear hl; have hl := hl2; clear hl2
                  refine then_normal ?_
                  refine c_condF hl rfl ?_
                  refine wp_skip ?_
                  refine then_normal ?_
                  refine c_seq ?_
                  refine c_seq ?_
                  refine c_region ?_
                  refine wl (wl_val hl rfl trivial (r_move hl rfl) ?_)
                  clear hl a; intro a hl
                  refine w_nil ?_
                  have hl2 := hl.add (t := 0) (hl.add (t := 2) (hl.add (t := 116) (hl.nil) rfl) rfl) rfl; clear hl; have hl := hl2; clear hl2
                  refine then_normal ?_
                  refine c_cond hl rfl ?_ ?_
                  · intro hc9
                    try simp only [decide_eq_true_eq, decide_eq_false_iff_not, Bool.not_eq_true', Bool.not_eq_false', Bool.not_eq_true, Bool.not_eq_false, Bool.and_eq_true, Bool.or_eq_true, Bool.and_eq_false_iff, Bool.or_eq_false_iff, Bool.not_not, ne_eq, Int.not_lt, Int.not_le, Decidable.not_not, beq_iff_eq, bne_iff_ne] at hc9
                    refine c_seq ?_
                    refine c_region ?_
                    refine wl (wl_val hl rfl trivial (r_move hl rfl) ?_)
                    clear hl a; intro a hl
                    refine wl (wl_val hl rfl trivial (r_nilCheck hl rfl) ?_)
                    clear hl a; intro a hl
                    refine wl (wl_val hl rfl trivial (r_field hl rfl fld55_1) ?_)
                    clear hl a; intro a hl
                    refine wl (w_store hl hh trivial one50 rfl rfl (by repeat (first | exact find_head | apply find_tail | apply find_skip)) (by first | (simp; done) | (simp; omega) | (rw [wc_len _ hW1.dl]; omega) | (rw [wc_len _ hW1.dl]; simp; done)) (by first | rfl | assumption | (apply Row.one; assumption)) (by first | exact wc_sg _ none | (simp only [setL, List.getElem?_cons_zero, List.getElem?_cons_succ, Value.cells, List.take_zero, List.take_succ_cons, List.take_nil, List.drop_zero, List.drop_succ_cons, List.drop_nil, List.length_cons, List.length_nil, List.cons_append, List.nil_append, List.append_nil, Nat.zero_add, Nat.add_zero, Nat.reduceAdd, Nat.reduceBEq, Nat.reduceEqDiff, Nat.ble, BEq.rfl, Bool.and_true, Bool.and_self, cond_true, beq_self_eq_true]; rfl)) ?_)
                    clear hh w; intro w hh
                    refine w_nil ?_
                    have hl2 := hl.add (t := 2) (hl.nil) rfl; clear hl; have hl := hl2; clear hl2
                    refine then_normal ?_
                    refine c_region ?_
                    refine wl (wl_val hl rfl trivial (r_move hl rfl) ?_)
                    clear hl a; intro a hl
                    refine wl (w_callP hl hh rfl trivial rfl L.dfell rfl (L.fell (Z ++ G9) x' F2 hM2) (by repeat (first | exact keeps_nil | apply keeps_cons (by repeat (first | exact find_head | apply find_tail | apply find_skip)) (by first  | rfl) | exact keeps_self | exact keeps_left | apply keeps_app | apply keeps_mv | apply keeps_skip)) trivial ?_)
                    clear hl hh a w; intro vc Fc a w hR hl hh
                    obtain ⟨rfl, hM3⟩ := hR
                    try simp only [List.cons_append, List.nil_append, List.append_assoc, List.append_nil] at hh
                    generalize Fc = F3 at hh hM3
                    try simp only [List.append_assoc, List.cons_append, List.nil_append] at hh
                    refine w_nil ?_
                    have hl2 := hl.nil; clear hl; have hl := hl2; clear hl2
                    refine then_normal ?_
                    refine c_seq ?_
                    refine c_region ?_
                    refine wl (wl_val hl rfl trivial (r_assign hl rfl) ?_)
                    clear hl a; intro a hl
                    refine w_nil ?_
                    have hl2 := hl.add (t := 6) (hl.nil) rfl; clear hl; have hl := hl2; clear hl2
                    refine then_normal ?_
                    refine wp_ret ?_
                    first
                    | (have hq := hM3; refine f_ret1 (F' := F3 ++ ((wb, C (WoV.c { W with l := l', g := none, td := postP W.td g'.out, tp := p6, tc := c6, tE := E6 }) 55) :: (E6 ++ (W.gE ++ (DsF W.ds ++ ((W.lb, C l'.c 91) :: (l'.d.E ++ (Z ++ G9)))))))) hl hh rfl rfl (by repeat (first | exact keeps_nil | apply keeps_cons (by repeat (first | exact find_head | apply find_tail | apply find_skip)) (by first  | rfl) | exact keeps_self | exact keeps_left | apply keeps_app | apply keeps_mv | apply keeps_skip)) ?_; refine ⟨rfl, { W with l := l', g := none, td := postP W.td g'.out, tp := p6, tc := c6, tE := E6 }, G9, F3, ⟨hlo, fun y hy => (by cases hy), hW.dl, hW.ds, hW1.t, hW1.to, hW1.tl, hW.r, hW.ro, hW.rl⟩, fun xd xg => (fedG_pl hg hgp hlp p6 c6 E6 xd xg).1 hc9, ?_, rfl⟩; (rw [if_pos (by rw [← hgp]; exact hc9)]; exact hM3))
                    | (refine f_ret1 (F' := F2 ++ ((wb, C (WoV.c { W with l := l', g := some (gb, g'.clr), td := postP W.td g'.out, tp := p6, tc := c6, tE := E6 }) 55) :: (E6 ++ (W.gE ++ (DsF W.ds ++ ((gb, C (GtV.c g'.clr) 127) :: (g'.st.E ++ (g'.qE ++ ((g'.rb, MD (kInt .u32) g'.rl g'.rn) :: ((W.lb, C l'.c 91) :: (l'.d.E ++ (Z ++ G9)))))))))))) hl hh rfl rfl (by repeat (first | exact keeps_nil | apply keeps_cons (by repeat (first | exact find_head | apply find_tail | apply find_skip)) (by first  | rfl) | exact keeps_self | exact keeps_left | apply keeps_app | apply keeps_mv | apply keeps_skip)) ?_; refine ⟨rfl, { W with l := l', g := some (gb, g'.clr), td := postP W.td g'.out, tp := p6, tc := c6, tE := E6 }, G9, F2, hW1, fun xd xg => (fedG_pl hg hgp hlp p6 c6 E6 xd xg).2 hc9, ?_, ?_⟩; (rw [if_neg (by rw [← hgp]; show ¬ g'.off = true; rw [show g'.off = false from hc9]; simp)]; exact hM2); (simp only [WoV.F, WoV.GF, GF, List.append_assoc, List.cons_append, List.nil_append]; rw [show g'.clr.led = W.lb from hgl.trans hled]; rfl))
                  · intro hc9
                    try simp only [decide_eq_true_eq, decide_eq_false_iff_not, Bool.not_eq_true', Bool.not_eq_false', Bool.not_eq_true, Bool.not_eq_false, Bool.and_eq_true, Bool.or_eq_true, Bool.and_eq_false_iff, Bool.or_eq_false_iff, Bool.not_not, ne_eq, Int.not_lt, Int.not_le, Decidable.not_not, beq_iff_eq, bne_iff_ne] at hc9
                    refine wp_skip ?_
                    refine then_normal ?_
                    refine c_seq ?_
                    refine c_region ?_
                    refine wl (wl_val hl rfl trivial (r_assign hl rfl) ?_)
                    clear hl a; intro a hl
                    refine w_nil ?_
                    have hl2 := hl.add (t := 6) (hl.nil) rfl; clear hl; have hl := hl2; clear hl2
                    refine then_normal ?_
                    refine wp_ret ?_
                    first
                    | (have hq := hM3; refine f_ret1 (F' := F3 ++ ((wb, C (WoV.c { W with l := l', g := none, td := postP W.td g'.out, tp := p6, tc := c6, tE := E6 }) 55) :: (E6 ++ (W.gE ++ (DsF W.ds ++ ((W.lb, C l'.c 91) :: (l'.d.E ++ (Z ++ G9)))))))) hl hh rfl rfl (by repeat (first | exact keeps_nil | apply keeps_cons (by repeat (first | exact find_head | apply find_tail | apply find_skip)) (by first  | rfl) | exact keeps_self | exact keeps_left | apply keeps_app | apply keeps_mv | apply keeps_skip)) ?_; refine ⟨rfl, { W with l := l', g := none, td := postP W.td g'.out, tp := p6, tc := c6, tE := E6 }, G9, F3, ⟨hlo, fun y hy => (by cases hy), hW.dl, hW.ds, hW1.t, hW1.to, hW1.tl, hW.r, hW.ro, hW.rl⟩, fun xd xg => (fedG_pl hg hgp hlp p6 c6 E6 xd xg).1 hc9, ?_, rfl⟩; (rw [if_pos (by rw [← hgp]; exact hc9)]; exact hM3))
                    | (refine f_ret1 (F' := F2 ++ ((wb, C (WoV.c { W with l := l', g := some (gb, g'.clr), td := postP W.td g'.out, tp := p6, tc := c6, tE := E6 }) 55) :: (E6 ++ (W.gE ++ (DsF W.ds ++ ((gb, C (GtV.c g'.clr) 127) :: (g'.st.E ++ (g'.qE ++ ((g'.rb, MD (kInt .u32) g'.rl g'.rn) :: ((W.lb, C l'.c 91) :: (l'.d.E ++ (Z ++ G9)))))))))))) hl hh rfl rfl (by repeat (first | exact keeps_nil | apply keeps_cons (by repeat (first | exact find_head | apply find_tail | apply find_skip)) (by first  | rfl) | exact keeps_self | exact keeps_left | apply keeps_app | apply keeps_mv | apply keeps_skip)) ?_; refine ⟨rfl, { W with l := l', g := some (gb, g'.clr), td := postP W.td g'.out, tp := p6, tc := c6, tE := E6 }, G9, F2, hW1, fun xd xg => (fedG_pl hg hgp hlp p6 c6 E6 xd xg).2 hc9, ?_, ?_⟩; (rw [if_neg (by rw [← hgp]; show ¬ g'.off = true; rw [show g'.off = false from hc9]; simp)]; exact hM2); (simp only [WoV.F, WoV.GF, GF, List.append_assoc, List.cons_append, List.nil_append]; rw [show g'.clr.led = W.lb from hgl.trans hled]; rfl))
              · intro hc6
                try simp only [decide_eq_true_eq, decide_eq_false_iff_not, Bool.not_eq_true', Bool.not_eq_false', Bool.not_eq_true, Bool.not_eq_false, Bool.and_eq_true, Bool.or_eq_true, Bool.and_eq_false_iff, Bool.or_eq_false_iff, Bool.not_not, ne_eq, Int.not_lt, Int.not_le, Decidable.not_not, beq_iff_eq, bne_iff_ne] at hc6
                refine c_seq ?_
                refine c_region ?_
                refine wl (wl_val hl rfl trivial (r_eql hl rfl rfl) ?_)
                clear hl a; intro a hl
                refine wl (wl_val hl rfl trivial (r_assign hl rfl) ?_)
                clear hl a; intro a hl
                refine w_nil ?_
                have hl2 := hl.add (t := 0) (hl.add (t := 2) (hl.add (t := 4) (hl.add (t := 7) (hl.add (t := 8) (hl.add (t := 85) (hl.nil) rfl) rfl) rfl) rfl) rfl) rfl; clear hl; have hl := hl2; clear hl2
                refine then_normal ?_
                refine c_cond hl rfl ?_ ?_
                · intro hc7
                  try simp only [decide_eq_true_eq, decide_eq_false_iff_not, Bool.not_eq_true', Bool.not_eq_false', Bool.not_eq_true, Bool.not_eq_false, Bool.and_eq_true, Bool.or_eq_true, Bool.and_eq_false_iff, Bool.or_eq_false_iff, Bool.not_not, ne_eq, Int.not_lt, Int.not_le, Decidable.not_not, beq_iff_eq, bne_iff_ne] at hc7
                  have hck : i.k = 7 := by omega
                  refine c_draw [(wb, C W.c 55), (k4, C [.int .u8 i.k, .int .u32 i.id, .int .u32 i.i2, .slice p i.tx.length cap, .int .u8 i.v.k, .int .u8 i.v.a, .int .u8 i.v.b, .int .u8 i.v.w, .int .u8 i.v.da, .int .u8 i.v.dl, .int .u8 i.m.k, .int .u8 i.m.d, .int .u32 i.m.e, .int .u32 i.m.b, .bool i.m.y, .int .u32 i.m.r, .int .u32 i.m.s, .string i.m.t] 113)] [6] mixed hh ?_
                  clear hh w; intro w hh
                  have hM : Mem [(wb, C W.c 55), (k4, C [.int .u8 i.k, .int .u32 i.id, .int .u32 i.i2, .slice p i.tx.length cap, .int .u8 i.v.k, .int .u8 i.v.a, .int .u8 i.v.b, .int .u8 i.v.w, .int .u8 i.v.da, .int .u8 i.v.dl, .int .u8 i.m.k, .int .u8 i.m.d, .int .u32 i.m.e, .int .u32 i.m.b, .bool i.m.y, .int .u32 i.m.r, .int .u32 i.m.s, .string i.m.t] 113)] w := (memK hh (by repeat (first | exact keeps_nil | apply keeps_cons (by repeat (first | exact find_head | apply find_tail | apply find_skip)) (by first  | rfl) | exact keeps_self | exact keeps_left | apply keeps_app | apply keeps_mv | apply keeps_skip)))
                  refine d_take (i := 0) hl rfl (by kernel_rfl) (by kernel_rfl) (by kernel_rfl) (by kernel_rfl) (by kernel_rfl) rfl trivial (fun _ _ _ h => h) hM (fun w hC => r_move hl rfl) rfl ?_
                  clear hl a; intro a hl
                  refine d_take (i := 1) hl rfl (by kernel_rfl) (by kernel_rfl) (by kernel_rfl) (by kernel_rfl) (by kernel_rfl) rfl trivial (fun _ _ _ h => h) hM (fun w hC => r_nilCheck hl rfl) rfl ?_
                  clear hl a; intro a hl
                  refine d_take (i := 2) hl rfl (by kernel_rfl) (by kernel_rfl) (by kernel_rfl) (by kernel_rfl) (by kernel_rfl) rfl trivial (fun _ _ _ h => h) hM (fun w hC => r_field hl rfl fld55_1) rfl ?_
                  clear hl a; intro a hl
                  refine d_take (i := 3) hl rfl (by kernel_rfl) (by kernel_rfl) (by kernel_rfl) (by kernel_rfl) (by kernel_rfl) rfl trivial (fun _ _ _ h => h) hM (fun w hC => r_loadC hl rfl one50 hC (by repeat (first | exact find_head | apply find_tail | apply find_skip)) (by first | exact hcg | exact hct | (exact (show (WoV.c { W with l := l', g := some (gb, g'.clr), td := postP W.td g'.out, tp := p6, tc := c6, tE := E6 })[0 + 1]? = some (.pointer (some ⟨gb, 0, none⟩)) from rfl)) | exact wc_g _ | rfl)) rfl ?_
                  clear hl a; intro a hl
                  refine d_take (i := 4) hl rfl (by kernel_rfl) (by kernel_rfl) (by kernel_rfl) (by kernel_rfl) (by kernel_rfl) rfl trivial (fun _ _ _ h => h) hM (fun w hC => r_field hl rfl fld113_5) rfl ?_
                  clear hl a; intro a hl
                  refine d_take (i := 5) hl rfl (by kernel_rfl) (by kernel_rfl) (by kernel_rfl) (by kernel_rfl) (by kernel_rfl) rfl trivial (fun _ _ _ h => h) hM (fun w hC => r_loadCA hl rfl agg38 hC (by repeat (first | exact find_head | apply find_tail | apply find_skip)) (by first | (simp only [List.getElem?_cons_zero, List.getElem?_cons_succ, Value.cells, List.take_zero, List.take_succ_cons, List.take_nil, List.drop_zero, List.drop_succ_cons, List.drop_nil, List.length_cons, List.length_nil, List.cons_append, List.nil_append, List.append_nil, Nat.zero_add, Nat.add_zero, Nat.reduceAdd, Nat.reduceBEq, Nat.reduceEqDiff, Nat.ble, BEq.rfl, Bool.and_true, Bool.and_self, cond_true, beq_self_eq_true]; rfl)) (by first | rfl | (simp; done))) rfl ?_
                  clear hl a; intro a hl
                  refine d_one (i := 6) (by kernel_rfl) rfl ?_
                  try clear hM
                  refine id (w_call hl hh rfl trivial rfl cal39 rfl (in_msg Z gb g W.l hgok hW.l hI hvs i p cap hi hck) (by repeat (first | exact keeps_nil | apply keeps_cons (by repeat (first | exact find_head | apply find_tail | apply find_skip)) (by first  | rfl) | exact keeps_self | exact keeps_left | apply keeps_app | apply keeps_mv | apply keeps_skip)) trivial ?_)
                  clear hl hh a w; intro vc Fc a w hR hl hh
                  obtain ⟨rfl, g', l', G9, hgl, hgo, hlo, hgp, hlp, rfl⟩ := hR
                  try simp only [List.cons_append, List.nil_append, List.append_assoc, List.append_nil] at hh
                  simp only [GF, List.append_assoc, List.cons_append] at hh
                  rw [hgl, hled] at hh
                  have hid : (ginP g.pl W.l.pl i).2.1 = 0 := by rw [gi_7 hck]
                  have hcd : (ginP g.pl W.l.pl i).2.2 = 0 := by rw [gi_7 hck]
                  refine d_step (fun h => absurd h (by decide)) ?_
                  refine d_done (by kernel_rfl) ?_
                  try clear hM
                  have hl2 := hl.add (t := 0) (hl.add (t := 2) (hl.add (t := 4) (hl.add (t := 7) (hl.add (t := 8) (hl.nil) rfl) rfl) rfl) rfl) rfl; clear hl; have hl := hl2; clear hl2
                  refine blk_normal ?_
                  refine then_normal ?_
                  refine c_seq ?_
                  refine c_region ?_
                  refine wl (wl_val hl rfl trivial (r_move hl rfl) ?_)
                  clear hl a; intro a hl
                  refine wl (wl_val hl rfl trivial (r_nilCheck hl rfl) ?_)
                  clear hl a; intro a hl
                  refine wl (wl_val hl rfl trivial (r_field hl rfl fld55_1) ?_)
                  clear hl a; intro a hl
                  refine wl (w_load hl hh rfl trivial one50 rfl (by repeat (first | exact find_head | apply find_tail | apply find_skip)) (by first | exact hcg | exact hct | (exact (show (WoV.c { W with l := l', g := some (gb, g'.clr), td := postP W.td g'.out, tp := p6, tc := c6, tE := E6 })[0 + 1]? = some (.pointer (some ⟨gb, 0, none⟩)) from rfl)) | exact wc_g _ | rfl) ?_)
                  clear hl a; intro a hl
                  refine wl (w_call hl hh rfl trivial rfl cal16 rfl (outbox_spec gb g') (by repeat (first | exact keeps_nil | apply keeps_cons (by repeat (first | exact find_head | apply find_tail | apply find_skip)) (by first  | rfl) | exact keeps_self | exact keeps_left | apply keeps_app | apply keeps_mv | apply keeps_skip)) trivial ?_)
                  clear hl hh a w; intro vc Fc a w hR hl hh
                  obtain ⟨rfl, rfl⟩ := hR
                  try simp only [List.cons_append, List.nil_append, List.append_assoc, List.append_nil] at hh
                  refine wl (wl_val hl rfl trivial (r_assign hl rfl) ?_)
                  clear hl a; intro a hl
                  refine w_nil ?_
                  have hl2 := hl.add (t := 0) (hl.add (t := 2) (hl.add (t := 4) (hl.add (t := 7) (hl.add (t := 8) (hl.add (t := 10) (hl.nil) rfl) rfl) rfl) rfl) rfl) rfl; clear hl; have hl := hl2; clear hl2
                  refine then_normal ?_
                  refine c_seq ?_
                  refine c_region ?_
                  refine wl (wl_val hl rfl trivial (r_move hl rfl) ?_)
                  clear hl a; intro a hl
                  refine wl (wl_val hl rfl trivial (r_nilCheck hl rfl) ?_)
                  clear hl a; intro a hl
                  refine wl (wl_val hl rfl trivial (r_field hl rfl fld55_3) ?_)
                  clear hl a; intro a hl
                  refine wl (wl_val hl rfl trivial (r_move hl rfl) ?_)
                  clear hl a; intro a hl
                  refine wl (w_call hl hh rfl trivial rfl cal17 rfl (post_spec wb W.c (0 + 18) W.td W.tp W.tc W.tE hW.t hct hW.tl g'.out g'.op g'.oc g'.oE hgo.o hgo.ol) (by repeat (first | exact keeps_nil | apply keeps_cons (by repeat (first | exact find_head | apply find_tail | apply find_skip)) (by first  | rfl) | exact keeps_self | exact keeps_left | apply keeps_app | apply keeps_mv | apply keeps_skip)) trivial ?_)
                  clear hl hh a w; intro vc Fc a w hR hl hh
                  obtain ⟨rfl, p6, c6, E6, hR6, rfl⟩ := hR
                  try simp only [List.cons_append, List.nil_append, List.append_assoc, List.append_nil] at hh
                  have hw1 : wst W.c (0 + 18) (.slice p6 (postP W.td g'.out).length c6) = WoV.c { W with l := l', g := some (gb, g'.clr), td := postP W.td g'.out, tp := p6, tc := c6, tE := E6 } := w1_c W hW.dl hg g'.clr l' p6 _ c6 E6
                  rw [hw1] at hh
                  have hW1 : WoV.ok (Z ++ G9) { W with l := l', g := some (gb, g'.clr), td := postP W.td g'.out, tp := p6, tc := c6, tE := E6 } := w1_ok hW.app hlo (clr_ok hgo) (hgl.trans hled) rfl rfl hR6 (fun m h9 => ⟨hgo.oo m h9, out_d (i := i) hI hst hdn m (by rw [← hgp]; exact h9)⟩)
                  have hbd := gin_id (g := g.pl) (l := W.l.pl) (i := i) hI hdn (par_id i.tx)
                  have hsw := fun (id c : Int) (h1 : id = (ginP g.pl W.l.pl i).2.1) (h2 : c = (ginP g.pl W.l.pl i).2.2) => L.saw { W with l := l', g := some (gb, g'.clr), td := postP W.td g'.out, tp := p6, tc := c6, tE := E6 } (Z ++ G9) x x' Fx i p cap gb g'.clr id c g'.out g'.op g'.oc g'.oE hW1 rfl (L.mono hMx) hi.app hgo.o hgo.oo hgo.ol (by rw [h1]; exact hbd.1) (by rw [h2]; exact hbd.2) (by rw [h1, h2]; have h9 := hs; rw [← hgp, ← hlp] at h9; exact h9)
                  simp only [WoV.F, WoV.GF, GF, List.append_assoc, List.cons_append, List.nil_append] at hsw
                  rw [show g'.clr.led = W.lb from hgl.trans hled] at hsw
                  refine w_nil ?_
                  have hl2 := hl.add (t := 0) (hl.add (t := 2) (hl.add (t := 4) (hl.add (t := 7) (hl.add (t := 8) (hl.add (t := 10) (hl.nil) rfl) rfl) rfl) rfl) rfl) rfl; clear hl; have hl := hl2; clear hl2
                  refine then_normal ?_
                  refine c_seq ?_
                  refine c_region ?_
                  refine wl (wl_val hl rfl trivial (r_move hl rfl) ?_)
                  clear hl a; intro a hl
                  refine wl (wl_val hl rfl trivial (r_nilCheck hl rfl) ?_)
                  clear hl a; intro a hl
                  refine wl (wl_val hl rfl trivial (r_field hl rfl fld55_1) ?_)
                  clear hl a; intro a hl
                  refine wl (w_load hl hh rfl trivial one50 rfl (by repeat (first | exact find_head | apply find_tail | apply find_skip)) (by first | exact hcg | exact hct | (exact (show (WoV.c { W with l := l', g := some (gb, g'.clr), td := postP W.td g'.out, tp := p6, tc := c6, tE := E6 })[0 + 1]? = some (.pointer (some ⟨gb, 0, none⟩)) from rfl)) | exact wc_g _ | rfl) ?_)
                  clear hl a; intro a hl
                  refine wl (w_call hl hh rfl trivial rfl cal40 rfl (down_spec gb g'.clr) (by repeat (first | exact keeps_nil | apply keeps_cons (by repeat (first | exact find_head | apply find_tail | apply find_skip)) (by first  | rfl) | exact keeps_self | exact keeps_left | apply keeps_app | apply keeps_mv | apply keeps_skip)) trivial ?_)
                  clear hl hh a w; intro vc Fc a w hR hl hh
                  obtain ⟨rfl, rfl⟩ := hR
                  try simp only [List.cons_append, List.nil_append, List.append_assoc, List.append_nil] at hh
                  refine wl (wl_val hl rfl trivial (r_assign hl rfl) ?_)
                  clear hl a; intro a hl
                  refine w_nil ?_
                  have hl2 := hl.add (t := 0) (hl.add (t := 2) (hl.add (t := 4) (hl.add (t := 7) (hl.add (t := 8) (hl.add (t := 10) (hl.add (t := 11) (hl.nil) rfl) rfl) rfl) rfl) rfl) rfl) rfl; clear hl; have hl := hl2; clear hl2
                  refine then_normal ?_
                  refine c_seq ?_
                  refine c_seq ?_
                  refine c_region ?_
                  refine wl (wl_val hl rfl trivial (r_move hl rfl) ?_)
                  clear hl a; intro a hl
                  refine wl (w_loadA hl hh rfl trivial agg113 rfl (by repeat (first | exact find_head | apply find_tail | apply find_skip)) (by rfl) (by rfl) ?_)
                  clear hl a; intro a hl
                  refine wl (wl_val hl rfl trivial (r_move hl rfl) ?_)
                  clear hl a; intro a hl
                  refine wl (wl_val hl rfl trivial (r_move hl rfl) ?_)
                  clear hl a; intro a hl
                  refine wl (wl_val hl rfl trivial (r_move hl rfl) ?_)
                  clear hl a; intro a hl
                  refine wl (w_callP hl hh rfl trivial rfl L.dsaw rfl (hsw _ _ (by first | rfl | exact hid.symm | exact wrap_fits (k := .u32) hbd.1) (by first | rfl | exact hcd.symm)) (by repeat (first | exact keeps_nil | apply keeps_cons (by repeat (first | exact find_head | apply find_tail | apply find_skip)) (by first  | rfl) | exact keeps_self | exact keeps_left | apply keeps_app | apply keeps_mv | apply keeps_skip)) trivial ?_)
                  clear hl hh a w; intro vc Fc a w hR hl hh
                  rcases hR with ⟨rfl, F2, hM2, rfl⟩
                  ·
                    try simp only [List.cons_append, List.nil_append, List.append_nil] at hh
                    try simp only [List.append_assoc, List.cons_append, List.nil_append] at hh
                    refine wl (wl_val hl rfl trivial (r_not hl rfl) ?_)
                    clear hl a; intro a hl
                    refine w_nil ?_
                    have hl2 := hl.add (t := 0) (hl.add (t := 2) (hl.add (t := 11) (hl.add (t := 115) (hl.nil) rfl) rfl) rfl) rfl; clear hl; have hl := hl2; clear hl2
                    refine then_normal ?_
                    refine c_condF hl rfl ?_
                    refine wp_skip ?_
                    refine then_normal ?_
                    refine c_seq ?_
                    refine c_seq ?_
                    refine c_region ?_
                    refine wl (wl_val hl rfl trivial (r_move hl rfl) ?_)
                    clear hl a; intro a hl
                    refine w_nil ?_
                    have hl2 := hl.add (t := 0) (hl.add (t := 2) (hl.add (t := 116) (hl.nil) rfl) rfl) rfl; clear hl; have hl := hl2; clear hl2
                    refine then_normal ?_
                    refine c_cond hl rfl ?_ ?_
                    · intro hc9
                      try simp only [decide_eq_true_eq, decide_eq_false_iff_not, Bool.not_eq_true', Bool.not_eq_false', Bool.not_eq_true, Bool.not_eq_false, Bool.and_eq_true, Bool.or_eq_true, Bool.and_eq_false_iff, Bool.or_eq_false_iff, Bool.not_not, ne_eq, Int.not_lt, Int.not_le, Decidable.not_not, beq_iff_eq, bne_iff_ne] at hc9
                      refine c_seq ?_
                      refine c_region ?_
                      refine wl (wl_val hl rfl trivial (r_move hl rfl) ?_)
                      clear hl a; intro a hl
                      refine wl (wl_val hl rfl trivial (r_nilCheck hl rfl) ?_)
                      clear hl a; intro a hl
                      refine wl (wl_val hl rfl trivial (r_field hl rfl fld55_1) ?_)
                      clear hl a; intro a hl
                      refine wl (w_store hl hh trivial one50 rfl rfl (by repeat (first | exact find_head | apply find_tail | apply find_skip)) (by first | (simp; done) | (simp; omega) | (rw [wc_len _ hW1.dl]; omega) | (rw [wc_len _ hW1.dl]; simp; done)) (by first | rfl | assumption | (apply Row.one; assumption)) (by first | exact wc_sg _ none | (simp only [setL, List.getElem?_cons_zero, List.getElem?_cons_succ, Value.cells, List.take_zero, List.take_succ_cons, List.take_nil, List.drop_zero, List.drop_succ_cons, List.drop_nil, List.length_cons, List.length_nil, List.cons_append, List.nil_append, List.append_nil, Nat.zero_add, Nat.add_zero, Nat.reduceAdd, Nat.reduceBEq, Nat.reduceEqDiff, Nat.ble, BEq.rfl, Bool.and_true, Bool.and_self, cond_true, beq_self_eq_true]; rfl)) ?_)
                      clear hh w; intro w hh
                      refine w_nil ?_
                      have hl2 := hl.add (t := 2) (hl.nil) rfl; clear hl; have hl := hl2; clear hl2
                      refine then_normal ?_
                      refine c_region ?_
                      refine wl (wl_val hl rfl trivial (r_move hl rfl) ?_)
                      clear hl a; intro a hl
                      refine wl (w_callP hl hh rfl trivial rfl L.dfell rfl (L.fell (Z ++ G9) x' F2 hM2) (by repeat (first | exact keeps_nil | apply keeps_cons (by repeat (first | exact find_head | apply find_tail | apply find_skip)) (by first  | rfl) | exact keeps_self | exact keeps_left | apply keeps_app | apply keeps_mv | apply keeps_skip)) trivial ?_)
                      clear hl hh a w; intro vc Fc a w hR hl hh
                      obtain ⟨rfl, hM3⟩ := hR
                      try simp only [List.cons_append, List.nil_append, List.append_assoc, List.append_nil] at hh
                      generalize Fc = F3 at hh hM3
                      try simp only [List.append_assoc, List.cons_append, List.nil_append] at hh
                      refine w_nil ?_
                      have hl2 := hl.nil; clear hl; have hl := hl2; clear hl2
                      refine then_normal ?_
                      refine c_seq ?_
                      refine c_region ?_
                      refine wl (wl_val hl rfl trivial (r_assign hl rfl) ?_)
                      clear hl a; intro a hl
                      refine w_nil ?_
                      have hl2 := hl.add (t := 6) (hl.nil) rfl; clear hl; have hl := hl2; clear hl2
                      refine then_normal ?_
                      refine wp_ret ?_
                      first
                      | (have hq := hM3; refine f_ret1 (F' := F3 ++ ((wb, C (WoV.c { W with l := l', g := none, td := postP W.td g'.out, tp := p6, tc := c6, tE := E6 }) 55) :: (E6 ++ (W.gE ++ (DsF W.ds ++ ((W.lb, C l'.c 91) :: (l'.d.E ++ (Z ++ G9)))))))) hl hh rfl rfl (by repeat (first | exact keeps_nil | apply keeps_cons (by repeat (first | exact find_head | apply find_tail | apply find_skip)) (by first  | rfl) | exact keeps_self | exact keeps_left | apply keeps_app | apply keeps_mv | apply keeps_skip)) ?_; refine ⟨rfl, { W with l := l', g := none, td := postP W.td g'.out, tp := p6, tc := c6, tE := E6 }, G9, F3, ⟨hlo, fun y hy => (by cases hy), hW.dl, hW.ds, hW1.t, hW1.to, hW1.tl, hW.r, hW.ro, hW.rl⟩, fun xd xg => (fedG_pl hg hgp hlp p6 c6 E6 xd xg).1 hc9, ?_, rfl⟩; (rw [if_pos (by rw [← hgp]; exact hc9)]; exact hM3))
                      | (refine f_ret1 (F' := F2 ++ ((wb, C (WoV.c { W with l := l', g := some (gb, g'.clr), td := postP W.td g'.out, tp := p6, tc := c6, tE := E6 }) 55) :: (E6 ++ (W.gE ++ (DsF W.ds ++ ((gb, C (GtV.c g'.clr) 127) :: (g'.st.E ++ (g'.qE ++ ((g'.rb, MD (kInt .u32) g'.rl g'.rn) :: ((W.lb, C l'.c 91) :: (l'.d.E ++ (Z ++ G9)))))))))))) hl hh rfl rfl (by repeat (first | exact keeps_nil | apply keeps_cons (by repeat (first | exact find_head | apply find_tail | apply find_skip)) (by first  | rfl) | exact keeps_self | exact keeps_left | apply keeps_app | apply keeps_mv | apply keeps_skip)) ?_; refine ⟨rfl, { W with l := l', g := some (gb, g'.clr), td := postP W.td g'.out, tp := p6, tc := c6, tE := E6 }, G9, F2, hW1, fun xd xg => (fedG_pl hg hgp hlp p6 c6 E6 xd xg).2 hc9, ?_, ?_⟩; (rw [if_neg (by rw [← hgp]; show ¬ g'.off = true; rw [show g'.off = false from hc9]; simp)]; exact hM2); (simp only [WoV.F, WoV.GF, GF, List.append_assoc, List.cons_append, List.nil_append]; rw [show g'.clr.led = W.lb from hgl.trans hled]; rfl))
                    · intro hc9
                      try simp only [decide_eq_true_eq, decide_eq_false_iff_not, Bool.not_eq_true', Bool.not_eq_false', Bool.not_eq_true, Bool.not_eq_false, Bool.and_eq_true, Bool.or_eq_true, Bool.and_eq_false_iff, Bool.or_eq_false_iff, Bool.not_not, ne_eq, Int.not_lt, Int.not_le, Decidable.not_not, beq_iff_eq, bne_iff_ne] at hc9
                      refine wp_skip ?_
                      refine then_normal ?_
                      refine c_seq ?_
                      refine c_region ?_
                      refine wl (wl_val hl rfl trivial (r_assign hl rfl) ?_)
                      clear hl a; intro a hl
                      refine w_nil ?_
                      have hl2 := hl.add (t := 6) (hl.nil) rfl; clear hl; have hl := hl2; clear hl2
                      refine then_normal ?_
                      refine wp_ret ?_
                      first
                      | (have hq := hM3; refine f_ret1 (F' := F3 ++ ((wb, C (WoV.c { W with l := l', g := none, td := postP W.td g'.out, tp := p6, tc := c6, tE := E6 }) 55) :: (E6 ++ (W.gE ++ (DsF W.ds ++ ((W.lb, C l'.c 91) :: (l'.d.E ++ (Z ++ G9)))))))) hl hh rfl rfl (by repeat (first | exact keeps_nil | apply keeps_cons (by repeat (first | exact find_head | apply find_tail | apply find_skip)) (by first  | rfl) | exact keeps_self | exact keeps_left | apply keeps_app | apply keeps_mv | apply keeps_skip)) ?_; refine ⟨rfl, { W with l := l', g := none, td := postP W.td g'.out, tp := p6, tc := c6, tE := E6 }, G9, F3, ⟨hlo, fun y hy => (by cases hy), hW.dl, hW.ds, hW1.t, hW1.to, hW1.tl, hW.r, hW.ro, hW.rl⟩, fun xd xg => (fedG_pl hg hgp hlp p6 c6 E6 xd xg).1 hc9, ?_, rfl⟩; (rw [if_pos (by rw [← hgp]; exact hc9)]; exact hM3))
                      | (refine f_ret1 (F' := F2 ++ ((wb, C (WoV.c { W with l := l', g := some (gb, g'.clr), td := postP W.td g'.out, tp := p6, tc := c6, tE := E6 }) 55) :: (E6 ++ (W.gE ++ (DsF W.ds ++ ((gb, C (GtV.c g'.clr) 127) :: (g'.st.E ++ (g'.qE ++ ((g'.rb, MD (kInt .u32) g'.rl g'.rn) :: ((W.lb, C l'.c 91) :: (l'.d.E ++ (Z ++ G9)))))))))))) hl hh rfl rfl (by repeat (first | exact keeps_nil | apply keeps_cons (by repeat (first | exact find_head | apply find_tail | apply find_skip)) (by first  | rfl) | exact keeps_self | exact keeps_left | apply keeps_app | apply keeps_mv | apply keeps_skip)) ?_; refine ⟨rfl, { W with l := l', g := some (gb, g'.clr), td := postP W.td g'.out, tp := p6, tc := c6, tE := E6 }, G9, F2, hW1, fun xd xg => (fedG_pl hg hgp hlp p6 c6 E6 xd xg).2 hc9, ?_, ?_⟩; (rw [if_neg (by rw [← hgp]; show ¬ g'.off = true; rw [show g'.off = false from hc9]; simp)]; exact hM2); (simp only [WoV.F, WoV.GF, GF, List.append_assoc, List.cons_append, List.nil_append]; rw [show g'.clr.led = W.lb from hgl.trans hled]; rfl))
                · intro hc7
                  try simp only [decide_eq_true_eq, decide_eq_false_iff_not, Bool.not_eq_true', Bool.not_eq_false', Bool.not_eq_true, Bool.not_eq_false, Bool.and_eq_true, Bool.or_eq_true, Bool.and_eq_false_iff, Bool.or_eq_false_iff, Bool.not_not, ne_eq, Int.not_lt, Int.not_le, Decidable.not_not, beq_iff_eq, bne_iff_ne] at hc7
                  exfalso; first | contradiction | omega
end Go.Proofs.Qxb6500908aGreat

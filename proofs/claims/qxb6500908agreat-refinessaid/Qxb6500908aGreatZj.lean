import Derived.Test.Qxb6500908aGreatZi
namespace Go.Proofs.Qxb6500908aGreat
open Go.Eng
set_option linter.unusedVariables false
set_option linter.unusedSimpArgs false
theorem cal105 : callable Tryz.prog 105 = true := by kernel_rfl
theorem cal107 : callable Tryz.prog 107 = true := by kernel_rfl
theorem cal108 : callable Tryz.prog 108 = true := by kernel_rfl
theorem cal109 : callable Tryz.prog 109 = true := by kernel_rfl
theorem cal110 : callable Tryz.prog 110 = true := by kernel_rfl
theorem cal111 : callable Tryz.prog 111 = true := by kernel_rfl
theorem cal112 : callable Tryz.prog 112 = true := by kernel_rfl
theorem cal113 : callable Tryz.prog 113 = true := by kernel_rfl
theorem cal114 : callable Tryz.prog 114 = true := by kernel_rfl
theorem diff_b (g : GtP) (a b : Int) : 0 ≤ (diffP g a b).1 ∧ (diffP g a b).1 ≤ 65535 := by
  unfold diffP
  split
  · simp
  · split
    · exact dfP_b _ _ _
    · simp
theorem sub_out {g : GtP} (h : g.out = []) (r : Option (Int × List Ch)) : (subP g r).1.out = [] := by
  unfold subP
  split
  · exact h
  · split
    · exact h
    · repeat' split
      all_goals exact h
theorem tx_out {g : GtP} {l : LdP} {s : StP} (h : g.out = []) : (txP g l s).1.1.out = [] := by
  unfold txP
  repeat' split
  all_goals first | exact h | rfl
theorem add_out {g : GtP} {l : LdP} {v : Iv} (h : g.out = []) : (addP g l v).1.1.out = [] := by
  unfold addP
  repeat' split
  all_goals first | exact h | exact tx_out h
theorem drop_out {g : GtP} {l : LdP} {v : Iv} (h : g.out = []) : (dropP g l v).1.1.out = [] := by
  unfold dropP
  repeat' split
  all_goals first | exact h | exact tx_out h
theorem mstatO {Z : List (Nat × Obj)} {mb : Nat} {m : MdV} {g : GtP} {l : LdP} (hm : MdR Z m g l) (hI : GtI g) (hsd : g.st = l.d) (hdn : l.dn = false) (id : Int) : Sp Tryz.prog 106 #[.pointer (some ⟨mb, 0, none⟩), .int .u32 id] (MF mb m Z) (fun v F' => v = .int .u8 (statP g id) ∧ MdO mb (g, l) Z F') := by
  refine sp_fr (G := Z) (mstat2 Z mb m g l hm hI hsd hdn id) (by unfold MF; simp only [List.append_assoc, List.cons_append]; exact List.Perm.refl _) fun v F2 ⟨h1, h2⟩ => ?_
  exact ⟨_, ⟨h1, MdO.same (m' := m) hm rfl⟩, by rw [h2]; unfold MF; simp only [List.append_assoc, List.cons_append]; exact List.Perm.refl _⟩
theorem mdiffO {Z : List (Nat × Obj)} {mb : Nat} {m : MdV} {g : GtP} {l : LdP} (hm : MdR Z m g l) (hI : GtI g) (hsd : g.st = l.d) (hdn : l.dn = false) (hnd : (g.st.vs.map Prod.fst).Nodup) (ia ib : Int) : Sp Tryz.prog 110 #[.pointer (some ⟨mb, 0, none⟩), .int .u32 ia, .int .u32 ib] (MF mb m Z) (fun v F' => v = .tuple #[.int .u16 (diffP g ia ib).1, .int .u8 (diffP g ia ib).2] ∧ MdO mb (g, l) Z F') :=
  sp_mono (mdiff_spec Z mb m g l hm hI hsd hdn hnd ia ib) fun v F ⟨h1, h2⟩ => ⟨h1, MdO.same (m' := m) hm h2⟩
theorem mtickS {Z : List (Nat × Obj)} {mb : Nat} {m : MdV} {g : GtP} {l : LdP} (hm : MdR Z m g l) (hI : GtI g) (hsd : g.st = l.d) (hdn : l.dn = false) : Sp Tryz.prog 111 #[.pointer (some ⟨mb, 0, none⟩)] (MF mb m Z) (MdS mb (tickP g l) Z) := by
  by_cases hp : g.st.ph = 0
  · exact mtick0 Z mb m g l hm hI hsd hdn hp
  · exact mtick1 Z mb m g l hm hI hsd hdn hp
/-- what the law may take for granted when it sees an input -/
structure RfS (now : StP) (gN : GtP) (g : GtP) (l : LdP) (i : InP) (id c : Int) (sent : List Ms) : Prop where
  hI : GtI g
  sd : g.st = l.d
  dn : l.dn = false
  nd : (g.st.vs.map Prod.fst).Nodup
  now : now = (ginP g l i).1.2.d
  gN : gN = { (ginP g l i).1.1 with out := [] }
  id : id = (ginP g l i).2.1
  c : c = (ginP g l i).2.2
  sent : sent = (ginP g l i).1.1.out
theorem RfS.vl {now : StP} {gN g : GtP} {l : LdP} {i : InP} {id c : Int} {sent : List Ms} (h : RfS now gN g l i id c sent) {n : Nat} (hn : now.vs.length ≤ n) : g.st.vs.length ≤ n := by
  have he := eff (i := i) h.hI h.sd h.dn
  rw [h.now] at hn
  rcases he.vs with e | ⟨e, _⟩
  · rw [e] at hn; exact hn
  · rw [e, List.length_append] at hn; omega
/-- what the gate lists, and what the model does -/
theorem hist_eq {W : WoV} {g : GtV} {gp : GtP} {l : LdP} {i : InP} {m : MdV} {Y : List (Nat × Obj)} {id c : Int} {sent : List Ms} (h : RfS W.l.pl.d g.pl gp l i id c sent) (hm : MdR Y m (ginP gp l i).1.1 (ginP gp l i).1.2) (ho : g.off = false) : g.st.vs.map vrP = m.d.vs.map vrP := by
  have he := eff (i := i) h.hI h.sd h.dn
  have ho2 : (ginP gp l i).1.1.off = false := by
    have := congrArg GtP.off h.gN
    rw [← show g.pl.off = (ginP gp l i).1.1.off from this]; exact ho
  have e1 : g.pl.st = (ginP gp l i).1.1.st := by
    have h9 := congrArg GtP.st h.gN
    exact h9
  have e2 := (he.up ho2).2.1
  have e3 : m.d.pl = g.pl.st := by rw [hm.d, e1, e2]
  exact (congrArg StP.vs e3).symm
theorem map_at9 {a b : List Vr} (h : a.map vrP = b.map vrP) {i : Nat} {x : Vr} (hx : a[i]? = some x) : ∃ y, b[i]? = some y ∧ x.id = y.id := by
  have h1 : (a.map vrP)[i]? = some (vrP x) := by rw [List.getElem?_map, hx]; rfl
  rw [h, List.getElem?_map] at h1
  cases hb : b[i]? with
  | none => rw [hb] at h1; cases h1
  | some y =>
    rw [hb] at h1
    have h2 : vrP y = vrP x := by injection h1
    exact ⟨y, rfl, (congrArg Prod.fst h2).symm⟩
theorem agreeW2 (lb wb mb : Nat) (W : WoV) (Z Y : List (Nat × Obj)) (hW : W.ok Z) (m : MdV) (hd : m.d.ok Y) (he : m.d.pl = W.l.pl.d) (b1 : Nat) (j1 : List Value) (hE1 : m.d.aE = [(b1, C (fl idc m.d.vs ++ j1) 36)]) : Sp Tryz.prog 102 #[.pointer (some ⟨lb, 0, none⟩)] ((lb, C [.pointer (some ⟨wb, 0, none⟩), .pointer (some ⟨mb, 0, none⟩)] 32) :: (wb, C W.c 55) :: (mb, C m.c 82) :: (b1, C (fl idc m.d.vs ++ j1) 36) :: (m.d.nE ++ (m.d.iE ++ ((m.d.vb, MO (kInt .u32) m.d.vd) :: (Y ++ W.GF Z))))) (fun v F' => v = .bool true ∧ F' = (lb, C [.pointer (some ⟨wb, 0, none⟩), .pointer (some ⟨mb, 0, none⟩)] 32) :: (wb, C W.c 55) :: (mb, C m.c 82) :: (b1, C (fl idc m.d.vs ++ j1) 36) :: (m.d.nE ++ (m.d.iE ++ ((m.d.vb, MO (kInt .u32) m.d.vd) :: (Y ++ W.GF Z))))) := by
  have h := agreeW lb wb mb W Z Y hW m hd he
  rw [DuV.E_eq m.d, hE1] at h
  simp only [List.append_assoc, List.cons_append, List.nil_append] at h
  exact h


attribute [local irreducible] NtV.k StV.c LdV.c StV.E GtV.c GtV.t DuV.c DuV.E MdV.c MdV.t orB sh1 WoV.c wst postP

set_option maxHeartbeats 4000000 in
theorem rsaw_spec (lb wb mb : Nat) (W : WoV) (Z : List (Nat × Obj)) (hW : W.ok Z) (gb : Nat) (g : GtV) (hg : W.g = some (gb, g)) (i : InP) (p : Option Addr) (cap : Nat) (hi : InOk Z i p cap) (id9 c9 : Int) (sent : List Ms) (q : Option Addr) (cq : Nat) (Es : List (Nat × Obj)) (hR : ROWB q sent cq Es) (hsl : sent.length ≤ 100) (hso : ∀ m, m ∈ sent → m.ok) (m : MdV) (Y : List (Nat × Obj)) (gp : GtP) (l : LdP) (hm : MdR Y m gp l) (hS : RfS W.l.pl.d g.pl gp l i id9 c9 sent) : Sp Tryz.prog 99 #[.pointer (some ⟨lb, 0, none⟩), .agg ⟨inC i p cap⟩, .int .u32 id9, .int .u8 c9, .slice q sent.length cq] (((lb, C [.pointer (some ⟨wb, 0, none⟩), .pointer (some ⟨mb, 0, none⟩)] 32) :: MF mb m Y) ++ (WoV.F wb W Z ++ Es)) (fun v F' => v = .bool true ∧ ∃ (m' : MdV) (G : List (Nat × Obj)), MdR (Y ++ G) m' (ginP gp l i).1.1 (ginP gp l i).1.2 ∧ F' = ((lb, C [.pointer (some ⟨wb, 0, none⟩), .pointer (some ⟨mb, 0, none⟩)] 32) :: MF mb m' (Y ++ G)) ++ (WoV.F wb W Z ++ Es)) := by
  refine f_enter (args := [.pointer (some ⟨lb, 0, none⟩), .agg ⟨[.int .u8 i.k, .int .u32 i.id, .int .u32 i.i2, .slice p i.tx.length cap, .int .u8 i.v.k, .int .u8 i.v.a, .int .u8 i.v.b, .int .u8 i.v.w, .int .u8 i.v.da, .int .u8 i.v.dl, .int .u8 i.m.k, .int .u8 i.m.d, .int .u32 i.m.e, .int .u32 i.m.b, .bool i.m.y, .int .u32 i.m.r, .int .u32 i.m.s, .string i.m.t]⟩, .int .u32 id9, .int .u8 c9, .slice q sent.length cq]) Tryz.func99 rfl Tryz.ntmps99 rfl ?_
  intro w0 w a hpre hl hh
  generalize hDD : List.map Prod.fst (((lb, C [.pointer (some ⟨wb, 0, none⟩), .pointer (some ⟨mb, 0, none⟩)] 32) :: MF mb m Y) ++ (WoV.F wb W Z ++ Es)) = D at hh ⊢
  simp only [WoV.F, MF, List.append_assoc, List.cons_append] at hh
  have hik := hi.k
  have hvl9 : gp.st.vs.length < 70000000000 := by have h9 := hS.vl (n := 1000000000) (by show (W.l.d.vs.map vrP).length ≤ _; rw [List.length_map]; exact hW.l.d.vl); omega
  simp only [slotsFrom, Nat.reduceAdd] at hl
  refine c_seq ?_
  refine c_region ?_
  refine wl (w_box hl hh rfl trivial rfl rfl ?_)
  clear hl hh a w; intro k6 a w hl hh
  refine wl (wl_val hl rfl trivial (r_assign hl rfl) ?_)
  clear hl a; intro a hl
  refine w_nil ?_
  have hl2 := hl.add (t := 0) (hl.add (t := 2) (hl.add (t := 3) (hl.add (t := 4) (hl.add (t := 6) (hl.nil) rfl) rfl) rfl) rfl) rfl; clear hl; have hl := hl2; clear hl2
  refine then_normal ?_
  refine c_seq ?_
  refine c_region ?_
  refine wl (wl_val hl rfl trivial (r_assign hl rfl) ?_)
  clear hl a; intro a hl
  refine w_nil ?_
  have hl2 := hl.add (t := 0) (hl.add (t := 2) (hl.add (t := 3) (hl.add (t := 4) (hl.add (t := 6) (hl.add (t := 11) (hl.nil) rfl) rfl) rfl) rfl) rfl) rfl; clear hl; have hl := hl2; clear hl2
  refine then_normal ?_
  refine c_seq ?_
  refine c_region ?_
  refine wl (wl_val hl rfl trivial (r_assign hl rfl) ?_)
  clear hl a; intro a hl
  refine w_nil ?_
  have hl2 := hl.add (t := 0) (hl.add (t := 2) (hl.add (t := 3) (hl.add (t := 4) (hl.add (t := 6) (hl.add (t := 11) (hl.add (t := 12) (hl.nil) rfl) rfl) rfl) rfl) rfl) rfl) rfl; clear hl; have hl := hl2; clear hl2
  refine then_normal ?_
  refine c_seq ?_
  refine c_region ?_
  refine wl (wl_val hl rfl trivial (r_assign hl rfl) ?_)
  clear hl a; intro a hl
  refine w_nil ?_
  have hl2 := hl.add (t := 0) (hl.add (t := 2) (hl.add (t := 3) (hl.add (t := 4) (hl.add (t := 6) (hl.add (t := 11) (hl.add (t := 12) (hl.add (t := 13) (hl.nil) rfl) rfl) rfl) rfl) rfl) rfl) rfl) rfl; clear hl; have hl := hl2; clear hl2
  refine then_normal ?_
  refine c_seq ?_
  refine c_seq ?_
  refine c_region ?_
  refine wl (wl_val hl rfl trivial (r_field hl rfl fld113_0) ?_)
  clear hl a; intro a hl
  first | refine wl (w_load hl hh rfl trivial one33 rfl (by repeat (first | exact find_head | apply find_tail | apply find_skip)) (by first | exact mdc_ep _ | exact mdc_a _ | exact mdc_n _ | exact mdc_i _ | exact mdc_ph _ | exact mdc_fid _ | exact mdc_vd _ | exact mdc_up _ | exact mdc_q _ | exact mdc_rf _ | exact mdc_tk _ | exact mdc_au _ | exact mdc_fl _ | exact mdc_fu _ | exact mdc_kp _ | exact duc_ep _ | exact duc_a _ | exact duc_n _ | exact duc_i _ | exact duc_ph _ | exact duc_fid _ | exact duc_vd _ | rfl | exact hcg | exact wc_led W | exact hyd | rfl) ?_) | refine wl (wl_val hl rfl trivial (r_load hl rfl one33 (hh.mem _ _ (by repeat (first | exact hmem7 | exact List.mem_append_left _ hmem7 | apply List.mem_cons_of_mem | apply List.mem_append_right))) (by rw [List.getElem?_toArray]; exact hxd)) ?_)
  clear hl a; intro a hl
  refine w_nil ?_
  have hl2 := hl.add (t := 0) (hl.add (t := 2) (hl.add (t := 3) (hl.add (t := 4) (hl.add (t := 6) (hl.add (t := 11) (hl.add (t := 12) (hl.add (t := 13) (hl.add (t := 18) (hl.nil) rfl) rfl) rfl) rfl) rfl) rfl) rfl) rfl) rfl; clear hl; have hl := hl2; clear hl2
  refine then_normal ?_
  refine wp_block ?_
  refine c_seq ?_
  refine c_region ?_
  refine wl (wl_val hl rfl trivial (r_eql hl rfl rfl) ?_)
  clear hl a; intro a hl
  refine wl (wl_val hl rfl trivial (r_assign hl rfl) ?_)
  clear hl a; intro a hl
  refine w_nil ?_
  have hl2 := hl.add (t := 0) (hl.add (t := 2) (hl.add (t := 3) (hl.add (t := 4) (hl.add (t := 6) (hl.add (t := 11) (hl.add (t := 12) (hl.add (t := 13) (hl.add (t := 18) (hl.add (t := 19) (hl.nil) rfl) rfl) rfl) rfl) rfl) rfl) rfl) rfl) rfl) rfl; clear hl; have hl := hl2; clear hl2
  refine then_normal ?_
  refine cut_region (fun a w => ∃ (wi wc : Int) (ol : Nat) (m9 : MdV) (G9 : List (Nat × Obj)) (p9 : Option Addr) (cw : Nat) (E9 : List (Nat × Obj)), (wi = (ginP gp l i).2.1 ∧ wc = (ginP gp l i).2.2 ∧ ol = (ginP gp l i).1.1.out.length ∧ MdR (Y ++ G9) m9 (ginP gp l i).1.1 (ginP gp l i).1.2 ∧ ROWB p9 (ginP gp l i).1.1.out cw E9 ∧ ∀ z, z ∈ (ginP gp l i).1.1.out → z.t.size ≤ 1000) ∧ Sl 210 [(0, .pointer (some ⟨lb, 0, none⟩)), (2, .int .u32 id9), (3, .int .u8 c9), (4, .slice q sent.length cq), (11, .int .u32 wi), (12, .int .u8 wc), (13, .slice p9 ol cw)] a ∧ Has D w0 ((lb, C [.pointer (some ⟨wb, 0, none⟩), .pointer (some ⟨mb, 0, none⟩)] 32) :: (mb, C m9.c 82) :: (m9.d.E ++ (m9.qE ++ (m9.rE ++ (Y ++ (G9 ++ (E9 ++ (((wb, C W.c 55) :: (W.tE ++ (W.gE ++ (DsF W.ds ++ W.GF Z)))) ++ Es)))))))) w) ?_ ?_
  ·
    refine c_cond hl rfl ?_ ?_
    · intro hc0
      try simp only [decide_eq_true_eq, decide_eq_false_iff_not, Bool.not_eq_true', Bool.not_eq_false', Bool.not_eq_true, Bool.not_eq_false, Bool.and_eq_true, Bool.or_eq_true, Bool.and_eq_false_iff, Bool.or_eq_false_iff, Bool.not_not, ne_eq, Int.not_lt, Int.not_le, Decidable.not_not, beq_iff_eq, bne_iff_ne] at hc0
      have hk0 : i.k = 0 := hc0
      refine c_draw [(lb, C [.pointer (some ⟨wb, 0, none⟩), .pointer (some ⟨mb, 0, none⟩)] 32), (k6, C [.int .u8 i.k, .int .u32 i.id, .int .u32 i.i2, .slice p i.tx.length cap, .int .u8 i.v.k, .int .u8 i.v.a, .int .u8 i.v.b, .int .u8 i.v.w, .int .u8 i.v.da, .int .u8 i.v.dl, .int .u8 i.m.k, .int .u8 i.m.d, .int .u32 i.m.e, .int .u32 i.m.b, .bool i.m.y, .int .u32 i.m.r, .int .u32 i.m.s, .string i.m.t] 113)] [6, 7, 8, 9, 10, 11] mixed hh ?_
      clear hh w; intro w hh
      have hM : Mem [(lb, C [.pointer (some ⟨wb, 0, none⟩), .pointer (some ⟨mb, 0, none⟩)] 32), (k6, C [.int .u8 i.k, .int .u32 i.id, .int .u32 i.i2, .slice p i.tx.length cap, .int .u8 i.v.k, .int .u8 i.v.a, .int .u8 i.v.b, .int .u8 i.v.w, .int .u8 i.v.da, .int .u8 i.v.dl, .int .u8 i.m.k, .int .u8 i.m.d, .int .u32 i.m.e, .int .u32 i.m.b, .bool i.m.y, .int .u32 i.m.r, .int .u32 i.m.s, .string i.m.t] 113)] w := (memK hh (by repeat (first | exact keeps_nil | apply keeps_cons (by repeat (first | exact find_head | apply find_tail | apply find_skip)) (by first  | rfl) | exact keeps_self | exact keeps_left | apply keeps_app | apply keeps_mv | apply keeps_skip)))
      refine d_take (i := 0) hl rfl (by kernel_rfl) (by kernel_rfl) (by kernel_rfl) (by kernel_rfl) (by kernel_rfl) rfl trivial (fun _ _ _ h => by cases h.1) hM (fun w hC => r_move hl rfl) rfl ?_
      clear hl a; intro a hl
      refine d_take (i := 1) hl rfl (by kernel_rfl) (by kernel_rfl) (by kernel_rfl) (by kernel_rfl) (by kernel_rfl) rfl trivial (fun _ _ _ h => by cases h.1) hM (fun w hC => r_nilCheck hl rfl) rfl ?_
      clear hl a; intro a hl
      refine d_take (i := 2) hl rfl (by kernel_rfl) (by kernel_rfl) (by kernel_rfl) (by kernel_rfl) (by kernel_rfl) rfl trivial (fun _ _ _ h => by cases h.1) hM (fun w hC => r_field hl rfl fld32_1) rfl ?_
      clear hl a; intro a hl
      refine d_take (i := 3) hl rfl (by kernel_rfl) (by kernel_rfl) (by kernel_rfl) (by kernel_rfl) (by kernel_rfl) rfl trivial (fun _ _ _ h => by cases h.1) hM (fun w hC => r_loadC hl rfl one26 hC (by repeat (first | exact find_head | apply find_tail | apply find_skip)) (by first | exact mdc_ep _ | exact mdc_a _ | exact mdc_n _ | exact mdc_i _ | exact mdc_ph _ | exact mdc_fid _ | exact mdc_vd _ | exact mdc_up _ | exact mdc_q _ | exact mdc_rf _ | exact mdc_tk _ | exact mdc_au _ | exact mdc_fl _ | exact mdc_fu _ | exact mdc_kp _ | exact duc_ep _ | exact duc_a _ | exact duc_n _ | exact duc_i _ | exact duc_ph _ | exact duc_fid _ | exact duc_vd _ | rfl | exact hcg | exact wc_led W | exact hyd | rfl)) rfl ?_
      clear hl a; intro a hl
      refine d_take (i := 4) hl rfl (by kernel_rfl) (by kernel_rfl) (by kernel_rfl) (by kernel_rfl) (by kernel_rfl) rfl trivial (fun _ _ _ h => by cases h.1) hM (fun w hC => r_field hl rfl fld113_3) rfl ?_
      clear hl a; intro a hl
      refine d_take (i := 5) hl rfl (by kernel_rfl) (by kernel_rfl) (by kernel_rfl) (by kernel_rfl) (by kernel_rfl) rfl trivial (fun _ _ _ h => by cases h.1) hM (fun w hC => r_loadC hl rfl one34 hC (by repeat (first | exact find_head | apply find_tail | apply find_skip)) (by first | exact mdc_ep _ | exact mdc_a _ | exact mdc_n _ | exact mdc_i _ | exact mdc_ph _ | exact mdc_fid _ | exact mdc_vd _ | exact mdc_up _ | exact mdc_q _ | exact mdc_rf _ | exact mdc_tk _ | exact mdc_au _ | exact mdc_fl _ | exact mdc_fu _ | exact mdc_kp _ | exact duc_ep _ | exact duc_a _ | exact duc_n _ | exact duc_i _ | exact duc_ph _ | exact duc_fid _ | exact duc_vd _ | rfl | exact hcg | exact wc_led W | exact hyd | rfl)) rfl ?_
      clear hl a; intro a hl
      refine d_one (i := 6) (by kernel_rfl) rfl ?_
      try clear hM
      refine id (w_call hl hh rfl trivial rfl cal105 rfl ((hi.t hk0).choose_spec |> fun hsc => msub_spec Y mb m gp l hm hS.hI hS.sd hS.dn (W.GF Z) p cap i.tx _ hi.tl hsc.1 (fun y hy => gf_mem (hsc.2 y hy))) (by repeat (first | exact keeps_nil | apply keeps_cons (by repeat (first | exact find_head | apply find_tail | apply find_skip)) (by first  | rfl) | exact keeps_self | exact keeps_left | apply keeps_app | apply keeps_mv | apply keeps_skip)) trivial ?_)
      clear hl hh a w; intro vc Fc a w hR hl hh
      obtain ⟨rfl, F2, ⟨m', G9, hm', rfl⟩, rfl⟩ := hR
      try simp only [List.cons_append, List.nil_append, List.append_assoc, List.append_nil] at hh
      simp only [MF, List.append_assoc, List.cons_append, List.nil_append] at hh
      have hr9 : (ginP gp l i).1 = ((subP gp (parM i.tx)).1, l) := by rw [gi_0 hk0]
      have hwi : (ginP gp l i).2.1 = (subP gp (parM i.tx)).2.1 := by rw [gi_0 hk0]
      have hwc : (ginP gp l i).2.2 = (subP gp (parM i.tx)).2.2 := by rw [gi_0 hk0]
      have hout := sub_out hS.hI.o (parM i.tx)
      refine d_step (fun h => absurd h (by decide)) ?_
      refine d_takeL (i := 7) hl rfl (by kernel_rfl) (by kernel_rfl) (by kernel_rfl) (by kernel_rfl) (by kernel_rfl) rfl trivial (fun _ _ _ h => by cases h.1) (fun w => r_move hl rfl) rfl ?_
      clear hl a; intro a hl
      refine d_takeL (i := 8) hl rfl (by kernel_rfl) (by kernel_rfl) (by kernel_rfl) (by kernel_rfl) (by kernel_rfl) rfl trivial (fun _ _ _ h => by cases h.1) (fun w => r_extract hl rfl (by simp only [List.getElem?_toArray, List.getElem?_cons_zero, List.getElem?_cons_succ]; rfl)) rfl ?_
      clear hl a; intro a hl
      refine d_takeL (i := 9) hl rfl (by kernel_rfl) (by kernel_rfl) (by kernel_rfl) (by kernel_rfl) (by kernel_rfl) rfl trivial (fun _ _ _ h => by cases h.1) (fun w => r_extract hl rfl (by simp only [List.getElem?_toArray, List.getElem?_cons_zero, List.getElem?_cons_succ]; rfl)) rfl ?_
      clear hl a; intro a hl
      refine d_takeL (i := 10) hl rfl (by kernel_rfl) (by kernel_rfl) (by kernel_rfl) (by kernel_rfl) (by kernel_rfl) rfl trivial (fun _ _ _ h => by cases h.1) (fun w => r_assign hl rfl) rfl ?_
      clear hl a; intro a hl
      refine d_takeL (i := 11) hl rfl (by kernel_rfl) (by kernel_rfl) (by kernel_rfl) (by kernel_rfl) (by kernel_rfl) rfl trivial (fun _ _ _ h => by cases h.1) (fun w => r_assign hl rfl) rfl ?_
      clear hl a; intro a hl
      refine d_done (by kernel_rfl) ?_
      try clear hM
      have hl2 := hl.add (t := 0) (hl.add (t := 2) (hl.add (t := 3) (hl.add (t := 4) (hl.add (t := 11) (hl.add (t := 12) (hl.add (t := 13) (hl.nil) rfl) rfl) rfl) rfl) rfl) rfl) rfl; clear hl; have hl := hl2; clear hl2
      first | exact ⟨rfl, _, _, _, m', G9, p6, c6, E6, ⟨hwi.symm, hwc.symm, (by rw [hr9]), (by rw [hr9]; exact hm'), (by rw [hr9]; exact hR6), (by rw [hr9]; exact hz6)⟩, hl.addE (t := 0) (hl.addE (t := 2) (hl.addE (t := 3) (hl.addE (t := 4) (hl.addE (t := 11) (hl.addE (t := 12) (hl.addE (t := 13) (hl.nil) rfl (by first | rfl)) rfl (by first | rfl)) rfl (by first | rfl)) rfl (by first | rfl)) rfl (by first | rfl)) rfl (by first | rfl)) rfl (by first | rfl), hh.keep (by repeat (first | exact keeps_nil | apply keeps_cons (by repeat (first | exact find_head | apply find_tail | apply find_skip)) (by first  | rfl) | exact keeps_self | exact keeps_left | apply keeps_app | apply keeps_mv | apply keeps_skip))⟩ | exact ⟨rfl, _, _, _, m', G9, none, 0, [], ⟨hwi.symm, hwc.symm, (by rw [hr9, hout]; try rfl), (by rw [hr9]; exact hm'), (by rw [hr9, hout]; exact Row.nil _ _), (by rw [hr9, hout]; intro z hz; cases hz)⟩, hl.addE (t := 0) (hl.addE (t := 2) (hl.addE (t := 3) (hl.addE (t := 4) (hl.addE (t := 11) (hl.addE (t := 12) (hl.addE (t := 13) (hl.nil) rfl (by first | rfl)) rfl (by first | rfl)) rfl (by first | rfl)) rfl (by first | rfl)) rfl (by first | rfl)) rfl (by first | rfl)) rfl (by first | rfl), hh.keep (by repeat (first | exact keeps_nil | apply keeps_cons (by repeat (first | exact find_head | apply find_tail | apply find_skip)) (by first  | rfl) | exact keeps_self | exact keeps_left | apply keeps_app | apply keeps_mv | apply keeps_skip))⟩
    · intro hc0
      try simp only [decide_eq_true_eq, decide_eq_false_iff_not, Bool.not_eq_true', Bool.not_eq_false', Bool.not_eq_true, Bool.not_eq_false, Bool.and_eq_true, Bool.or_eq_true, Bool.and_eq_false_iff, Bool.or_eq_false_iff, Bool.not_not, ne_eq, Int.not_lt, Int.not_le, Decidable.not_not, beq_iff_eq, bne_iff_ne] at hc0
      refine c_seq ?_
      refine c_region ?_
      refine wl (wl_val hl rfl trivial (r_eql hl rfl rfl) ?_)
      clear hl a; intro a hl
      refine wl (wl_val hl rfl trivial (r_assign hl rfl) ?_)
      clear hl a; intro a hl
      refine w_nil ?_
      have hl2 := hl.add (t := 0) (hl.add (t := 2) (hl.add (t := 3) (hl.add (t := 4) (hl.add (t := 6) (hl.add (t := 11) (hl.add (t := 12) (hl.add (t := 13) (hl.add (t := 18) (hl.add (t := 31) (hl.nil) rfl) rfl) rfl) rfl) rfl) rfl) rfl) rfl) rfl) rfl; clear hl; have hl := hl2; clear hl2
      refine then_normal ?_
      refine c_cond hl rfl ?_ ?_
      · intro hc1
        try simp only [decide_eq_true_eq, decide_eq_false_iff_not, Bool.not_eq_true', Bool.not_eq_false', Bool.not_eq_true, Bool.not_eq_false, Bool.and_eq_true, Bool.or_eq_true, Bool.and_eq_false_iff, Bool.or_eq_false_iff, Bool.not_not, ne_eq, Int.not_lt, Int.not_le, Decidable.not_not, beq_iff_eq, bne_iff_ne] at hc1
        have hk1 : i.k = 1 := hc1
        refine c_draw [(lb, C [.pointer (some ⟨wb, 0, none⟩), .pointer (some ⟨mb, 0, none⟩)] 32), (k6, C [.int .u8 i.k, .int .u32 i.id, .int .u32 i.i2, .slice p i.tx.length cap, .int .u8 i.v.k, .int .u8 i.v.a, .int .u8 i.v.b, .int .u8 i.v.w, .int .u8 i.v.da, .int .u8 i.v.dl, .int .u8 i.m.k, .int .u8 i.m.d, .int .u32 i.m.e, .int .u32 i.m.b, .bool i.m.y, .int .u32 i.m.r, .int .u32 i.m.s, .string i.m.t] 113)] [6, 7] mixed hh ?_
        clear hh w; intro w hh
        have hM : Mem [(lb, C [.pointer (some ⟨wb, 0, none⟩), .pointer (some ⟨mb, 0, none⟩)] 32), (k6, C [.int .u8 i.k, .int .u32 i.id, .int .u32 i.i2, .slice p i.tx.length cap, .int .u8 i.v.k, .int .u8 i.v.a, .int .u8 i.v.b, .int .u8 i.v.w, .int .u8 i.v.da, .int .u8 i.v.dl, .int .u8 i.m.k, .int .u8 i.m.d, .int .u32 i.m.e, .int .u32 i.m.b, .bool i.m.y, .int .u32 i.m.r, .int .u32 i.m.s, .string i.m.t] 113)] w := (memK hh (by repeat (first | exact keeps_nil | apply keeps_cons (by repeat (first | exact find_head | apply find_tail | apply find_skip)) (by first  | rfl) | exact keeps_self | exact keeps_left | apply keeps_app | apply keeps_mv | apply keeps_skip)))
        refine d_take (i := 0) hl rfl (by kernel_rfl) (by kernel_rfl) (by kernel_rfl) (by kernel_rfl) (by kernel_rfl) rfl trivial (fun _ _ _ h => by cases h.1) hM (fun w hC => r_move hl rfl) rfl ?_
        clear hl a; intro a hl
        refine d_take (i := 1) hl rfl (by kernel_rfl) (by kernel_rfl) (by kernel_rfl) (by kernel_rfl) (by kernel_rfl) rfl trivial (fun _ _ _ h => by cases h.1) hM (fun w hC => r_nilCheck hl rfl) rfl ?_
        clear hl a; intro a hl
        refine d_take (i := 2) hl rfl (by kernel_rfl) (by kernel_rfl) (by kernel_rfl) (by kernel_rfl) (by kernel_rfl) rfl trivial (fun _ _ _ h => by cases h.1) hM (fun w hC => r_field hl rfl fld32_1) rfl ?_
        clear hl a; intro a hl
        refine d_take (i := 3) hl rfl (by kernel_rfl) (by kernel_rfl) (by kernel_rfl) (by kernel_rfl) (by kernel_rfl) rfl trivial (fun _ _ _ h => by cases h.1) hM (fun w hC => r_loadC hl rfl one26 hC (by repeat (first | exact find_head | apply find_tail | apply find_skip)) (by first | exact mdc_ep _ | exact mdc_a _ | exact mdc_n _ | exact mdc_i _ | exact mdc_ph _ | exact mdc_fid _ | exact mdc_vd _ | exact mdc_up _ | exact mdc_q _ | exact mdc_rf _ | exact mdc_tk _ | exact mdc_au _ | exact mdc_fl _ | exact mdc_fu _ | exact mdc_kp _ | exact duc_ep _ | exact duc_a _ | exact duc_n _ | exact duc_i _ | exact duc_ph _ | exact duc_fid _ | exact duc_vd _ | rfl | exact hcg | exact wc_led W | exact hyd | rfl)) rfl ?_
        clear hl a; intro a hl
        refine d_take (i := 4) hl rfl (by kernel_rfl) (by kernel_rfl) (by kernel_rfl) (by kernel_rfl) (by kernel_rfl) rfl trivial (fun _ _ _ h => by cases h.1) hM (fun w hC => r_field hl rfl fld113_1) rfl ?_
        clear hl a; intro a hl
        refine d_take (i := 5) hl rfl (by kernel_rfl) (by kernel_rfl) (by kernel_rfl) (by kernel_rfl) (by kernel_rfl) rfl trivial (fun _ _ _ h => by cases h.1) hM (fun w hC => r_loadC hl rfl one36 hC (by repeat (first | exact find_head | apply find_tail | apply find_skip)) (by first | exact mdc_ep _ | exact mdc_a _ | exact mdc_n _ | exact mdc_i _ | exact mdc_ph _ | exact mdc_fid _ | exact mdc_vd _ | exact mdc_up _ | exact mdc_q _ | exact mdc_rf _ | exact mdc_tk _ | exact mdc_au _ | exact mdc_fl _ | exact mdc_fu _ | exact mdc_kp _ | exact duc_ep _ | exact duc_a _ | exact duc_n _ | exact duc_i _ | exact duc_ph _ | exact duc_fid _ | exact duc_vd _ | rfl | exact hcg | exact wc_led W | exact hyd | rfl)) rfl ?_
        clear hl a; intro a hl
        refine d_one (i := 6) (by kernel_rfl) rfl ?_
        try clear hM
        refine id (w_call hl hh rfl trivial rfl cal106 rfl (mstatO hm hS.hI hS.sd hS.dn i.id) (by repeat (first | exact keeps_nil | apply keeps_cons (by repeat (first | exact find_head | apply find_tail | apply find_skip)) (by first  | rfl) | exact keeps_self | exact keeps_left | apply keeps_app | apply keeps_mv | apply keeps_skip)) trivial ?_)
        clear hl hh a w; intro vc Fc a w hR hl hh
        obtain ⟨rfl, m', G9, hm', rfl⟩ := hR
        try simp only [List.cons_append, List.nil_append, List.append_assoc, List.append_nil] at hh
        simp only [MF, List.append_assoc, List.cons_append, List.nil_append] at hh
        have hr9 : (ginP gp l i).1 = (gp, l) := by rw [gi_1 hk1]
        have hwi : (ginP gp l i).2.1 = 0 := by rw [gi_1 hk1]
        have hwc : (ginP gp l i).2.2 = statP gp i.id := by rw [gi_1 hk1]
        have hout := hS.hI.o
        refine d_step (fun h => absurd h (by decide)) ?_
        refine d_takeL (i := 7) hl rfl (by kernel_rfl) (by kernel_rfl) (by kernel_rfl) (by kernel_rfl) (by kernel_rfl) rfl trivial (fun _ _ _ h => by cases h.1) (fun w => r_assign hl rfl) rfl ?_
        clear hl a; intro a hl
        refine d_done (by kernel_rfl) ?_
        try clear hM
        have hl2 := hl.add (t := 0) (hl.add (t := 2) (hl.add (t := 3) (hl.add (t := 4) (hl.add (t := 11) (hl.add (t := 12) (hl.add (t := 13) (hl.nil) rfl) rfl) rfl) rfl) rfl) rfl) rfl; clear hl; have hl := hl2; clear hl2
        first | exact ⟨rfl, _, _, _, m', G9, p6, c6, E6, ⟨hwi.symm, hwc.symm, (by rw [hr9]), (by rw [hr9]; exact hm'), (by rw [hr9]; exact hR6), (by rw [hr9]; exact hz6)⟩, hl.addE (t := 0) (hl.addE (t := 2) (hl.addE (t := 3) (hl.addE (t := 4) (hl.addE (t := 11) (hl.addE (t := 12) (hl.addE (t := 13) (hl.nil) rfl (by first | rfl)) rfl (by first | rfl)) rfl (by first | rfl)) rfl (by first | rfl)) rfl (by first | rfl)) rfl (by first | rfl)) rfl (by first | rfl), hh.keep (by repeat (first | exact keeps_nil | apply keeps_cons (by repeat (first | exact find_head | apply find_tail | apply find_skip)) (by first  | rfl) | exact keeps_self | exact keeps_left | apply keeps_app | apply keeps_mv | apply keeps_skip))⟩ | exact ⟨rfl, _, _, _, m', G9, none, 0, [], ⟨hwi.symm, hwc.symm, (by rw [hr9, hout]; try rfl), (by rw [hr9]; exact hm'), (by rw [hr9, hout]; exact Row.nil _ _), (by rw [hr9, hout]; intro z hz; cases hz)⟩, hl.addE (t := 0) (hl.addE (t := 2) (hl.addE (t := 3) (hl.addE (t := 4) (hl.addE (t := 11) (hl.addE (t := 12) (hl.addE (t := 13) (hl.nil) rfl (by first | rfl)) rfl (by first | rfl)) rfl (by first | rfl)) rfl (by first | rfl)) rfl (by first | rfl)) rfl (by first | rfl)) rfl (by first | rfl), hh.keep (by repeat (first | exact keeps_nil | apply keeps_cons (by repeat (first | exact find_head | apply find_tail | apply find_skip)) (by first  | rfl) | exact keeps_self | exact keeps_left | apply keeps_app | apply keeps_mv | apply keeps_skip))⟩
      · intro hc1
        try simp only [decide_eq_true_eq, decide_eq_false_iff_not, Bool.not_eq_true', Bool.not_eq_false', Bool.not_eq_true, Bool.not_eq_false, Bool.and_eq_true, Bool.or_eq_true, Bool.and_eq_false_iff, Bool.or_eq_false_iff, Bool.not_not, ne_eq, Int.not_lt, Int.not_le, Decidable.not_not, beq_iff_eq, bne_iff_ne] at hc1
        refine c_seq ?_
        refine c_region ?_
        refine wl (wl_val hl rfl trivial (r_eql hl rfl rfl) ?_)
        clear hl a; intro a hl
        refine wl (wl_val hl rfl trivial (r_assign hl rfl) ?_)
        clear hl a; intro a hl
        refine w_nil ?_
        have hl2 := hl.add (t := 0) (hl.add (t := 2) (hl.add (t := 3) (hl.add (t := 4) (hl.add (t := 6) (hl.add (t := 11) (hl.add (t := 12) (hl.add (t := 13) (hl.add (t := 18) (hl.add (t := 40) (hl.nil) rfl) rfl) rfl) rfl) rfl) rfl) rfl) rfl) rfl) rfl; clear hl; have hl := hl2; clear hl2
        refine then_normal ?_
        refine c_cond hl rfl ?_ ?_
        · intro hc2
          try simp only [decide_eq_true_eq, decide_eq_false_iff_not, Bool.not_eq_true', Bool.not_eq_false', Bool.not_eq_true, Bool.not_eq_false, Bool.and_eq_true, Bool.or_eq_true, Bool.and_eq_false_iff, Bool.or_eq_false_iff, Bool.not_not, ne_eq, Int.not_lt, Int.not_le, Decidable.not_not, beq_iff_eq, bne_iff_ne] at hc2
          have hk2 : i.k = 2 := hc2
          refine c_draw [(lb, C [.pointer (some ⟨wb, 0, none⟩), .pointer (some ⟨mb, 0, none⟩)] 32), (k6, C [.int .u8 i.k, .int .u32 i.id, .int .u32 i.i2, .slice p i.tx.length cap, .int .u8 i.v.k, .int .u8 i.v.a, .int .u8 i.v.b, .int .u8 i.v.w, .int .u8 i.v.da, .int .u8 i.v.dl, .int .u8 i.m.k, .int .u8 i.m.d, .int .u32 i.m.e, .int .u32 i.m.b, .bool i.m.y, .int .u32 i.m.r, .int .u32 i.m.s, .string i.m.t] 113)] [6, 7, 8, 9, 10, 11] mixed hh ?_
          clear hh w; intro w hh
          have hM : Mem [(lb, C [.pointer (some ⟨wb, 0, none⟩), .pointer (some ⟨mb, 0, none⟩)] 32), (k6, C [.int .u8 i.k, .int .u32 i.id, .int .u32 i.i2, .slice p i.tx.length cap, .int .u8 i.v.k, .int .u8 i.v.a, .int .u8 i.v.b, .int .u8 i.v.w, .int .u8 i.v.da, .int .u8 i.v.dl, .int .u8 i.m.k, .int .u8 i.m.d, .int .u32 i.m.e, .int .u32 i.m.b, .bool i.m.y, .int .u32 i.m.r, .int .u32 i.m.s, .string i.m.t] 113)] w := (memK hh (by repeat (first | exact keeps_nil | apply keeps_cons (by repeat (first | exact find_head | apply find_tail | apply find_skip)) (by first  | rfl) | exact keeps_self | exact keeps_left | apply keeps_app | apply keeps_mv | apply keeps_skip)))
          refine d_take (i := 0) hl rfl (by kernel_rfl) (by kernel_rfl) (by kernel_rfl) (by kernel_rfl) (by kernel_rfl) rfl trivial (fun _ _ _ h => by cases h.1) hM (fun w hC => r_move hl rfl) rfl ?_
          clear hl a; intro a hl
          refine d_take (i := 1) hl rfl (by kernel_rfl) (by kernel_rfl) (by kernel_rfl) (by kernel_rfl) (by kernel_rfl) rfl trivial (fun _ _ _ h => by cases h.1) hM (fun w hC => r_nilCheck hl rfl) rfl ?_
          clear hl a; intro a hl
          refine d_take (i := 2) hl rfl (by kernel_rfl) (by kernel_rfl) (by kernel_rfl) (by kernel_rfl) (by kernel_rfl) rfl trivial (fun _ _ _ h => by cases h.1) hM (fun w hC => r_field hl rfl fld32_1) rfl ?_
          clear hl a; intro a hl
          refine d_take (i := 3) hl rfl (by kernel_rfl) (by kernel_rfl) (by kernel_rfl) (by kernel_rfl) (by kernel_rfl) rfl trivial (fun _ _ _ h => by cases h.1) hM (fun w hC => r_loadC hl rfl one26 hC (by repeat (first | exact find_head | apply find_tail | apply find_skip)) (by first | exact mdc_ep _ | exact mdc_a _ | exact mdc_n _ | exact mdc_i _ | exact mdc_ph _ | exact mdc_fid _ | exact mdc_vd _ | exact mdc_up _ | exact mdc_q _ | exact mdc_rf _ | exact mdc_tk _ | exact mdc_au _ | exact mdc_fl _ | exact mdc_fu _ | exact mdc_kp _ | exact duc_ep _ | exact duc_a _ | exact duc_n _ | exact duc_i _ | exact duc_ph _ | exact duc_fid _ | exact duc_vd _ | rfl | exact hcg | exact wc_led W | exact hyd | rfl)) rfl ?_
          clear hl a; intro a hl
          refine d_take (i := 4) hl rfl (by kernel_rfl) (by kernel_rfl) (by kernel_rfl) (by kernel_rfl) (by kernel_rfl) rfl trivial (fun _ _ _ h => by cases h.1) hM (fun w hC => r_field hl rfl fld113_1) rfl ?_
          clear hl a; intro a hl
          refine d_take (i := 5) hl rfl (by kernel_rfl) (by kernel_rfl) (by kernel_rfl) (by kernel_rfl) (by kernel_rfl) rfl trivial (fun _ _ _ h => by cases h.1) hM (fun w hC => r_loadC hl rfl one36 hC (by repeat (first | exact find_head | apply find_tail | apply find_skip)) (by first | exact mdc_ep _ | exact mdc_a _ | exact mdc_n _ | exact mdc_i _ | exact mdc_ph _ | exact mdc_fid _ | exact mdc_vd _ | exact mdc_up _ | exact mdc_q _ | exact mdc_rf _ | exact mdc_tk _ | exact mdc_au _ | exact mdc_fl _ | exact mdc_fu _ | exact mdc_kp _ | exact duc_ep _ | exact duc_a _ | exact duc_n _ | exact duc_i _ | exact duc_ph _ | exact duc_fid _ | exact duc_vd _ | rfl | exact hcg | exact wc_led W | exact hyd | rfl)) rfl ?_
          clear hl a; intro a hl
          refine d_one (i := 6) (by kernel_rfl) rfl ?_
          try clear hM
          refine id (w_call hl hh rfl trivial rfl cal107 rfl (mab_spec Y mb m gp l hm hS.hI hS.sd hS.dn i.id) (by repeat (first | exact keeps_nil | apply keeps_cons (by repeat (first | exact find_head | apply find_tail | apply find_skip)) (by first  | rfl) | exact keeps_self | exact keeps_left | apply keeps_app | apply keeps_mv | apply keeps_skip)) trivial ?_)
          clear hl hh a w; intro vc Fc a w hR hl hh
          obtain ⟨u, rfl, p6, c6, E6, F2, hR6, hz6, rfl, ⟨m', G9, hm', rfl⟩, rfl⟩ := hR
          try simp only [List.cons_append, List.nil_append, List.append_assoc, List.append_nil] at hh
          simp only [MF, List.append_assoc, List.cons_append, List.nil_append] at hh
          have hr9 : (ginP gp l i).1 = (abortP gp l i.id).1 := by rw [gi_2 hk2]
          have hwi : (ginP gp l i).2.1 = 0 := by rw [gi_2 hk2]
          have hwc : (ginP gp l i).2.2 = (abortP gp l i.id).2 := by rw [gi_2 hk2]
          refine d_step (fun h => absurd h (by decide)) ?_
          refine d_takeL (i := 7) hl rfl (by kernel_rfl) (by kernel_rfl) (by kernel_rfl) (by kernel_rfl) (by kernel_rfl) rfl trivial (fun _ _ _ h => by cases h.1) (fun w => r_move hl rfl) rfl ?_
          clear hl a; intro a hl
          refine d_takeL (i := 8) hl rfl (by kernel_rfl) (by kernel_rfl) (by kernel_rfl) (by kernel_rfl) (by kernel_rfl) rfl trivial (fun _ _ _ h => by cases h.1) (fun w => r_extract hl rfl (by simp only [List.getElem?_toArray, List.getElem?_cons_zero, List.getElem?_cons_succ]; rfl)) rfl ?_
          clear hl a; intro a hl
          refine d_takeL (i := 9) hl rfl (by kernel_rfl) (by kernel_rfl) (by kernel_rfl) (by kernel_rfl) (by kernel_rfl) rfl trivial (fun _ _ _ h => by cases h.1) (fun w => r_extract hl rfl (by simp only [List.getElem?_toArray, List.getElem?_cons_zero, List.getElem?_cons_succ]; rfl)) rfl ?_
          clear hl a; intro a hl
          refine d_takeL (i := 10) hl rfl (by kernel_rfl) (by kernel_rfl) (by kernel_rfl) (by kernel_rfl) (by kernel_rfl) rfl trivial (fun _ _ _ h => by cases h.1) (fun w => r_assign hl rfl) rfl ?_
          clear hl a; intro a hl
          refine d_takeL (i := 11) hl rfl (by kernel_rfl) (by kernel_rfl) (by kernel_rfl) (by kernel_rfl) (by kernel_rfl) rfl trivial (fun _ _ _ h => by cases h.1) (fun w => r_assign hl rfl) rfl ?_
          clear hl a; intro a hl
          refine d_done (by kernel_rfl) ?_
          try clear hM
          have hl2 := hl.add (t := 0) (hl.add (t := 2) (hl.add (t := 3) (hl.add (t := 4) (hl.add (t := 11) (hl.add (t := 12) (hl.add (t := 13) (hl.nil) rfl) rfl) rfl) rfl) rfl) rfl) rfl; clear hl; have hl := hl2; clear hl2
          first | exact ⟨rfl, _, _, _, m', G9, p6, c6, E6, ⟨hwi.symm, hwc.symm, (by rw [hr9]), (by rw [hr9]; exact hm'), (by rw [hr9]; exact hR6), (by rw [hr9]; exact hz6)⟩, hl.addE (t := 0) (hl.addE (t := 2) (hl.addE (t := 3) (hl.addE (t := 4) (hl.addE (t := 11) (hl.addE (t := 12) (hl.addE (t := 13) (hl.nil) rfl (by first | rfl)) rfl (by first | rfl)) rfl (by first | rfl)) rfl (by first | rfl)) rfl (by first | rfl)) rfl (by first | rfl)) rfl (by first | rfl), hh.keep (by repeat (first | exact keeps_nil | apply keeps_cons (by repeat (first | exact find_head | apply find_tail | apply find_skip)) (by first  | rfl) | exact keeps_self | exact keeps_left | apply keeps_app | apply keeps_mv | apply keeps_skip))⟩ | exact ⟨rfl, _, _, _, m', G9, none, 0, [], ⟨hwi.symm, hwc.symm, (by rw [hr9, hout]; try rfl), (by rw [hr9]; exact hm'), (by rw [hr9, hout]; exact Row.nil _ _), (by rw [hr9, hout]; intro z hz; cases hz)⟩, hl.addE (t := 0) (hl.addE (t := 2) (hl.addE (t := 3) (hl.addE (t := 4) (hl.addE (t := 11) (hl.addE (t := 12) (hl.addE (t := 13) (hl.nil) rfl (by first | rfl)) rfl (by first | rfl)) rfl (by first | rfl)) rfl (by first | rfl)) rfl (by first | rfl)) rfl (by first | rfl)) rfl (by first | rfl), hh.keep (by repeat (first | exact keeps_nil | apply keeps_cons (by repeat (first | exact find_head | apply find_tail | apply find_skip)) (by first  | rfl) | exact keeps_self | exact keeps_left | apply keeps_app | apply keeps_mv | apply keeps_skip))⟩
        · intro hc2
          try simp only [decide_eq_true_eq, decide_eq_false_iff_not, Bool.not_eq_true', Bool.not_eq_false', Bool.not_eq_true, Bool.not_eq_false, Bool.and_eq_true, Bool.or_eq_true, Bool.and_eq_false_iff, Bool.or_eq_false_iff, Bool.not_not, ne_eq, Int.not_lt, Int.not_le, Decidable.not_not, beq_iff_eq, bne_iff_ne] at hc2
          refine c_seq ?_
          refine c_region ?_
          refine wl (wl_val hl rfl trivial (r_eql hl rfl rfl) ?_)
          clear hl a; intro a hl
          refine wl (wl_val hl rfl trivial (r_assign hl rfl) ?_)
          clear hl a; intro a hl
          refine w_nil ?_
          have hl2 := hl.add (t := 0) (hl.add (t := 2) (hl.add (t := 3) (hl.add (t := 4) (hl.add (t := 6) (hl.add (t := 11) (hl.add (t := 12) (hl.add (t := 13) (hl.add (t := 18) (hl.add (t := 52) (hl.nil) rfl) rfl) rfl) rfl) rfl) rfl) rfl) rfl) rfl) rfl; clear hl; have hl := hl2; clear hl2
          refine then_normal ?_
          refine c_cond hl rfl ?_ ?_
          · intro hc3
            try simp only [decide_eq_true_eq, decide_eq_false_iff_not, Bool.not_eq_true', Bool.not_eq_false', Bool.not_eq_true, Bool.not_eq_false, Bool.and_eq_true, Bool.or_eq_true, Bool.and_eq_false_iff, Bool.or_eq_false_iff, Bool.not_not, ne_eq, Int.not_lt, Int.not_le, Decidable.not_not, beq_iff_eq, bne_iff_ne] at hc3
            have hk3 : i.k = 3 := hc3
            refine c_draw [(lb, C [.pointer (some ⟨wb, 0, none⟩), .pointer (some ⟨mb, 0, none⟩)] 32), (k6, C [.int .u8 i.k, .int .u32 i.id, .int .u32 i.i2, .slice p i.tx.length cap, .int .u8 i.v.k, .int .u8 i.v.a, .int .u8 i.v.b, .int .u8 i.v.w, .int .u8 i.v.da, .int .u8 i.v.dl, .int .u8 i.m.k, .int .u8 i.m.d, .int .u32 i.m.e, .int .u32 i.m.b, .bool i.m.y, .int .u32 i.m.r, .int .u32 i.m.s, .string i.m.t] 113)] [6, 7] mixed hh ?_
            clear hh w; intro w hh
            have hM : Mem [(lb, C [.pointer (some ⟨wb, 0, none⟩), .pointer (some ⟨mb, 0, none⟩)] 32), (k6, C [.int .u8 i.k, .int .u32 i.id, .int .u32 i.i2, .slice p i.tx.length cap, .int .u8 i.v.k, .int .u8 i.v.a, .int .u8 i.v.b, .int .u8 i.v.w, .int .u8 i.v.da, .int .u8 i.v.dl, .int .u8 i.m.k, .int .u8 i.m.d, .int .u32 i.m.e, .int .u32 i.m.b, .bool i.m.y, .int .u32 i.m.r, .int .u32 i.m.s, .string i.m.t] 113)] w := (memK hh (by repeat (first | exact keeps_nil | apply keeps_cons (by repeat (first | exact find_head | apply find_tail | apply find_skip)) (by first  | rfl) | exact keeps_self | exact keeps_left | apply keeps_app | apply keeps_mv | apply keeps_skip)))
            refine d_take (i := 0) hl rfl (by kernel_rfl) (by kernel_rfl) (by kernel_rfl) (by kernel_rfl) (by kernel_rfl) rfl trivial (fun _ _ _ h => by cases h.1) hM (fun w hC => r_move hl rfl) rfl ?_
            clear hl a; intro a hl
            refine d_take (i := 1) hl rfl (by kernel_rfl) (by kernel_rfl) (by kernel_rfl) (by kernel_rfl) (by kernel_rfl) rfl trivial (fun _ _ _ h => by cases h.1) hM (fun w hC => r_nilCheck hl rfl) rfl ?_
            clear hl a; intro a hl
            refine d_take (i := 2) hl rfl (by kernel_rfl) (by kernel_rfl) (by kernel_rfl) (by kernel_rfl) (by kernel_rfl) rfl trivial (fun _ _ _ h => by cases h.1) hM (fun w hC => r_field hl rfl fld32_1) rfl ?_
            clear hl a; intro a hl
            refine d_take (i := 3) hl rfl (by kernel_rfl) (by kernel_rfl) (by kernel_rfl) (by kernel_rfl) (by kernel_rfl) rfl trivial (fun _ _ _ h => by cases h.1) hM (fun w hC => r_loadC hl rfl one26 hC (by repeat (first | exact find_head | apply find_tail | apply find_skip)) (by first | exact mdc_ep _ | exact mdc_a _ | exact mdc_n _ | exact mdc_i _ | exact mdc_ph _ | exact mdc_fid _ | exact mdc_vd _ | exact mdc_up _ | exact mdc_q _ | exact mdc_rf _ | exact mdc_tk _ | exact mdc_au _ | exact mdc_fl _ | exact mdc_fu _ | exact mdc_kp _ | exact duc_ep _ | exact duc_a _ | exact duc_n _ | exact duc_i _ | exact duc_ph _ | exact duc_fid _ | exact duc_vd _ | rfl | exact hcg | exact wc_led W | exact hyd | rfl)) rfl ?_
            clear hl a; intro a hl
            refine d_take (i := 4) hl rfl (by kernel_rfl) (by kernel_rfl) (by kernel_rfl) (by kernel_rfl) (by kernel_rfl) rfl trivial (fun _ _ _ h => by cases h.1) hM (fun w hC => r_field hl rfl fld113_4) rfl ?_
            clear hl a; intro a hl
            refine d_take (i := 5) hl rfl (by kernel_rfl) (by kernel_rfl) (by kernel_rfl) (by kernel_rfl) (by kernel_rfl) rfl trivial (fun _ _ _ h => by cases h.1) hM (fun w hC => r_loadCA hl rfl agg43 hC (by repeat (first | exact find_head | apply find_tail | apply find_skip)) (by first | (simp only [List.getElem?_cons_zero, List.getElem?_cons_succ, Value.cells, List.take_zero, List.take_succ_cons, List.take_nil, List.drop_zero, List.drop_succ_cons, List.drop_nil, List.length_cons, List.length_nil, List.cons_append, List.nil_append, List.append_nil, Nat.zero_add, Nat.add_zero, Nat.reduceAdd, Nat.reduceBEq, Nat.reduceEqDiff, Nat.ble, BEq.rfl, Bool.and_true, Bool.and_self, cond_true, beq_self_eq_true]; rfl)) (by first | rfl | (simp; done))) rfl ?_
            clear hl a; intro a hl
            refine d_one (i := 6) (by kernel_rfl) rfl ?_
            try clear hM
            refine id (w_call hl hh rfl trivial rfl cal108 rfl (madd_spec Y mb m gp l hm hS.hI hS.sd hS.dn i.v hi.v) (by repeat (first | exact keeps_nil | apply keeps_cons (by repeat (first | exact find_head | apply find_tail | apply find_skip)) (by first  | rfl) | exact keeps_self | exact keeps_left | apply keeps_app | apply keeps_mv | apply keeps_skip)) trivial ?_)
            clear hl hh a w; intro vc Fc a w hR hl hh
            obtain ⟨rfl, m', G9, hm', rfl⟩ := hR
            try simp only [List.cons_append, List.nil_append, List.append_assoc, List.append_nil] at hh
            simp only [MF, List.append_assoc, List.cons_append, List.nil_append] at hh
            have hr9 : (ginP gp l i).1 = (addP gp l i.v).1 := by rw [gi_3 hk3]
            have hwi : (ginP gp l i).2.1 = 0 := by rw [gi_3 hk3]
            have hwc : (ginP gp l i).2.2 = (addP gp l i.v).2 := by rw [gi_3 hk3]
            have hout := add_out (l := l) (v := i.v) hS.hI.o
            refine d_step (fun h => absurd h (by decide)) ?_
            refine d_takeL (i := 7) hl rfl (by kernel_rfl) (by kernel_rfl) (by kernel_rfl) (by kernel_rfl) (by kernel_rfl) rfl trivial (fun _ _ _ h => by cases h.1) (fun w => r_assign hl rfl) rfl ?_
            clear hl a; intro a hl
            refine d_done (by kernel_rfl) ?_
            try clear hM
            have hl2 := hl.add (t := 0) (hl.add (t := 2) (hl.add (t := 3) (hl.add (t := 4) (hl.add (t := 11) (hl.add (t := 12) (hl.add (t := 13) (hl.nil) rfl) rfl) rfl) rfl) rfl) rfl) rfl; clear hl; have hl := hl2; clear hl2
            first | exact ⟨rfl, _, _, _, m', G9, p6, c6, E6, ⟨hwi.symm, hwc.symm, (by rw [hr9]), (by rw [hr9]; exact hm'), (by rw [hr9]; exact hR6), (by rw [hr9]; exact hz6)⟩, hl.addE (t := 0) (hl.addE (t := 2) (hl.addE (t := 3) (hl.addE (t := 4) (hl.addE (t := 11) (hl.addE (t := 12) (hl.addE (t := 13) (hl.nil) rfl (by first | rfl)) rfl (by first | rfl)) rfl (by first | rfl)) rfl (by first | rfl)) rfl (by first | rfl)) rfl (by first | rfl)) rfl (by first | rfl), hh.keep (by repeat (first | exact keeps_nil | apply keeps_cons (by repeat (first | exact find_head | apply find_tail | apply find_skip)) (by first  | rfl) | exact keeps_self | exact keeps_left | apply keeps_app | apply keeps_mv | apply keeps_skip))⟩ | exact ⟨rfl, _, _, _, m', G9, none, 0, [], ⟨hwi.symm, hwc.symm, (by rw [hr9, hout]; try rfl), (by rw [hr9]; exact hm'), (by rw [hr9, hout]; exact Row.nil _ _), (by rw [hr9, hout]; intro z hz; cases hz)⟩, hl.addE (t := 0) (hl.addE (t := 2) (hl.addE (t := 3) (hl.addE (t := 4) (hl.addE (t := 11) (hl.addE (t := 12) (hl.addE (t := 13) (hl.nil) rfl (by first | rfl)) rfl (by first | rfl)) rfl (by first | rfl)) rfl (by first | rfl)) rfl (by first | rfl)) rfl (by first | rfl)) rfl (by first | rfl), hh.keep (by repeat (first | exact keeps_nil | apply keeps_cons (by repeat (first | exact find_head | apply find_tail | apply find_skip)) (by first  | rfl) | exact keeps_self | exact keeps_left | apply keeps_app | apply keeps_mv | apply keeps_skip))⟩
          · intro hc3
            try simp only [decide_eq_true_eq, decide_eq_false_iff_not, Bool.not_eq_true', Bool.not_eq_false', Bool.not_eq_true, Bool.not_eq_false, Bool.and_eq_true, Bool.or_eq_true, Bool.and_eq_false_iff, Bool.or_eq_false_iff, Bool.not_not, ne_eq, Int.not_lt, Int.not_le, Decidable.not_not, beq_iff_eq, bne_iff_ne] at hc3
            refine c_seq ?_
            refine c_region ?_
            refine wl (wl_val hl rfl trivial (r_eql hl rfl rfl) ?_)
            clear hl a; intro a hl
            refine wl (wl_val hl rfl trivial (r_assign hl rfl) ?_)
            clear hl a; intro a hl
            refine w_nil ?_
            have hl2 := hl.add (t := 0) (hl.add (t := 2) (hl.add (t := 3) (hl.add (t := 4) (hl.add (t := 6) (hl.add (t := 11) (hl.add (t := 12) (hl.add (t := 13) (hl.add (t := 18) (hl.add (t := 61) (hl.nil) rfl) rfl) rfl) rfl) rfl) rfl) rfl) rfl) rfl) rfl; clear hl; have hl := hl2; clear hl2
            refine then_normal ?_
            refine c_cond hl rfl ?_ ?_
            · intro hc4
              try simp only [decide_eq_true_eq, decide_eq_false_iff_not, Bool.not_eq_true', Bool.not_eq_false', Bool.not_eq_true, Bool.not_eq_false, Bool.and_eq_true, Bool.or_eq_true, Bool.and_eq_false_iff, Bool.or_eq_false_iff, Bool.not_not, ne_eq, Int.not_lt, Int.not_le, Decidable.not_not, beq_iff_eq, bne_iff_ne] at hc4
              have hk4 : i.k = 4 := hc4
              refine c_draw [(lb, C [.pointer (some ⟨wb, 0, none⟩), .pointer (some ⟨mb, 0, none⟩)] 32), (k6, C [.int .u8 i.k, .int .u32 i.id, .int .u32 i.i2, .slice p i.tx.length cap, .int .u8 i.v.k, .int .u8 i.v.a, .int .u8 i.v.b, .int .u8 i.v.w, .int .u8 i.v.da, .int .u8 i.v.dl, .int .u8 i.m.k, .int .u8 i.m.d, .int .u32 i.m.e, .int .u32 i.m.b, .bool i.m.y, .int .u32 i.m.r, .int .u32 i.m.s, .string i.m.t] 113)] [6, 7] mixed hh ?_
              clear hh w; intro w hh
              have hM : Mem [(lb, C [.pointer (some ⟨wb, 0, none⟩), .pointer (some ⟨mb, 0, none⟩)] 32), (k6, C [.int .u8 i.k, .int .u32 i.id, .int .u32 i.i2, .slice p i.tx.length cap, .int .u8 i.v.k, .int .u8 i.v.a, .int .u8 i.v.b, .int .u8 i.v.w, .int .u8 i.v.da, .int .u8 i.v.dl, .int .u8 i.m.k, .int .u8 i.m.d, .int .u32 i.m.e, .int .u32 i.m.b, .bool i.m.y, .int .u32 i.m.r, .int .u32 i.m.s, .string i.m.t] 113)] w := (memK hh (by repeat (first | exact keeps_nil | apply keeps_cons (by repeat (first | exact find_head | apply find_tail | apply find_skip)) (by first  | rfl) | exact keeps_self | exact keeps_left | apply keeps_app | apply keeps_mv | apply keeps_skip)))
              refine d_take (i := 0) hl rfl (by kernel_rfl) (by kernel_rfl) (by kernel_rfl) (by kernel_rfl) (by kernel_rfl) rfl trivial (fun _ _ _ h => by cases h.1) hM (fun w hC => r_move hl rfl) rfl ?_
              clear hl a; intro a hl
              refine d_take (i := 1) hl rfl (by kernel_rfl) (by kernel_rfl) (by kernel_rfl) (by kernel_rfl) (by kernel_rfl) rfl trivial (fun _ _ _ h => by cases h.1) hM (fun w hC => r_nilCheck hl rfl) rfl ?_
              clear hl a; intro a hl
              refine d_take (i := 2) hl rfl (by kernel_rfl) (by kernel_rfl) (by kernel_rfl) (by kernel_rfl) (by kernel_rfl) rfl trivial (fun _ _ _ h => by cases h.1) hM (fun w hC => r_field hl rfl fld32_1) rfl ?_
              clear hl a; intro a hl
              refine d_take (i := 3) hl rfl (by kernel_rfl) (by kernel_rfl) (by kernel_rfl) (by kernel_rfl) (by kernel_rfl) rfl trivial (fun _ _ _ h => by cases h.1) hM (fun w hC => r_loadC hl rfl one26 hC (by repeat (first | exact find_head | apply find_tail | apply find_skip)) (by first | exact mdc_ep _ | exact mdc_a _ | exact mdc_n _ | exact mdc_i _ | exact mdc_ph _ | exact mdc_fid _ | exact mdc_vd _ | exact mdc_up _ | exact mdc_q _ | exact mdc_rf _ | exact mdc_tk _ | exact mdc_au _ | exact mdc_fl _ | exact mdc_fu _ | exact mdc_kp _ | exact duc_ep _ | exact duc_a _ | exact duc_n _ | exact duc_i _ | exact duc_ph _ | exact duc_fid _ | exact duc_vd _ | rfl | exact hcg | exact wc_led W | exact hyd | rfl)) rfl ?_
              clear hl a; intro a hl
              refine d_take (i := 4) hl rfl (by kernel_rfl) (by kernel_rfl) (by kernel_rfl) (by kernel_rfl) (by kernel_rfl) rfl trivial (fun _ _ _ h => by cases h.1) hM (fun w hC => r_field hl rfl fld113_4) rfl ?_
              clear hl a; intro a hl
              refine d_take (i := 5) hl rfl (by kernel_rfl) (by kernel_rfl) (by kernel_rfl) (by kernel_rfl) (by kernel_rfl) rfl trivial (fun _ _ _ h => by cases h.1) hM (fun w hC => r_loadCA hl rfl agg43 hC (by repeat (first | exact find_head | apply find_tail | apply find_skip)) (by first | (simp only [List.getElem?_cons_zero, List.getElem?_cons_succ, Value.cells, List.take_zero, List.take_succ_cons, List.take_nil, List.drop_zero, List.drop_succ_cons, List.drop_nil, List.length_cons, List.length_nil, List.cons_append, List.nil_append, List.append_nil, Nat.zero_add, Nat.add_zero, Nat.reduceAdd, Nat.reduceBEq, Nat.reduceEqDiff, Nat.ble, BEq.rfl, Bool.and_true, Bool.and_self, cond_true, beq_self_eq_true]; rfl)) (by first | rfl | (simp; done))) rfl ?_
              clear hl a; intro a hl
              refine d_one (i := 6) (by kernel_rfl) rfl ?_
              try clear hM
              refine id (w_call hl hh rfl trivial rfl cal109 rfl (mdrop_spec Y mb m gp l hm hS.hI hS.sd hS.dn i.v hi.v) (by repeat (first | exact keeps_nil | apply keeps_cons (by repeat (first | exact find_head | apply find_tail | apply find_skip)) (by first  | rfl) | exact keeps_self | exact keeps_left | apply keeps_app | apply keeps_mv | apply keeps_skip)) trivial ?_)
              clear hl hh a w; intro vc Fc a w hR hl hh
              obtain ⟨rfl, m', G9, hm', rfl⟩ := hR
              try simp only [List.cons_append, List.nil_append, List.append_assoc, List.append_nil] at hh
              simp only [MF, List.append_assoc, List.cons_append, List.nil_append] at hh
              have hr9 : (ginP gp l i).1 = (dropP gp l i.v).1 := by rw [gi_4 hk4]
              have hwi : (ginP gp l i).2.1 = 0 := by rw [gi_4 hk4]
              have hwc : (ginP gp l i).2.2 = (dropP gp l i.v).2 := by rw [gi_4 hk4]
              have hout := drop_out (l := l) (v := i.v) hS.hI.o
              refine d_step (fun h => absurd h (by decide)) ?_
              refine d_takeL (i := 7) hl rfl (by kernel_rfl) (by kernel_rfl) (by kernel_rfl) (by kernel_rfl) (by kernel_rfl) rfl trivial (fun _ _ _ h => by cases h.1) (fun w => r_assign hl rfl) rfl ?_
              clear hl a; intro a hl
              refine d_done (by kernel_rfl) ?_
              try clear hM
              have hl2 := hl.add (t := 0) (hl.add (t := 2) (hl.add (t := 3) (hl.add (t := 4) (hl.add (t := 11) (hl.add (t := 12) (hl.add (t := 13) (hl.nil) rfl) rfl) rfl) rfl) rfl) rfl) rfl; clear hl; have hl := hl2; clear hl2
              first | exact ⟨rfl, _, _, _, m', G9, p6, c6, E6, ⟨hwi.symm, hwc.symm, (by rw [hr9]), (by rw [hr9]; exact hm'), (by rw [hr9]; exact hR6), (by rw [hr9]; exact hz6)⟩, hl.addE (t := 0) (hl.addE (t := 2) (hl.addE (t := 3) (hl.addE (t := 4) (hl.addE (t := 11) (hl.addE (t := 12) (hl.addE (t := 13) (hl.nil) rfl (by first | rfl)) rfl (by first | rfl)) rfl (by first | rfl)) rfl (by first | rfl)) rfl (by first | rfl)) rfl (by first | rfl)) rfl (by first | rfl), hh.keep (by repeat (first | exact keeps_nil | apply keeps_cons (by repeat (first | exact find_head | apply find_tail | apply find_skip)) (by first  | rfl) | exact keeps_self | exact keeps_left | apply keeps_app | apply keeps_mv | apply keeps_skip))⟩ | exact ⟨rfl, _, _, _, m', G9, none, 0, [], ⟨hwi.symm, hwc.symm, (by rw [hr9, hout]; try rfl), (by rw [hr9]; exact hm'), (by rw [hr9, hout]; exact Row.nil _ _), (by rw [hr9, hout]; intro z hz; cases hz)⟩, hl.addE (t := 0) (hl.addE (t := 2) (hl.addE (t := 3) (hl.addE (t := 4) (hl.addE (t := 11) (hl.addE (t := 12) (hl.addE (t := 13) (hl.nil) rfl (by first | rfl)) rfl (by first | rfl)) rfl (by first | rfl)) rfl (by first | rfl)) rfl (by first | rfl)) rfl (by first | rfl)) rfl (by first | rfl), hh.keep (by repeat (first | exact keeps_nil | apply keeps_cons (by repeat (first | exact find_head | apply find_tail | apply find_skip)) (by first  | rfl) | exact keeps_self | exact keeps_left | apply keeps_app | apply keeps_mv | apply keeps_skip))⟩
            · intro hc4
              try simp only [decide_eq_true_eq, decide_eq_false_iff_not, Bool.not_eq_true', Bool.not_eq_false', Bool.not_eq_true, Bool.not_eq_false, Bool.and_eq_true, Bool.or_eq_true, Bool.and_eq_false_iff, Bool.or_eq_false_iff, Bool.not_not, ne_eq, Int.not_lt, Int.not_le, Decidable.not_not, beq_iff_eq, bne_iff_ne] at hc4
              refine c_seq ?_
              refine c_region ?_
              refine wl (wl_val hl rfl trivial (r_eql hl rfl rfl) ?_)
              clear hl a; intro a hl
              refine wl (wl_val hl rfl trivial (r_assign hl rfl) ?_)
              clear hl a; intro a hl
              refine w_nil ?_
              have hl2 := hl.add (t := 0) (hl.add (t := 2) (hl.add (t := 3) (hl.add (t := 4) (hl.add (t := 6) (hl.add (t := 11) (hl.add (t := 12) (hl.add (t := 13) (hl.add (t := 18) (hl.add (t := 70) (hl.nil) rfl) rfl) rfl) rfl) rfl) rfl) rfl) rfl) rfl) rfl; clear hl; have hl := hl2; clear hl2
              refine then_normal ?_
              refine c_cond hl rfl ?_ ?_
              · intro hc5
                try simp only [decide_eq_true_eq, decide_eq_false_iff_not, Bool.not_eq_true', Bool.not_eq_false', Bool.not_eq_true, Bool.not_eq_false, Bool.and_eq_true, Bool.or_eq_true, Bool.and_eq_false_iff, Bool.or_eq_false_iff, Bool.not_not, ne_eq, Int.not_lt, Int.not_le, Decidable.not_not, beq_iff_eq, bne_iff_ne] at hc5
                have hk17 : i.k = 17 := hc5
                refine c_seq ?_
                refine c_region ?_
                refine wl (wl_val hl rfl trivial (r_assign hl rfl) ?_)
                clear hl a; intro a hl
                refine w_nil ?_
                have hl2 := hl.add (t := 0) (hl.add (t := 2) (hl.add (t := 3) (hl.add (t := 4) (hl.add (t := 6) (hl.add (t := 13) (hl.nil) rfl) rfl) rfl) rfl) rfl) rfl; clear hl; have hl := hl2; clear hl2
                refine then_normal ?_
                refine c_seq ?_
                refine c_draw [(lb, C [.pointer (some ⟨wb, 0, none⟩), .pointer (some ⟨mb, 0, none⟩)] 32), (k6, C [.int .u8 i.k, .int .u32 i.id, .int .u32 i.i2, .slice p i.tx.length cap, .int .u8 i.v.k, .int .u8 i.v.a, .int .u8 i.v.b, .int .u8 i.v.w, .int .u8 i.v.da, .int .u8 i.v.dl, .int .u8 i.m.k, .int .u8 i.m.d, .int .u32 i.m.e, .int .u32 i.m.b, .bool i.m.y, .int .u32 i.m.r, .int .u32 i.m.s, .string i.m.t] 113)] [8, 9, 10, 11, 12, 13] mixed hh ?_
                clear hh w; intro w hh
                have hM : Mem [(lb, C [.pointer (some ⟨wb, 0, none⟩), .pointer (some ⟨mb, 0, none⟩)] 32), (k6, C [.int .u8 i.k, .int .u32 i.id, .int .u32 i.i2, .slice p i.tx.length cap, .int .u8 i.v.k, .int .u8 i.v.a, .int .u8 i.v.b, .int .u8 i.v.w, .int .u8 i.v.da, .int .u8 i.v.dl, .int .u8 i.m.k, .int .u8 i.m.d, .int .u32 i.m.e, .int .u32 i.m.b, .bool i.m.y, .int .u32 i.m.r, .int .u32 i.m.s, .string i.m.t] 113)] w := (memK hh (by repeat (first | exact keeps_nil | apply keeps_cons (by repeat (first | exact find_head | apply find_tail | apply find_skip)) (by first  | rfl) | exact keeps_self | exact keeps_left | apply keeps_app | apply keeps_mv | apply keeps_skip)))
                refine d_take (i := 0) hl rfl (by kernel_rfl) (by kernel_rfl) (by kernel_rfl) (by kernel_rfl) (by kernel_rfl) rfl trivial (fun _ _ _ h => by cases h.1) hM (fun w hC => r_move hl rfl) rfl ?_
                clear hl a; intro a hl
                refine d_take (i := 1) hl rfl (by kernel_rfl) (by kernel_rfl) (by kernel_rfl) (by kernel_rfl) (by kernel_rfl) rfl trivial (fun _ _ _ h => by cases h.1) hM (fun w hC => r_nilCheck hl rfl) rfl ?_
                clear hl a; intro a hl
                refine d_take (i := 2) hl rfl (by kernel_rfl) (by kernel_rfl) (by kernel_rfl) (by kernel_rfl) (by kernel_rfl) rfl trivial (fun _ _ _ h => by cases h.1) hM (fun w hC => r_field hl rfl fld32_1) rfl ?_
                clear hl a; intro a hl
                refine d_take (i := 3) hl rfl (by kernel_rfl) (by kernel_rfl) (by kernel_rfl) (by kernel_rfl) (by kernel_rfl) rfl trivial (fun _ _ _ h => by cases h.1) hM (fun w hC => r_loadC hl rfl one26 hC (by repeat (first | exact find_head | apply find_tail | apply find_skip)) (by first | exact mdc_ep _ | exact mdc_a _ | exact mdc_n _ | exact mdc_i _ | exact mdc_ph _ | exact mdc_fid _ | exact mdc_vd _ | exact mdc_up _ | exact mdc_q _ | exact mdc_rf _ | exact mdc_tk _ | exact mdc_au _ | exact mdc_fl _ | exact mdc_fu _ | exact mdc_kp _ | exact duc_ep _ | exact duc_a _ | exact duc_n _ | exact duc_i _ | exact duc_ph _ | exact duc_fid _ | exact duc_vd _ | rfl | exact hcg | exact wc_led W | exact hyd | rfl)) rfl ?_
                clear hl a; intro a hl
                refine d_take (i := 4) hl rfl (by kernel_rfl) (by kernel_rfl) (by kernel_rfl) (by kernel_rfl) (by kernel_rfl) rfl trivial (fun _ _ _ h => by cases h.1) hM (fun w hC => r_field hl rfl fld113_1) rfl ?_
                clear hl a; intro a hl
                refine d_take (i := 5) hl rfl (by kernel_rfl) (by kernel_rfl) (by kernel_rfl) (by kernel_rfl) (by kernel_rfl) rfl trivial (fun _ _ _ h => by cases h.1) hM (fun w hC => r_loadC hl rfl one36 hC (by repeat (first | exact find_head | apply find_tail | apply find_skip)) (by first | exact mdc_ep _ | exact mdc_a _ | exact mdc_n _ | exact mdc_i _ | exact mdc_ph _ | exact mdc_fid _ | exact mdc_vd _ | exact mdc_up _ | exact mdc_q _ | exact mdc_rf _ | exact mdc_tk _ | exact mdc_au _ | exact mdc_fl _ | exact mdc_fu _ | exact mdc_kp _ | exact duc_ep _ | exact duc_a _ | exact duc_n _ | exact duc_i _ | exact duc_ph _ | exact duc_fid _ | exact duc_vd _ | rfl | exact hcg | exact wc_led W | exact hyd | rfl)) rfl ?_
                clear hl a; intro a hl
                refine d_take (i := 6) hl rfl (by kernel_rfl) (by kernel_rfl) (by kernel_rfl) (by kernel_rfl) (by kernel_rfl) rfl trivial (fun _ _ _ h => by cases h.1) hM (fun w hC => r_field hl rfl fld113_2) rfl ?_
                clear hl a; intro a hl
                refine d_take (i := 7) hl rfl (by kernel_rfl) (by kernel_rfl) (by kernel_rfl) (by kernel_rfl) (by kernel_rfl) rfl trivial (fun _ _ _ h => by cases h.1) hM (fun w hC => r_loadC hl rfl one36 hC (by repeat (first | exact find_head | apply find_tail | apply find_skip)) (by first | exact mdc_ep _ | exact mdc_a _ | exact mdc_n _ | exact mdc_i _ | exact mdc_ph _ | exact mdc_fid _ | exact mdc_vd _ | exact mdc_up _ | exact mdc_q _ | exact mdc_rf _ | exact mdc_tk _ | exact mdc_au _ | exact mdc_fl _ | exact mdc_fu _ | exact mdc_kp _ | exact duc_ep _ | exact duc_a _ | exact duc_n _ | exact duc_i _ | exact duc_ph _ | exact duc_fid _ | exact duc_vd _ | rfl | exact hcg | exact wc_led W | exact hyd | rfl)) rfl ?_
                clear hl a; intro a hl
                refine d_one (i := 8) (by kernel_rfl) rfl ?_
                try clear hM
                refine id (w_call hl hh rfl trivial rfl cal110 rfl (mdiffO hm hS.hI hS.sd hS.dn hS.nd i.id i.i2) (by repeat (first | exact keeps_nil | apply keeps_cons (by repeat (first | exact find_head | apply find_tail | apply find_skip)) (by first  | rfl) | exact keeps_self | exact keeps_left | apply keeps_app | apply keeps_mv | apply keeps_skip)) trivial ?_)
                clear hl hh a w; intro vc Fc a w hR hl hh
                obtain ⟨rfl, m', G9, hm', rfl⟩ := hR
                try simp only [List.cons_append, List.nil_append, List.append_assoc, List.append_nil] at hh
                simp only [MF, List.append_assoc, List.cons_append, List.nil_append] at hh
                have hr9 : (ginP gp l i).1 = (gp, l) := by rw [gi_17 hk17]
                have hwi : (ginP gp l i).2.1 = (diffP gp i.id i.i2).1 := by rw [gi_17 hk17]
                have hwc : (ginP gp l i).2.2 = (diffP gp i.id i.i2).2 := by rw [gi_17 hk17]
                have hout := hS.hI.o
                have hdfb := diff_b gp i.id i.i2
                refine d_step (fun h => absurd h (by decide)) ?_
                refine d_takeL (i := 9) hl rfl (by kernel_rfl) (by kernel_rfl) (by kernel_rfl) (by kernel_rfl) (by kernel_rfl) rfl trivial (fun _ _ _ h => by cases h.1) (fun w => r_move hl rfl) rfl ?_
                clear hl a; intro a hl
                refine d_takeL (i := 10) hl rfl (by kernel_rfl) (by kernel_rfl) (by kernel_rfl) (by kernel_rfl) (by kernel_rfl) rfl trivial (fun _ _ _ h => by cases h.1) (fun w => r_extract hl rfl (by simp only [List.getElem?_toArray, List.getElem?_cons_zero, List.getElem?_cons_succ]; rfl)) rfl ?_
                clear hl a; intro a hl
                refine d_takeL (i := 11) hl rfl (by kernel_rfl) (by kernel_rfl) (by kernel_rfl) (by kernel_rfl) (by kernel_rfl) rfl trivial (fun _ _ _ h => by cases h.1) (fun w => r_extract hl rfl (by simp only [List.getElem?_toArray, List.getElem?_cons_zero, List.getElem?_cons_succ]; rfl)) rfl ?_
                clear hl a; intro a hl
                refine d_takeL (i := 12) hl rfl (by kernel_rfl) (by kernel_rfl) (by kernel_rfl) (by kernel_rfl) (by kernel_rfl) rfl trivial (fun _ _ _ h => by cases h.1) (fun w => r_assign hl rfl) rfl ?_
                clear hl a; intro a hl
                refine d_takeL (i := 13) hl rfl (by kernel_rfl) (by kernel_rfl) (by kernel_rfl) (by kernel_rfl) (by kernel_rfl) rfl trivial (fun _ _ _ h => by cases h.1) (fun w => r_assign hl rfl) rfl ?_
                clear hl a; intro a hl
                refine d_done (by kernel_rfl) ?_
                try clear hM
                have hl2 := hl.add (t := 0) (hl.add (t := 2) (hl.add (t := 3) (hl.add (t := 4) (hl.add (t := 12) (hl.add (t := 13) (hl.add (t := 14) (hl.nil) rfl) rfl) rfl) rfl) rfl) rfl) rfl; clear hl; have hl := hl2; clear hl2
                refine then_normal ?_
                refine c_region ?_
                refine wl (wl_val hl rfl trivial (r_move hl rfl) ?_)
                clear hl a; intro a hl
                first | refine wl (wl_val hl rfl trivial (r_conv hl rfl Tryz.underlying60 Tryz.underlying36 (by simp only [Fits]; omega)) ?_) | refine wl (wl_val hl rfl trivial (r_convW hl rfl Tryz.underlying60 Tryz.underlying36) ?_)
                clear hl a; intro a hl
                refine wl (wl_val hl rfl trivial (r_assign hl rfl) ?_)
                clear hl a; intro a hl
                refine w_nil ?_
                have hl2 := hl.add (t := 0) (hl.add (t := 2) (hl.add (t := 3) (hl.add (t := 4) (hl.add (t := 11) (hl.add (t := 12) (hl.add (t := 13) (hl.nil) rfl) rfl) rfl) rfl) rfl) rfl) rfl; clear hl; have hl := hl2; clear hl2
                first | exact ⟨rfl, _, _, _, m', G9, p6, c6, E6, ⟨hwi.symm, hwc.symm, (by rw [hr9]), (by rw [hr9]; exact hm'), (by rw [hr9]; exact hR6), (by rw [hr9]; exact hz6)⟩, hl.addE (t := 0) (hl.addE (t := 2) (hl.addE (t := 3) (hl.addE (t := 4) (hl.addE (t := 11) (hl.addE (t := 12) (hl.addE (t := 13) (hl.nil) rfl (by first | rfl)) rfl (by first | rfl)) rfl (by first | rfl)) rfl (by first | rfl)) rfl (by first | rfl)) rfl (by first | rfl)) rfl (by first | rfl), hh.keep (by repeat (first | exact keeps_nil | apply keeps_cons (by repeat (first | exact find_head | apply find_tail | apply find_skip)) (by first  | rfl) | exact keeps_self | exact keeps_left | apply keeps_app | apply keeps_mv | apply keeps_skip))⟩ | exact ⟨rfl, _, _, _, m', G9, none, 0, [], ⟨hwi.symm, hwc.symm, (by rw [hr9, hout]; try rfl), (by rw [hr9]; exact hm'), (by rw [hr9, hout]; exact Row.nil _ _), (by rw [hr9, hout]; intro z hz; cases hz)⟩, hl.addE (t := 0) (hl.addE (t := 2) (hl.addE (t := 3) (hl.addE (t := 4) (hl.addE (t := 11) (hl.addE (t := 12) (hl.addE (t := 13) (hl.nil) rfl (by first | rfl)) rfl (by first | rfl)) rfl (by first | rfl)) rfl (by first | rfl)) rfl (by first | rfl)) rfl (by first | rfl)) rfl (by first | rfl), hh.keep (by repeat (first | exact keeps_nil | apply keeps_cons (by repeat (first | exact find_head | apply find_tail | apply find_skip)) (by first  | rfl) | exact keeps_self | exact keeps_left | apply keeps_app | apply keeps_mv | apply keeps_skip))⟩
              · intro hc5
                try simp only [decide_eq_true_eq, decide_eq_false_iff_not, Bool.not_eq_true', Bool.not_eq_false', Bool.not_eq_true, Bool.not_eq_false, Bool.and_eq_true, Bool.or_eq_true, Bool.and_eq_false_iff, Bool.or_eq_false_iff, Bool.not_not, ne_eq, Int.not_lt, Int.not_le, Decidable.not_not, beq_iff_eq, bne_iff_ne] at hc5
                refine c_seq ?_
                refine c_region ?_
                refine wl (wl_val hl rfl trivial (r_eql hl rfl rfl) ?_)
                clear hl a; intro a hl
                refine wl (wl_val hl rfl trivial (r_assign hl rfl) ?_)
                clear hl a; intro a hl
                refine w_nil ?_
                have hl2 := hl.add (t := 0) (hl.add (t := 2) (hl.add (t := 3) (hl.add (t := 4) (hl.add (t := 6) (hl.add (t := 11) (hl.add (t := 12) (hl.add (t := 13) (hl.add (t := 18) (hl.add (t := 86) (hl.nil) rfl) rfl) rfl) rfl) rfl) rfl) rfl) rfl) rfl) rfl; clear hl; have hl := hl2; clear hl2
                refine then_normal ?_
                refine c_cond hl rfl ?_ ?_
                · intro hc6
                  try simp only [decide_eq_true_eq, decide_eq_false_iff_not, Bool.not_eq_true', Bool.not_eq_false', Bool.not_eq_true, Bool.not_eq_false, Bool.and_eq_true, Bool.or_eq_true, Bool.and_eq_false_iff, Bool.or_eq_false_iff, Bool.not_not, ne_eq, Int.not_lt, Int.not_le, Decidable.not_not, beq_iff_eq, bne_iff_ne] at hc6
                  have hk5 : i.k = 5 := hc6
                  refine c_region ?_
                  refine wl (wl_val hl rfl trivial (r_move hl rfl) ?_)
                  clear hl a; intro a hl
                  refine wl (wl_val hl rfl trivial (r_nilCheck hl rfl) ?_)
                  clear hl a; intro a hl
                  refine wl (wl_val hl rfl trivial (r_field hl rfl fld32_1) ?_)
                  clear hl a; intro a hl
                  first | refine wl (w_load hl hh rfl trivial one26 rfl (by repeat (first | exact find_head | apply find_tail | apply find_skip)) (by first | exact mdc_ep _ | exact mdc_a _ | exact mdc_n _ | exact mdc_i _ | exact mdc_ph _ | exact mdc_fid _ | exact mdc_vd _ | exact mdc_up _ | exact mdc_q _ | exact mdc_rf _ | exact mdc_tk _ | exact mdc_au _ | exact mdc_fl _ | exact mdc_fu _ | exact mdc_kp _ | exact duc_ep _ | exact duc_a _ | exact duc_n _ | exact duc_i _ | exact duc_ph _ | exact duc_fid _ | exact duc_vd _ | rfl | exact hcg | exact wc_led W | exact hyd | rfl) ?_) | refine wl (wl_val hl rfl trivial (r_load hl rfl one26 (hh.mem _ _ (by repeat (first | exact hmem7 | exact List.mem_append_left _ hmem7 | apply List.mem_cons_of_mem | apply List.mem_append_right))) (by rw [List.getElem?_toArray]; exact hxd)) ?_)
                  clear hl a; intro a hl
                  refine wl (w_call hl hh rfl trivial rfl cal111 rfl (mtickS hm hS.hI hS.sd hS.dn) (by repeat (first | exact keeps_nil | apply keeps_cons (by repeat (first | exact find_head | apply find_tail | apply find_skip)) (by first  | rfl) | exact keeps_self | exact keeps_left | apply keeps_app | apply keeps_mv | apply keeps_skip)) trivial ?_)
                  clear hl hh a w; intro vc Fc a w hR hl hh
                  obtain ⟨p6, c6, E6, F2, hR6, hz6, rfl, ⟨m', G9, hm', rfl⟩, rfl⟩ := hR
                  try simp only [List.cons_append, List.nil_append, List.append_assoc, List.append_nil] at hh
                  simp only [MF, List.append_assoc, List.cons_append, List.nil_append] at hh
                  have hr9 : (ginP gp l i).1 = tickP gp l := by rw [gi_5 hk5]
                  have hwi : (ginP gp l i).2.1 = 0 := by rw [gi_5 hk5]
                  have hwc : (ginP gp l i).2.2 = 0 := by rw [gi_5 hk5]
                  refine wl (wl_val hl rfl trivial (r_assign hl rfl) ?_)
                  clear hl a; intro a hl
                  refine w_nil ?_
                  have hl2 := hl.add (t := 0) (hl.add (t := 2) (hl.add (t := 3) (hl.add (t := 4) (hl.add (t := 11) (hl.add (t := 12) (hl.add (t := 13) (hl.nil) rfl) rfl) rfl) rfl) rfl) rfl) rfl; clear hl; have hl := hl2; clear hl2
                  first | exact ⟨rfl, _, _, _, m', G9, p6, c6, E6, ⟨hwi.symm, hwc.symm, (by rw [hr9]), (by rw [hr9]; exact hm'), (by rw [hr9]; exact hR6), (by rw [hr9]; exact hz6)⟩, hl.addE (t := 0) (hl.addE (t := 2) (hl.addE (t := 3) (hl.addE (t := 4) (hl.addE (t := 11) (hl.addE (t := 12) (hl.addE (t := 13) (hl.nil) rfl (by first | rfl)) rfl (by first | rfl)) rfl (by first | rfl)) rfl (by first | rfl)) rfl (by first | rfl)) rfl (by first | rfl)) rfl (by first | rfl), hh.keep (by repeat (first | exact keeps_nil | apply keeps_cons (by repeat (first | exact find_head | apply find_tail | apply find_skip)) (by first  | rfl) | exact keeps_self | exact keeps_left | apply keeps_app | apply keeps_mv | apply keeps_skip))⟩ | exact ⟨rfl, _, _, _, m', G9, none, 0, [], ⟨hwi.symm, hwc.symm, (by rw [hr9, hout]; try rfl), (by rw [hr9]; exact hm'), (by rw [hr9, hout]; exact Row.nil _ _), (by rw [hr9, hout]; intro z hz; cases hz)⟩, hl.addE (t := 0) (hl.addE (t := 2) (hl.addE (t := 3) (hl.addE (t := 4) (hl.addE (t := 11) (hl.addE (t := 12) (hl.addE (t := 13) (hl.nil) rfl (by first | rfl)) rfl (by first | rfl)) rfl (by first | rfl)) rfl (by first | rfl)) rfl (by first | rfl)) rfl (by first | rfl)) rfl (by first | rfl), hh.keep (by repeat (first | exact keeps_nil | apply keeps_cons (by repeat (first | exact find_head | apply find_tail | apply find_skip)) (by first  | rfl) | exact keeps_self | exact keeps_left | apply keeps_app | apply keeps_mv | apply keeps_skip))⟩
                · intro hc6
                  try simp only [decide_eq_true_eq, decide_eq_false_iff_not, Bool.not_eq_true', Bool.not_eq_false', Bool.not_eq_true, Bool.not_eq_false, Bool.and_eq_true, Bool.or_eq_true, Bool.and_eq_false_iff, Bool.or_eq_false_iff, Bool.not_not, ne_eq, Int.not_lt, Int.not_le, Decidable.not_not, beq_iff_eq, bne_iff_ne] at hc6
                  refine c_seq ?_
                  refine c_region ?_
                  refine wl (wl_val hl rfl trivial (r_eql hl rfl rfl) ?_)
                  clear hl a; intro a hl
                  refine wl (wl_val hl rfl trivial (r_assign hl rfl) ?_)
                  clear hl a; intro a hl
                  refine w_nil ?_
                  have hl2 := hl.add (t := 0) (hl.add (t := 2) (hl.add (t := 3) (hl.add (t := 4) (hl.add (t := 6) (hl.add (t := 11) (hl.add (t := 12) (hl.add (t := 13) (hl.add (t := 93) (hl.nil) rfl) rfl) rfl) rfl) rfl) rfl) rfl) rfl) rfl; clear hl; have hl := hl2; clear hl2
                  refine then_normal ?_
                  refine c_cond hl rfl ?_ ?_
                  · intro hc7
                    try simp only [decide_eq_true_eq, decide_eq_false_iff_not, Bool.not_eq_true', Bool.not_eq_false', Bool.not_eq_true, Bool.not_eq_false, Bool.and_eq_true, Bool.or_eq_true, Bool.and_eq_false_iff, Bool.or_eq_false_iff, Bool.not_not, ne_eq, Int.not_lt, Int.not_le, Decidable.not_not, beq_iff_eq, bne_iff_ne] at hc7
                    have hk7 : i.k = 7 := hc7
                    refine c_draw [(lb, C [.pointer (some ⟨wb, 0, none⟩), .pointer (some ⟨mb, 0, none⟩)] 32), (k6, C [.int .u8 i.k, .int .u32 i.id, .int .u32 i.i2, .slice p i.tx.length cap, .int .u8 i.v.k, .int .u8 i.v.a, .int .u8 i.v.b, .int .u8 i.v.w, .int .u8 i.v.da, .int .u8 i.v.dl, .int .u8 i.m.k, .int .u8 i.m.d, .int .u32 i.m.e, .int .u32 i.m.b, .bool i.m.y, .int .u32 i.m.r, .int .u32 i.m.s, .string i.m.t] 113)] [6, 7] mixed hh ?_
                    clear hh w; intro w hh
                    have hM : Mem [(lb, C [.pointer (some ⟨wb, 0, none⟩), .pointer (some ⟨mb, 0, none⟩)] 32), (k6, C [.int .u8 i.k, .int .u32 i.id, .int .u32 i.i2, .slice p i.tx.length cap, .int .u8 i.v.k, .int .u8 i.v.a, .int .u8 i.v.b, .int .u8 i.v.w, .int .u8 i.v.da, .int .u8 i.v.dl, .int .u8 i.m.k, .int .u8 i.m.d, .int .u32 i.m.e, .int .u32 i.m.b, .bool i.m.y, .int .u32 i.m.r, .int .u32 i.m.s, .string i.m.t] 113)] w := (memK hh (by repeat (first | exact keeps_nil | apply keeps_cons (by repeat (first | exact find_head | apply find_tail | apply find_skip)) (by first  | rfl) | exact keeps_self | exact keeps_left | apply keeps_app | apply keeps_mv | apply keeps_skip)))
                    refine d_take (i := 0) hl rfl (by kernel_rfl) (by kernel_rfl) (by kernel_rfl) (by kernel_rfl) (by kernel_rfl) rfl trivial (fun _ _ _ h => by cases h.1) hM (fun w hC => r_move hl rfl) rfl ?_
                    clear hl a; intro a hl
                    refine d_take (i := 1) hl rfl (by kernel_rfl) (by kernel_rfl) (by kernel_rfl) (by kernel_rfl) (by kernel_rfl) rfl trivial (fun _ _ _ h => by cases h.1) hM (fun w hC => r_nilCheck hl rfl) rfl ?_
                    clear hl a; intro a hl
                    refine d_take (i := 2) hl rfl (by kernel_rfl) (by kernel_rfl) (by kernel_rfl) (by kernel_rfl) (by kernel_rfl) rfl trivial (fun _ _ _ h => by cases h.1) hM (fun w hC => r_field hl rfl fld32_1) rfl ?_
                    clear hl a; intro a hl
                    refine d_take (i := 3) hl rfl (by kernel_rfl) (by kernel_rfl) (by kernel_rfl) (by kernel_rfl) (by kernel_rfl) rfl trivial (fun _ _ _ h => by cases h.1) hM (fun w hC => r_loadC hl rfl one26 hC (by repeat (first | exact find_head | apply find_tail | apply find_skip)) (by first | exact mdc_ep _ | exact mdc_a _ | exact mdc_n _ | exact mdc_i _ | exact mdc_ph _ | exact mdc_fid _ | exact mdc_vd _ | exact mdc_up _ | exact mdc_q _ | exact mdc_rf _ | exact mdc_tk _ | exact mdc_au _ | exact mdc_fl _ | exact mdc_fu _ | exact mdc_kp _ | exact duc_ep _ | exact duc_a _ | exact duc_n _ | exact duc_i _ | exact duc_ph _ | exact duc_fid _ | exact duc_vd _ | rfl | exact hcg | exact wc_led W | exact hyd | rfl)) rfl ?_
                    clear hl a; intro a hl
                    refine d_take (i := 4) hl rfl (by kernel_rfl) (by kernel_rfl) (by kernel_rfl) (by kernel_rfl) (by kernel_rfl) rfl trivial (fun _ _ _ h => by cases h.1) hM (fun w hC => r_field hl rfl fld113_5) rfl ?_
                    clear hl a; intro a hl
                    refine d_take (i := 5) hl rfl (by kernel_rfl) (by kernel_rfl) (by kernel_rfl) (by kernel_rfl) (by kernel_rfl) rfl trivial (fun _ _ _ h => by cases h.1) hM (fun w hC => r_loadCA hl rfl agg38 hC (by repeat (first | exact find_head | apply find_tail | apply find_skip)) (by first | (simp only [List.getElem?_cons_zero, List.getElem?_cons_succ, Value.cells, List.take_zero, List.take_succ_cons, List.take_nil, List.drop_zero, List.drop_succ_cons, List.drop_nil, List.length_cons, List.length_nil, List.cons_append, List.nil_append, List.append_nil, Nat.zero_add, Nat.add_zero, Nat.reduceAdd, Nat.reduceBEq, Nat.reduceEqDiff, Nat.ble, BEq.rfl, Bool.and_true, Bool.and_self, cond_true, beq_self_eq_true]; rfl)) (by first | rfl | (simp; done))) rfl ?_
                    clear hl a; intro a hl
                    refine d_one (i := 6) (by kernel_rfl) rfl ?_
                    try clear hM
                    refine id (w_call hl hh rfl trivial rfl cal112 rfl (mdel_spec Y mb m gp l hm hS.hI hS.sd hS.dn hvl9 i.m hi.m) (by repeat (first | exact keeps_nil | apply keeps_cons (by repeat (first | exact find_head | apply find_tail | apply find_skip)) (by first  | rfl) | exact keeps_self | exact keeps_left | apply keeps_app | apply keeps_mv | apply keeps_skip)) trivial ?_)
                    clear hl hh a w; intro vc Fc a w hR hl hh
                    obtain ⟨p6, c6, E6, F2, hR6, hz6, rfl, ⟨m', G9, hm', rfl⟩, rfl⟩ := hR
                    try simp only [List.cons_append, List.nil_append, List.append_assoc, List.append_nil] at hh
                    simp only [MF, List.append_assoc, List.cons_append, List.nil_append] at hh
                    have hr9 : (ginP gp l i).1 = delvP gp l i.m := by rw [gi_7 hk7]
                    have hwi : (ginP gp l i).2.1 = 0 := by rw [gi_7 hk7]
                    have hwc : (ginP gp l i).2.2 = 0 := by rw [gi_7 hk7]
                    refine d_step (fun h => absurd h (by decide)) ?_
                    refine d_takeL (i := 7) hl rfl (by kernel_rfl) (by kernel_rfl) (by kernel_rfl) (by kernel_rfl) (by kernel_rfl) rfl trivial (fun _ _ _ h => by cases h.1) (fun w => r_assign hl rfl) rfl ?_
                    clear hl a; intro a hl
                    refine d_done (by kernel_rfl) ?_
                    try clear hM
                    have hl2 := hl.add (t := 0) (hl.add (t := 2) (hl.add (t := 3) (hl.add (t := 4) (hl.add (t := 11) (hl.add (t := 12) (hl.add (t := 13) (hl.nil) rfl) rfl) rfl) rfl) rfl) rfl) rfl; clear hl; have hl := hl2; clear hl2
                    first | exact ⟨rfl, _, _, _, m', G9, p6, c6, E6, ⟨hwi.symm, hwc.symm, (by rw [hr9]), (by rw [hr9]; exact hm'), (by rw [hr9]; exact hR6), (by rw [hr9]; exact hz6)⟩, hl.addE (t := 0) (hl.addE (t := 2) (hl.addE (t := 3) (hl.addE (t := 4) (hl.addE (t := 11) (hl.addE (t := 12) (hl.addE (t := 13) (hl.nil) rfl (by first | rfl)) rfl (by first | rfl)) rfl (by first | rfl)) rfl (by first | rfl)) rfl (by first | rfl)) rfl (by first | rfl)) rfl (by first | rfl), hh.keep (by repeat (first | exact keeps_nil | apply keeps_cons (by repeat (first | exact find_head | apply find_tail | apply find_skip)) (by first  | rfl) | exact keeps_self | exact keeps_left | apply keeps_app | apply keeps_mv | apply keeps_skip))⟩ | exact ⟨rfl, _, _, _, m', G9, none, 0, [], ⟨hwi.symm, hwc.symm, (by rw [hr9, hout]; try rfl), (by rw [hr9]; exact hm'), (by rw [hr9, hout]; exact Row.nil _ _), (by rw [hr9, hout]; intro z hz; cases hz)⟩, hl.addE (t := 0) (hl.addE (t := 2) (hl.addE (t := 3) (hl.addE (t := 4) (hl.addE (t := 11) (hl.addE (t := 12) (hl.addE (t := 13) (hl.nil) rfl (by first | rfl)) rfl (by first | rfl)) rfl (by first | rfl)) rfl (by first | rfl)) rfl (by first | rfl)) rfl (by first | rfl)) rfl (by first | rfl), hh.keep (by repeat (first | exact keeps_nil | apply keeps_cons (by repeat (first | exact find_head | apply find_tail | apply find_skip)) (by first  | rfl) | exact keeps_self | exact keeps_left | apply keeps_app | apply keeps_mv | apply keeps_skip))⟩
                  · intro hc7
                    try simp only [decide_eq_true_eq, decide_eq_false_iff_not, Bool.not_eq_true', Bool.not_eq_false', Bool.not_eq_true, Bool.not_eq_false, Bool.and_eq_true, Bool.or_eq_true, Bool.and_eq_false_iff, Bool.or_eq_false_iff, Bool.not_not, ne_eq, Int.not_lt, Int.not_le, Decidable.not_not, beq_iff_eq, bne_iff_ne] at hc7
                    exfalso; first | contradiction | omega
  ·
    clear hl hh a w; intro a w hI
    obtain ⟨wi, wc, ol, m9, G9, p9, cw, E9, ⟨hwi, hwc, hol, hM9, hR9, hz9⟩, hl, hh⟩ := hI
    have hidw : id9 = wi := by rw [hwi]; exact hS.id
    have hcw : c9 = wc := by rw [hwc]; exact hS.c
    have hols : ol = sent.length := by rw [hol, hS.sent]
    have hR8 : ROWB p9 sent cw E9 := by rw [hS.sent]; exact hR9
    have hz8 : ∀ z, z ∈ sent → z.t.size ≤ 1000 := by rw [hS.sent]; exact hz9
    rw [hols] at hl
    have hgo : g.off = (ginP gp l i).1.1.off := congrArg GtP.off hS.gN
    have hupd : (!(m9.up == g.off)) = true := by rw [hM9.up, hgo]; cases (ginP gp l i).1.1.off <;> rfl
    have hqw : (g.q.length : Int) = (m9.q.length : Int) := by have h9 : g.q.map btP = (ginP gp l i).1.1.q := congrArg GtP.q hS.gN; rw [← hM9.qp] at h9; have h8 := congrArg List.length h9; simp only [List.length_map] at h8; rw [h8]
    have hml : m9.d.pl = W.l.pl.d := hM9.d.trans hS.now.symm
    have hcg : W.c[0 + 1]? = some (.pointer (some ⟨gb, 0, none⟩)) := by rw [wc_g, hg]; rfl
    obtain ⟨hv, hhv⟩ : ∃ hv : List Vr, hv = (if g.off then [] else g.st.vs) := ⟨_, rfl⟩
    have hup0 : m9.up = true → hv.length = m9.d.vs.length := fun h9 => by
      have h8 : g.off = false := by rw [h9] at hupd; cases h7 : g.off; rfl; rw [h7] at hupd; cases hupd
      have h6 := congrArg List.length (hist_eq hS hM9 h8)
      simp only [List.length_map] at h6
      rw [hhv, h8]; exact h6
    have hvI : ∀ (j : Nat) (x : Vr), hv[j]? = some x → ∃ y, m9.d.vs[j]? = some y ∧ x.id = y.id := fun j x hx => by
      cases h8 : g.off with
      | true => rw [hhv, h8] at hx; cases hx
      | false => rw [hhv, h8] at hx; exact map_at9 (hist_eq hS hM9 h8) hx
    have hvl9 : hv.length ≤ 1000000000 := by rw [hhv]; split; exact Nat.zero_le _; exact (hW.g _ hg).1.st.vl
    have hxx := (hM9.dok).vl
    have hx1 := hM9.dok.v1
    obtain ⟨b1, j1, hq1, hjl1, hjc1, hE1⟩ := row_pos hM9.dok.a hx1
    rw [DuV.E_eq m9.d, hE1] at hh
    simp only [List.append_assoc, List.cons_append, List.nil_append] at hh
    refine blk_normal ?_
    refine then_normal ?_
    refine c_seq ?_
    refine c_region ?_
    refine wl (wl_val hl rfl trivial (r_move hl rfl) ?_)
    clear hl a; intro a hl
    refine wl (wl_val hl rfl trivial (r_nilCheck hl rfl) ?_)
    clear hl a; intro a hl
    refine wl (wl_val hl rfl trivial (r_field hl rfl fld32_0) ?_)
    clear hl a; intro a hl
    refine wl (wl_val hl rfl trivial (r_field hl rfl fld30_0) ?_)
    clear hl a; intro a hl
    first | refine wl (w_load hl hh rfl trivial one28 rfl (by repeat (first | exact find_head | apply find_tail | apply find_skip)) (by first | exact mdc_ep _ | exact mdc_a _ | exact mdc_n _ | exact mdc_i _ | exact mdc_ph _ | exact mdc_fid _ | exact mdc_vd _ | exact mdc_up _ | exact mdc_q _ | exact mdc_rf _ | exact mdc_tk _ | exact mdc_au _ | exact mdc_fl _ | exact mdc_fu _ | exact mdc_kp _ | exact duc_ep _ | exact duc_a _ | exact duc_n _ | exact duc_i _ | exact duc_ph _ | exact duc_fid _ | exact duc_vd _ | rfl | exact hcg | exact wc_led W | exact hyd | rfl) ?_) | refine wl (wl_val hl rfl trivial (r_load hl rfl one28 (hh.mem _ _ (by repeat (first | exact hmem7 | exact List.mem_append_left _ hmem7 | apply List.mem_cons_of_mem | apply List.mem_append_right))) (by rw [List.getElem?_toArray]; exact hxd)) ?_)
    clear hl a; intro a hl
    refine wl (wl_val hl rfl trivial (r_nilCheck hl rfl) ?_)
    clear hl a; intro a hl
    refine wl (wl_val hl rfl trivial (r_field hl rfl fld55_1) ?_)
    clear hl a; intro a hl
    first | refine wl (w_load hl hh rfl trivial one50 rfl (by repeat (first | exact find_head | apply find_tail | apply find_skip)) (by first | exact mdc_ep _ | exact mdc_a _ | exact mdc_n _ | exact mdc_i _ | exact mdc_ph _ | exact mdc_fid _ | exact mdc_vd _ | exact mdc_up _ | exact mdc_q _ | exact mdc_rf _ | exact mdc_tk _ | exact mdc_au _ | exact mdc_fl _ | exact mdc_fu _ | exact mdc_kp _ | exact duc_ep _ | exact duc_a _ | exact duc_n _ | exact duc_i _ | exact duc_ph _ | exact duc_fid _ | exact duc_vd _ | rfl | exact hcg | exact wc_led W | exact hyd | rfl) ?_) | refine wl (wl_val hl rfl trivial (r_load hl rfl one50 (hh.mem _ _ (by repeat (first | exact hmem7 | exact List.mem_append_left _ hmem7 | apply List.mem_cons_of_mem | apply List.mem_append_right))) (by rw [List.getElem?_toArray]; exact hxd)) ?_)
    clear hl a; intro a hl
    refine wl (w_call hl hh rfl trivial rfl cal113 rfl (histW W Z hW hg) (by repeat (first | exact keeps_nil | apply keeps_cons (by repeat (first | exact find_head | apply find_tail | apply find_skip)) (by first  | rfl) | exact keeps_self | exact keeps_left | apply keeps_app | apply keeps_mv | apply keeps_skip)) trivial ?_)
    clear hl hh a w; intro vc Fc a w hR hl hh
    obtain ⟨p7, c7, E7, hR7, rfl, rfl⟩ := hR
    try simp only [List.cons_append, List.nil_append, List.append_assoc, List.append_nil] at hh
    try simp only [List.append_assoc, List.cons_append, List.nil_append] at hh
    rw [← hhv] at hl hR7
    refine wl (wl_val hl rfl trivial (r_assign hl rfl) ?_)
    clear hl a; intro a hl
    refine w_nil ?_
    have hl2 := hl.add (t := 0) (hl.add (t := 2) (hl.add (t := 3) (hl.add (t := 4) (hl.add (t := 11) (hl.add (t := 12) (hl.add (t := 13) (hl.add (t := 15) (hl.nil) rfl) rfl) rfl) rfl) rfl) rfl) rfl) rfl; clear hl; have hl := hl2; clear hl2
    refine then_normal ?_
    refine c_seq ?_
    refine c_seq ?_
    refine cut_region (fun a w => ∃ z24 : Nat, (z24 = 0) ∧ Sl 210 [(0, .pointer (some ⟨lb, 0, none⟩)), (2, .int .u32 id9), (3, .int .u8 c9), (4, .slice q sent.length cq), (11, .int .u32 wi), (12, .int .u8 wc), (13, .slice p9 sent.length cw), (15, .slice p7 hv.length c7), (131, .bool false)] a ∧ Has D w0 ((E7 ++ ((lb, C [.pointer (some ⟨wb, 0, none⟩), .pointer (some ⟨mb, 0, none⟩)] 32) :: (mb, C m9.c 82) :: (b1, C (fl idc m9.d.vs ++ j1) 36) :: (m9.d.nE ++ (m9.d.iE ++ ((m9.d.vb, MO (kInt .u32) m9.d.vd) :: (m9.qE ++ (m9.rE ++ (Y ++ (G9 ++ (E9 ++ (((wb, C W.c 55) :: (W.tE ++ (W.gE ++ (DsF W.ds ++ W.GF Z)))) ++ Es)))))))))))) w) ?_ ?_
    ·
      refine c_region ?_
      refine wl (wl_val hl rfl trivial (r_move hl rfl) ?_)
      clear hl a; intro a hl
      refine wl (wl_val hl rfl trivial (r_nilCheck hl rfl) ?_)
      clear hl a; intro a hl
      refine wl (wl_val hl rfl trivial (r_field hl rfl fld32_1) ?_)
      clear hl a; intro a hl
      first | refine wl (w_load hl hh rfl trivial one26 rfl (by repeat (first | exact find_head | apply find_tail | apply find_skip)) (by first | exact mdc_ep _ | exact mdc_a _ | exact mdc_n _ | exact mdc_i _ | exact mdc_ph _ | exact mdc_fid _ | exact mdc_vd _ | exact mdc_up _ | exact mdc_q _ | exact mdc_rf _ | exact mdc_tk _ | exact mdc_au _ | exact mdc_fl _ | exact mdc_fu _ | exact mdc_kp _ | exact duc_ep _ | exact duc_a _ | exact duc_n _ | exact duc_i _ | exact duc_ph _ | exact duc_fid _ | exact duc_vd _ | rfl | exact hcg | exact wc_led W | exact hyd | rfl) ?_) | refine wl (wl_val hl rfl trivial (r_load hl rfl one26 (hh.mem _ _ (by repeat (first | exact hmem7 | exact List.mem_append_left _ hmem7 | apply List.mem_cons_of_mem | apply List.mem_append_right))) (by rw [List.getElem?_toArray]; exact hxd)) ?_)
      clear hl a; intro a hl
      refine wl (wl_val hl rfl trivial (r_nilCheck hl rfl) ?_)
      clear hl a; intro a hl
      refine wl (wl_val hl rfl trivial (r_field hl rfl fld82_1) ?_)
      clear hl a; intro a hl
      first | refine wl (w_load hl hh rfl trivial one4 rfl (by repeat (first | exact find_head | apply find_tail | apply find_skip)) (by first | exact mdc_ep _ | exact mdc_a _ | exact mdc_n _ | exact mdc_i _ | exact mdc_ph _ | exact mdc_fid _ | exact mdc_vd _ | exact mdc_up _ | exact mdc_q _ | exact mdc_rf _ | exact mdc_tk _ | exact mdc_au _ | exact mdc_fl _ | exact mdc_fu _ | exact mdc_kp _ | exact duc_ep _ | exact duc_a _ | exact duc_n _ | exact duc_i _ | exact duc_ph _ | exact duc_fid _ | exact duc_vd _ | rfl | exact hcg | exact wc_led W | exact hyd | rfl) ?_) | refine wl (wl_val hl rfl trivial (r_load hl rfl one4 (hh.mem _ _ (by repeat (first | exact hmem7 | exact List.mem_append_left _ hmem7 | apply List.mem_cons_of_mem | apply List.mem_append_right))) (by rw [List.getElem?_toArray]; exact hxd)) ?_)
      clear hl a; intro a hl
      refine wl (wl_val hl rfl trivial (r_move hl rfl) ?_)
      clear hl a; intro a hl
      refine sl_split (t := 118) hl rfl ?_ ?_
      · intro hg1; clear hl; intro hl
        try simp only [decide_eq_true_eq, decide_eq_false_iff_not, Bool.not_eq_true', Bool.not_eq_false', Bool.not_eq_true, Bool.not_eq_false, Bool.and_eq_true, Bool.or_eq_true, Bool.and_eq_false_iff, Bool.or_eq_false_iff, Bool.not_not, ne_eq, Int.not_lt, Int.not_le, Decidable.not_not, beq_iff_eq, bne_iff_ne] at hg1
        refine wl (wl_val hl rfl ⟨_, _, rfl, rfl, rfl⟩ (r_move hl rfl) ?_)
        clear hl a; intro a hl
        refine wl (wl_val hl rfl ⟨_, _, rfl, rfl, rfl⟩ (r_lenS hl rfl slc72) ?_)
        clear hl a; intro a hl
        refine wl (wl_val hl rfl ⟨_, _, rfl, rfl, rfl⟩ (r_move hl rfl) ?_)
        clear hl a; intro a hl
        refine wl (wl_val hl rfl ⟨_, _, rfl, rfl, rfl⟩ (r_nilCheck hl rfl) ?_)
        clear hl a; intro a hl
        refine wl (wl_val hl rfl ⟨_, _, rfl, rfl, rfl⟩ (r_field hl rfl fld32_1) ?_)
        clear hl a; intro a hl
        first | refine wl (w_load hl hh rfl ⟨_, _, rfl, rfl, rfl⟩ one26 rfl (by repeat (first | exact find_head | apply find_tail | apply find_skip)) (by first | exact mdc_ep _ | exact mdc_a _ | exact mdc_n _ | exact mdc_i _ | exact mdc_ph _ | exact mdc_fid _ | exact mdc_vd _ | exact mdc_up _ | exact mdc_q _ | exact mdc_rf _ | exact mdc_tk _ | exact mdc_au _ | exact mdc_fl _ | exact mdc_fu _ | exact mdc_kp _ | exact duc_ep _ | exact duc_a _ | exact duc_n _ | exact duc_i _ | exact duc_ph _ | exact duc_fid _ | exact duc_vd _ | rfl | exact hcg | exact wc_led W | exact hyd | rfl) ?_) | refine wl (wl_val hl rfl ⟨_, _, rfl, rfl, rfl⟩ (r_load hl rfl one26 (hh.mem _ _ (by repeat (first | exact hmem7 | exact List.mem_append_left _ hmem7 | apply List.mem_cons_of_mem | apply List.mem_append_right))) (by rw [List.getElem?_toArray]; exact hxd)) ?_)
        clear hl a; intro a hl
        refine wl (wl_val hl rfl ⟨_, _, rfl, rfl, rfl⟩ (r_nilCheck hl rfl) ?_)
        clear hl a; intro a hl
        refine wl (wl_val hl rfl ⟨_, _, rfl, rfl, rfl⟩ (r_field hl rfl fld82_0) ?_)
        clear hl a; intro a hl
        refine wl (wl_val hl rfl ⟨_, _, rfl, rfl, rfl⟩ (r_field hl rfl fld78_1) ?_)
        clear hl a; intro a hl
        first | refine wl (w_load hl hh rfl ⟨_, _, rfl, rfl, rfl⟩ one72 rfl (by repeat (first | exact find_head | apply find_tail | apply find_skip)) (by first | exact mdc_ep _ | exact mdc_a _ | exact mdc_n _ | exact mdc_i _ | exact mdc_ph _ | exact mdc_fid _ | exact mdc_vd _ | exact mdc_up _ | exact mdc_q _ | exact mdc_rf _ | exact mdc_tk _ | exact mdc_au _ | exact mdc_fl _ | exact mdc_fu _ | exact mdc_kp _ | exact duc_ep _ | exact duc_a _ | exact duc_n _ | exact duc_i _ | exact duc_ph _ | exact duc_fid _ | exact duc_vd _ | rfl | exact hcg | exact wc_led W | exact hyd | rfl) ?_) | refine wl (wl_val hl rfl ⟨_, _, rfl, rfl, rfl⟩ (r_load hl rfl one72 (hh.mem _ _ (by repeat (first | exact hmem7 | exact List.mem_append_left _ hmem7 | apply List.mem_cons_of_mem | apply List.mem_append_right))) (by rw [List.getElem?_toArray]; exact hxd)) ?_)
        clear hl a; intro a hl
        refine wl (wl_val hl rfl ⟨_, _, rfl, rfl, rfl⟩ (r_lenS hl rfl slc72) ?_)
        clear hl a; intro a hl
        refine wl (wl_val hl rfl ⟨_, _, rfl, rfl, rfl⟩ (r_neq hl rfl rfl) ?_)
        clear hl a; intro a hl
        rw [decide_eq_false (show ¬ ((hv.length : Int) ≠ (m9.d.vs.length : Int)) from fun h9 => h9 (by rw [hup0 (by assumption)]))] at hl
        refine wl (wl_val hl rfl trivial (r_pickT hl rfl rfl) ?_)
        clear hl a; intro a hl
        refine w_nil ?_
        first | exact ⟨rfl, 0, rfl, hl.addE (t := 0) (hl.addE (t := 2) (hl.addE (t := 3) (hl.addE (t := 4) (hl.addE (t := 11) (hl.addE (t := 12) (hl.addE (t := 13) (hl.addE (t := 15) (hl.addE (t := 131) (hl.nil) rfl (by first | rfl)) rfl (by first | rfl)) rfl (by first | rfl)) rfl (by first | rfl)) rfl (by first | rfl)) rfl (by first | rfl)) rfl (by first | rfl)) rfl (by first | rfl)) rfl (by first | rfl), hh.keep (by repeat (first | exact keeps_nil | apply keeps_cons (by repeat (first | exact find_head | apply find_tail | apply find_skip)) (by first  | rfl) | exact keeps_self | exact keeps_left | apply keeps_app | apply keeps_mv | apply keeps_skip))⟩ | exact ⟨rfl, 0, rfl, hl.addE (t := 0) (hl.addE (t := 2) (hl.addE (t := 3) (hl.addE (t := 4) (hl.addE (t := 11) (hl.addE (t := 12) (hl.addE (t := 13) (hl.addE (t := 15) (hl.addE (t := 131) (hl.nil) rfl (by first | rfl)) rfl (by first | rfl)) rfl (by first | rfl)) rfl (by first | rfl)) rfl (by first | rfl)) rfl (by first | rfl)) rfl (by first | rfl)) rfl (by first | rfl)) rfl (by first | rfl), hh.keep (by repeat (first | exact keeps_nil | apply keeps_cons (by repeat (first | exact find_head | apply find_tail | apply find_skip)) (by first  | rfl) | exact keeps_self | exact keeps_left | apply keeps_app | apply keeps_mv | apply keeps_skip))⟩
      · intro hg1; clear hl; intro hl
        try simp only [decide_eq_true_eq, decide_eq_false_iff_not, Bool.not_eq_true', Bool.not_eq_false', Bool.not_eq_true, Bool.not_eq_false, Bool.and_eq_true, Bool.or_eq_true, Bool.and_eq_false_iff, Bool.or_eq_false_iff, Bool.not_not, ne_eq, Int.not_lt, Int.not_le, Decidable.not_not, beq_iff_eq, bne_iff_ne] at hg1
        refine wl (wl_skip hl rfl ⟨_, _, rfl, rfl, rfl⟩ ?_)
        clear hl a; intro a hl
        refine wl (wl_skip hl rfl ⟨_, _, rfl, rfl, rfl⟩ ?_)
        clear hl a; intro a hl
        refine wl (wl_skip hl rfl ⟨_, _, rfl, rfl, rfl⟩ ?_)
        clear hl a; intro a hl
        refine wl (wl_skip hl rfl ⟨_, _, rfl, rfl, rfl⟩ ?_)
        clear hl a; intro a hl
        refine wl (wl_skip hl rfl ⟨_, _, rfl, rfl, rfl⟩ ?_)
        clear hl a; intro a hl
        refine wl (wl_skip hl rfl ⟨_, _, rfl, rfl, rfl⟩ ?_)
        clear hl a; intro a hl
        refine wl (wl_skip hl rfl ⟨_, _, rfl, rfl, rfl⟩ ?_)
        clear hl a; intro a hl
        refine wl (wl_skip hl rfl ⟨_, _, rfl, rfl, rfl⟩ ?_)
        clear hl a; intro a hl
        refine wl (wl_skip hl rfl ⟨_, _, rfl, rfl, rfl⟩ ?_)
        clear hl a; intro a hl
        refine wl (wl_skip hl rfl ⟨_, _, rfl, rfl, rfl⟩ ?_)
        clear hl a; intro a hl
        refine wl (wl_skip hl rfl ⟨_, _, rfl, rfl, rfl⟩ ?_)
        clear hl a; intro a hl
        refine wl (wl_skip hl rfl ⟨_, _, rfl, rfl, rfl⟩ ?_)
        clear hl a; intro a hl
        refine wl (wl_val hl rfl trivial (r_pickF hl rfl rfl) ?_)
        clear hl a; intro a hl
        refine w_nil ?_
        first | exact ⟨rfl, 0, rfl, hl.addE (t := 0) (hl.addE (t := 2) (hl.addE (t := 3) (hl.addE (t := 4) (hl.addE (t := 11) (hl.addE (t := 12) (hl.addE (t := 13) (hl.addE (t := 15) (hl.addE (t := 131) (hl.nil) rfl (by first | rfl)) rfl (by first | rfl)) rfl (by first | rfl)) rfl (by first | rfl)) rfl (by first | rfl)) rfl (by first | rfl)) rfl (by first | rfl)) rfl (by first | rfl)) rfl (by first | rfl), hh.keep (by repeat (first | exact keeps_nil | apply keeps_cons (by repeat (first | exact find_head | apply find_tail | apply find_skip)) (by first  | rfl) | exact keeps_self | exact keeps_left | apply keeps_app | apply keeps_mv | apply keeps_skip))⟩ | exact ⟨rfl, 0, rfl, hl.addE (t := 0) (hl.addE (t := 2) (hl.addE (t := 3) (hl.addE (t := 4) (hl.addE (t := 11) (hl.addE (t := 12) (hl.addE (t := 13) (hl.addE (t := 15) (hl.addE (t := 131) (hl.nil) rfl (by first | rfl)) rfl (by first | rfl)) rfl (by first | rfl)) rfl (by first | rfl)) rfl (by first | rfl)) rfl (by first | rfl)) rfl (by first | rfl)) rfl (by first | rfl)) rfl (by first | rfl), hh.keep (by repeat (first | exact keeps_nil | apply keeps_cons (by repeat (first | exact find_head | apply find_tail | apply find_skip)) (by first  | rfl) | exact keeps_self | exact keeps_left | apply keeps_app | apply keeps_mv | apply keeps_skip))⟩
    ·
      clear hl hh a w; intro a w hI
      obtain ⟨z24, hz24, hl, hh⟩ := hI
      have hl2 := hl.add (t := 0) (hl.add (t := 2) (hl.add (t := 3) (hl.add (t := 4) (hl.add (t := 11) (hl.add (t := 12) (hl.add (t := 13) (hl.add (t := 15) (hl.add (t := 131) (hl.nil) rfl) rfl) rfl) rfl) rfl) rfl) rfl) rfl) rfl; clear hl; have hl := hl2; clear hl2
      refine then_normal ?_
      refine c_cond hl rfl ?_ ?_
      · intro hc8
        try simp only [decide_eq_true_eq, decide_eq_false_iff_not, Bool.not_eq_true', Bool.not_eq_false', Bool.not_eq_true, Bool.not_eq_false, Bool.and_eq_true, Bool.or_eq_true, Bool.and_eq_false_iff, Bool.or_eq_false_iff, Bool.not_not, ne_eq, Int.not_lt, Int.not_le, Decidable.not_not, beq_iff_eq, bne_iff_ne] at hc8
        exfalso; first | contradiction | (cases hc8; done)
      · intro hc8
        try simp only [decide_eq_true_eq, decide_eq_false_iff_not, Bool.not_eq_true', Bool.not_eq_false', Bool.not_eq_true, Bool.not_eq_false, Bool.and_eq_true, Bool.or_eq_true, Bool.and_eq_false_iff, Bool.or_eq_false_iff, Bool.not_not, ne_eq, Int.not_lt, Int.not_le, Decidable.not_not, beq_iff_eq, bne_iff_ne] at hc8
        refine wp_skip ?_
        refine then_normal ?_
        refine c_seq ?_
        refine c_seq ?_
        refine c_region ?_
        refine wl (wl_val hl rfl trivial (r_move hl rfl) ?_)
        clear hl a; intro a hl
        refine wl (wl_val hl rfl trivial (r_lenS hl rfl slc72) ?_)
        clear hl a; intro a hl
        refine wl (wl_val hl rfl trivial (r_move hl rfl) ?_)
        clear hl a; intro a hl
        refine w_nil ?_
        have hl2 := hl.add (t := 0) (hl.add (t := 2) (hl.add (t := 3) (hl.add (t := 4) (hl.add (t := 11) (hl.add (t := 12) (hl.add (t := 13) (hl.add (t := 15) (hl.add (t := 133) (hl.add (t := 134) (hl.nil) rfl) rfl) rfl) rfl) rfl) rfl) rfl) rfl) rfl) rfl; clear hl; have hl := hl2; clear hl2
        refine then_normal ?_
        refine wp_block ?_
        obtain ⟨KS0, hKS0, hk⟩ := (hl.add (t := 0) (hl.add (t := 2) (hl.add (t := 3) (hl.add (t := 4) (hl.add (t := 11) (hl.add (t := 12) (hl.add (t := 13) (hl.add (t := 15) (hl.add (t := 133) (hl.nil) rfl) rfl) rfl) rfl) rfl) rfl) rfl) rfl) rfl).name
        obtain ⟨HS0, hHS0, hh2⟩ := hh.name (keeps_nil)
        refine c_loop (α := Nat) (fun j => hv.length - j) (fun j a w => (j ≤ hv.length) ∧ Sl 210 ([(134, .int .i64 (j : Int))] ++ KS0) a ∧ Has _ w0 ([] ++ HS0) w) 0 ⟨Nat.zero_le _, hl.addE (t := 134) (hk) rfl (by first | rfl), hh2⟩ ?_
        clear hk hh2 hl hh a w
        intro j a w hI
        obtain ⟨hj, hl, hh⟩ := hI
        subst hKS0; subst hHS0
        simp only [List.cons_append, List.nil_append, List.append_nil, List.append_assoc] at hl hh
        refine c_seq ?_
        refine c_region ?_
        refine wl (wl_val hl rfl trivial (r_lss hl rfl rfl) ?_)
        clear hl a; intro a hl
        refine w_nil ?_
        have hl2 := hl.add (t := 0) (hl.add (t := 2) (hl.add (t := 3) (hl.add (t := 4) (hl.add (t := 11) (hl.add (t := 12) (hl.add (t := 13) (hl.add (t := 15) (hl.add (t := 133) (hl.add (t := 134) (hl.add (t := 135) (hl.nil) rfl) rfl) rfl) rfl) rfl) rfl) rfl) rfl) rfl) rfl) rfl; clear hl; have hl := hl2; clear hl2
        refine then_normal ?_
        refine c_seq ?_
        refine c_cond hl rfl ?_ ?_
        · intro hc9
          try simp only [decide_eq_true_eq, decide_eq_false_iff_not, Bool.not_eq_true', Bool.not_eq_false', Bool.not_eq_true, Bool.not_eq_false, Bool.and_eq_true, Bool.or_eq_true, Bool.and_eq_false_iff, Bool.or_eq_false_iff, Bool.not_not, ne_eq, Int.not_lt, Int.not_le, Decidable.not_not, beq_iff_eq, bne_iff_ne] at hc9
          obtain ⟨x, hx⟩ : ∃ x, hv[j]? = some x := ⟨_, List.getElem?_eq_getElem (by omega)⟩
          obtain ⟨y, hy, hxy⟩ := hvI j x hx
          have hyl := (List.getElem?_eq_some_iff.1 hy).1
          obtain ⟨b7, j7, hq7, hjl7, hjc7, hE7⟩ := row_pos hR7 (by omega)
          have hmem7 : (b7, C (fl idc hv ++ j7) 36) ∈ E7 := by rw [hE7]; exact List.mem_singleton.2 rfl
          have hxd := id_at9 hx j7
          have hyd := id_at9 hy j1
          rw [hq7] at hl
          refine wp_skip ?_
          refine then_normal ?_
          refine c_seq ?_
          refine wp_block ?_
          refine c_seq ?_
          refine c_region ?_
          refine wl (wl_val hl rfl trivial (r_move hl rfl) ?_)
          clear hl a; intro a hl
          refine wl (wl_val hl rfl trivial (r_assign hl rfl) ?_)
          clear hl a; intro a hl
          refine w_nil ?_
          have hl2 := hl.add (t := 0) (hl.add (t := 2) (hl.add (t := 3) (hl.add (t := 4) (hl.add (t := 11) (hl.add (t := 12) (hl.add (t := 13) (hl.add (t := 15) (hl.add (t := 16) (hl.add (t := 133) (hl.add (t := 134) (hl.nil) rfl) rfl) rfl) rfl) rfl) rfl) rfl) rfl) rfl) rfl) rfl; clear hl; have hl := hl2; clear hl2
          refine then_normal ?_
          refine c_seq ?_
          refine c_draw [(lb, C [.pointer (some ⟨wb, 0, none⟩), .pointer (some ⟨mb, 0, none⟩)] 32), (mb, C m9.c 82), (b1, C (fl idc m9.d.vs ++ j1) 36)] [15] mixed hh ?_
          clear hh w; intro w hh
          have hM : Mem [(lb, C [.pointer (some ⟨wb, 0, none⟩), .pointer (some ⟨mb, 0, none⟩)] 32), (mb, C m9.c 82), (b1, C (fl idc m9.d.vs ++ j1) 36)] w := (memK hh (by repeat (first | exact keeps_nil | apply keeps_cons (by repeat (first | exact find_head | apply find_tail | apply find_skip)) (by first  | rfl) | exact keeps_self | exact keeps_left | apply keeps_app | apply keeps_mv | apply keeps_skip)))
          refine d_take (i := 0) hl rfl (by kernel_rfl) (by kernel_rfl) (by kernel_rfl) (by kernel_rfl) (by kernel_rfl) rfl trivial (fun _ _ _ h => h) hM (fun w hC => r_move hl rfl) rfl ?_
          clear hl a; intro a hl
          refine d_take (i := 1) hl rfl (by kernel_rfl) (by kernel_rfl) (by kernel_rfl) (by kernel_rfl) (by kernel_rfl) rfl trivial (fun _ _ _ h => h) hM (fun w hC => r_move hl rfl) rfl ?_
          clear hl a; intro a hl
          refine d_take (i := 2) hl rfl (by kernel_rfl) (by kernel_rfl) (by kernel_rfl) (by kernel_rfl) (by kernel_rfl) rfl trivial (fun _ _ _ h => h) hM (fun w hC => r_indexS hl rfl rfl slc72 (by omega) (by omega) (by first | (simp only [Int.reduceToNat]; rfl) | exact toNat_add1 _ | exact toNat_add2 _ _ | exact toNat_emod _ _ | exact Int.toNat_natCast _ | rfl)) rfl ?_
          clear hl a; intro a hl
          refine d_take (i := 4) hl rfl (by kernel_rfl) (by kernel_rfl) (by kernel_rfl) (by kernel_rfl) (by kernel_rfl) rfl trivial (fun _ _ _ h => h) hM (fun w hC => r_move hl rfl) rfl ?_
          clear hl a; intro a hl
          refine d_take (i := 5) hl rfl (by kernel_rfl) (by kernel_rfl) (by kernel_rfl) (by kernel_rfl) (by kernel_rfl) rfl trivial (fun _ _ _ h => h) hM (fun w hC => r_nilCheck hl rfl) rfl ?_
          clear hl a; intro a hl
          refine d_take (i := 6) hl rfl (by kernel_rfl) (by kernel_rfl) (by kernel_rfl) (by kernel_rfl) (by kernel_rfl) rfl trivial (fun _ _ _ h => h) hM (fun w hC => r_field hl rfl fld32_1) rfl ?_
          clear hl a; intro a hl
          refine d_take (i := 7) hl rfl (by kernel_rfl) (by kernel_rfl) (by kernel_rfl) (by kernel_rfl) (by kernel_rfl) rfl trivial (fun _ _ _ h => h) hM (fun w hC => r_loadC hl rfl one26 hC (by repeat (first | exact find_head | apply find_tail | apply find_skip)) (by first | exact mdc_ep _ | exact mdc_a _ | exact mdc_n _ | exact mdc_i _ | exact mdc_ph _ | exact mdc_fid _ | exact mdc_vd _ | exact mdc_up _ | exact mdc_q _ | exact mdc_rf _ | exact mdc_tk _ | exact mdc_au _ | exact mdc_fl _ | exact mdc_fu _ | exact mdc_kp _ | exact duc_ep _ | exact duc_a _ | exact duc_n _ | exact duc_i _ | exact duc_ph _ | exact duc_fid _ | exact duc_vd _ | rfl | exact hcg | exact wc_led W | exact hyd | rfl)) rfl ?_
          clear hl a; intro a hl
          refine d_take (i := 8) hl rfl (by kernel_rfl) (by kernel_rfl) (by kernel_rfl) (by kernel_rfl) (by kernel_rfl) rfl trivial (fun _ _ _ h => h) hM (fun w hC => r_nilCheck hl rfl) rfl ?_
          clear hl a; intro a hl
          refine d_take (i := 9) hl rfl (by kernel_rfl) (by kernel_rfl) (by kernel_rfl) (by kernel_rfl) (by kernel_rfl) rfl trivial (fun _ _ _ h => h) hM (fun w hC => r_field hl rfl fld82_0) rfl ?_
          clear hl a; intro a hl
          refine d_take (i := 10) hl rfl (by kernel_rfl) (by kernel_rfl) (by kernel_rfl) (by kernel_rfl) (by kernel_rfl) rfl trivial (fun _ _ _ h => h) hM (fun w hC => r_field hl rfl fld78_1) rfl ?_
          clear hl a; intro a hl
          refine d_take (i := 11) hl rfl (by kernel_rfl) (by kernel_rfl) (by kernel_rfl) (by kernel_rfl) (by kernel_rfl) rfl trivial (fun _ _ _ h => h) hM (fun w hC => r_loadC hl rfl one72 hC (by repeat (first | exact find_head | apply find_tail | apply find_skip)) (by first | exact mdc_ep _ | exact mdc_a _ | exact mdc_n _ | exact mdc_i _ | exact mdc_ph _ | exact mdc_fid _ | exact mdc_vd _ | exact mdc_up _ | exact mdc_q _ | exact mdc_rf _ | exact mdc_tk _ | exact mdc_au _ | exact mdc_fl _ | exact mdc_fu _ | exact mdc_kp _ | exact duc_ep _ | exact duc_a _ | exact duc_n _ | exact duc_i _ | exact duc_ph _ | exact duc_fid _ | exact duc_vd _ | rfl | exact hcg | exact wc_led W | exact hyd | rfl)) rfl ?_
          clear hl a; intro a hl
          rw [hq1] at hl
          refine d_take (i := 12) hl rfl (by kernel_rfl) (by kernel_rfl) (by kernel_rfl) (by kernel_rfl) (by kernel_rfl) rfl trivial (fun _ _ _ h => h) hM (fun w hC => r_move hl rfl) rfl ?_
          clear hl a; intro a hl
          refine d_take (i := 13) hl rfl (by kernel_rfl) (by kernel_rfl) (by kernel_rfl) (by kernel_rfl) (by kernel_rfl) rfl trivial (fun _ _ _ h => h) hM (fun w hC => r_indexS hl rfl rfl slc72 (by omega) (by omega) (by first | (simp only [Int.reduceToNat]; rfl) | exact toNat_add1 _ | exact toNat_add2 _ _ | exact toNat_emod _ _ | exact Int.toNat_natCast _ | rfl)) rfl ?_
          clear hl a; intro a hl
          refine d_take (i := 14) hl rfl (by kernel_rfl) (by kernel_rfl) (by kernel_rfl) (by kernel_rfl) (by kernel_rfl) rfl trivial (fun _ _ _ h => h) hM (fun w hC => r_loadC hl rfl one36 hC (by repeat (first | exact find_head | apply find_tail | apply find_skip)) (by first | exact mdc_ep _ | exact mdc_a _ | exact mdc_n _ | exact mdc_i _ | exact mdc_ph _ | exact mdc_fid _ | exact mdc_vd _ | exact mdc_up _ | exact mdc_q _ | exact mdc_rf _ | exact mdc_tk _ | exact mdc_au _ | exact mdc_fl _ | exact mdc_fu _ | exact mdc_kp _ | exact duc_ep _ | exact duc_a _ | exact duc_n _ | exact duc_i _ | exact duc_ph _ | exact duc_fid _ | exact duc_vd _ | rfl | exact hcg | exact wc_led W | exact hyd | rfl)) rfl ?_
          clear hl a; intro a hl
          refine d_one (i := 3) (by kernel_rfl) rfl ?_
          try clear hM
          first | refine id (w_load hl hh rfl trivial one36 rfl (by repeat (first | exact find_head | apply find_tail | apply find_skip)) (by first | exact mdc_ep _ | exact mdc_a _ | exact mdc_n _ | exact mdc_i _ | exact mdc_ph _ | exact mdc_fid _ | exact mdc_vd _ | exact mdc_up _ | exact mdc_q _ | exact mdc_rf _ | exact mdc_tk _ | exact mdc_au _ | exact mdc_fl _ | exact mdc_fu _ | exact mdc_kp _ | exact duc_ep _ | exact duc_a _ | exact duc_n _ | exact duc_i _ | exact duc_ph _ | exact duc_fid _ | exact duc_vd _ | rfl | exact hcg | exact wc_led W | exact hyd | rfl) ?_) | refine id (wl_val hl rfl trivial (r_load hl rfl one36 (hh.mem _ _ (by repeat (first | exact hmem7 | exact List.mem_append_left _ hmem7 | apply List.mem_cons_of_mem | apply List.mem_append_right))) (by rw [List.getElem?_toArray]; exact hxd)) ?_)
          clear hl a; intro a hl
          have hM : Mem [(lb, C [.pointer (some ⟨wb, 0, none⟩), .pointer (some ⟨mb, 0, none⟩)] 32), (mb, C m9.c 82), (b1, C (fl idc m9.d.vs ++ j1) 36)] w := (memK hh (by repeat (first | exact keeps_nil | apply keeps_cons (by repeat (first | exact find_head | apply find_tail | apply find_skip)) (by first  | rfl) | exact keeps_self | exact keeps_left | apply keeps_app | apply keeps_mv | apply keeps_skip)))
          refine d_step (fun _ => hM) ?_
          refine d_takeL (i := 15) hl rfl (by kernel_rfl) (by kernel_rfl) (by kernel_rfl) (by kernel_rfl) (by kernel_rfl) rfl trivial (fun _ _ _ h => h) (fun w => r_neq hl rfl rfl) rfl ?_
          clear hl a; intro a hl
          refine d_done (by kernel_rfl) ?_
          try clear hM
          have hl2 := hl.add (t := 0) (hl.add (t := 2) (hl.add (t := 3) (hl.add (t := 4) (hl.add (t := 11) (hl.add (t := 12) (hl.add (t := 13) (hl.add (t := 15) (hl.add (t := 133) (hl.add (t := 134) (hl.add (t := 152) (hl.nil) rfl) rfl) rfl) rfl) rfl) rfl) rfl) rfl) rfl) rfl) rfl; clear hl; have hl := hl2; clear hl2
          refine then_normal ?_
          refine c_cond hl rfl ?_ ?_
          · intro hc10
            try simp only [decide_eq_true_eq, decide_eq_false_iff_not, Bool.not_eq_true', Bool.not_eq_false', Bool.not_eq_true, Bool.not_eq_false, Bool.and_eq_true, Bool.or_eq_true, Bool.and_eq_false_iff, Bool.or_eq_false_iff, Bool.not_not, ne_eq, Int.not_lt, Int.not_le, Decidable.not_not, beq_iff_eq, bne_iff_ne] at hc10
            exfalso; first | contradiction | omega
          · intro hc10
            try simp only [decide_eq_true_eq, decide_eq_false_iff_not, Bool.not_eq_true', Bool.not_eq_false', Bool.not_eq_true, Bool.not_eq_false, Bool.and_eq_true, Bool.or_eq_true, Bool.and_eq_false_iff, Bool.or_eq_false_iff, Bool.not_not, ne_eq, Int.not_lt, Int.not_le, Decidable.not_not, beq_iff_eq, bne_iff_ne] at hc10
            refine wp_skip ?_
            refine blk_normal ?_
            refine then_normal ?_
            refine c_region ?_
            first | refine wl (wl_val hl rfl trivial (r_add hl rfl rfl (by simp only [Fits]; omega)) ?_) | refine wl (wl_val hl rfl trivial (r_addW hl rfl rfl) ?_)
            clear hl a; intro a hl
            refine wl (wl_val hl rfl trivial (r_move hl rfl) ?_)
            clear hl a; intro a hl
            refine w_nil ?_
            have hl2 := hl.add (t := 0) (hl.add (t := 2) (hl.add (t := 3) (hl.add (t := 4) (hl.add (t := 11) (hl.add (t := 12) (hl.add (t := 13) (hl.add (t := 15) (hl.add (t := 133) (hl.add (t := 134) (hl.nil) rfl) rfl) rfl) rfl) rfl) rfl) rfl) rfl) rfl) rfl; clear hl; have hl := hl2; clear hl2
            refine then_normal ?_
            refine ⟨j + 1, (by omega), (by omega), hl.addE (t := 134) (hl.addE (t := 0) (hl.addE (t := 2) (hl.addE (t := 3) (hl.addE (t := 4) (hl.addE (t := 11) (hl.addE (t := 12) (hl.addE (t := 13) (hl.addE (t := 15) (hl.addE (t := 133) (hl.nil) rfl (by first | rfl | exact congrArg (Value.int .i64) (show (j : Int) + 1 = ((j + 1 : Nat) : Int) by omega) | (rw [hq7]))) rfl (by first | rfl | exact congrArg (Value.int .i64) (show (j : Int) + 1 = ((j + 1 : Nat) : Int) by omega) | (rw [hq7]))) rfl (by first | rfl | exact congrArg (Value.int .i64) (show (j : Int) + 1 = ((j + 1 : Nat) : Int) by omega) | (rw [hq7]))) rfl (by first | rfl | exact congrArg (Value.int .i64) (show (j : Int) + 1 = ((j + 1 : Nat) : Int) by omega) | (rw [hq7]))) rfl (by first | rfl | exact congrArg (Value.int .i64) (show (j : Int) + 1 = ((j + 1 : Nat) : Int) by omega) | (rw [hq7]))) rfl (by first | rfl | exact congrArg (Value.int .i64) (show (j : Int) + 1 = ((j + 1 : Nat) : Int) by omega) | (rw [hq7]))) rfl (by first | rfl | exact congrArg (Value.int .i64) (show (j : Int) + 1 = ((j + 1 : Nat) : Int) by omega) | (rw [hq7]))) rfl (by first | rfl | exact congrArg (Value.int .i64) (show (j : Int) + 1 = ((j + 1 : Nat) : Int) by omega) | (rw [hq7]))) rfl (by first | rfl | exact congrArg (Value.int .i64) (show (j : Int) + 1 = ((j + 1 : Nat) : Int) by omega) | (rw [hq7]))) rfl (by first | rfl | exact congrArg (Value.int .i64) (show (j : Int) + 1 = ((j + 1 : Nat) : Int) by omega) | (rw [hq7])), hh.keep (by repeat (first | exact keeps_nil | apply keeps_cons (by repeat (first | exact find_head | apply find_tail | apply find_skip)) (by first  | rfl) | exact keeps_self | exact keeps_left | apply keeps_app | apply keeps_mv | apply keeps_skip))⟩
        · intro hc9
          try simp only [decide_eq_true_eq, decide_eq_false_iff_not, Bool.not_eq_true', Bool.not_eq_false', Bool.not_eq_true, Bool.not_eq_false, Bool.and_eq_true, Bool.or_eq_true, Bool.and_eq_false_iff, Bool.or_eq_false_iff, Bool.not_not, ne_eq, Int.not_lt, Int.not_le, Decidable.not_not, beq_iff_eq, bne_iff_ne] at hc9
          refine wp_exit ?_
          refine then_exit ?_
          refine then_exit ?_
          refine blk_exit ?_
          refine then_normal ?_
          refine c_seq ?_
          refine c_draw [(lb, C [.pointer (some ⟨wb, 0, none⟩), .pointer (some ⟨mb, 0, none⟩)] 32), (mb, C m9.c 82), (wb, C W.c 55)] [] mixed hh ?_
          clear hh w; intro w hh
          have hM : Mem [(lb, C [.pointer (some ⟨wb, 0, none⟩), .pointer (some ⟨mb, 0, none⟩)] 32), (mb, C m9.c 82), (wb, C W.c 55)] w := (memK hh (by repeat (first | exact keeps_nil | apply keeps_cons (by repeat (first | exact find_head | apply find_tail | apply find_skip)) (by first  | rfl) | exact keeps_self | exact keeps_left | apply keeps_app | apply keeps_mv | apply keeps_skip)))
          refine d_take (i := 0) hl rfl (by kernel_rfl) (by kernel_rfl) (by kernel_rfl) (by kernel_rfl) (by kernel_rfl) rfl trivial (fun _ _ _ h => h) hM (fun w hC => r_move hl rfl) rfl ?_
          clear hl a; intro a hl
          refine d_take (i := 1) hl rfl (by kernel_rfl) (by kernel_rfl) (by kernel_rfl) (by kernel_rfl) (by kernel_rfl) rfl trivial (fun _ _ _ h => h) hM (fun w hC => r_move hl rfl) rfl ?_
          clear hl a; intro a hl
          refine d_take (i := 2) hl rfl (by kernel_rfl) (by kernel_rfl) (by kernel_rfl) (by kernel_rfl) (by kernel_rfl) rfl trivial (fun _ _ _ h => h) hM (fun w hC => r_eql hl rfl rfl) rfl ?_
          clear hl a; intro a hl
          rw [decide_eq_true hidw] at hl
          refine d_take (i := 3) hl rfl (by kernel_rfl) (by kernel_rfl) (by kernel_rfl) (by kernel_rfl) (by kernel_rfl) rfl trivial (fun _ _ _ h => h) hM (fun w hC => r_move hl rfl) rfl ?_
          clear hl a; intro a hl
          refine d_take (i := 4) hl rfl (by kernel_rfl) (by kernel_rfl) (by kernel_rfl) (by kernel_rfl) (by kernel_rfl) rfl ⟨_, _, rfl, rfl, rfl⟩ (fun _ _ _ h => h) hM (fun w hC => r_move hl rfl) rfl ?_
          clear hl a; intro a hl
          refine d_take (i := 5) hl rfl (by kernel_rfl) (by kernel_rfl) (by kernel_rfl) (by kernel_rfl) (by kernel_rfl) rfl ⟨_, _, rfl, rfl, rfl⟩ (fun _ _ _ h => h) hM (fun w hC => r_move hl rfl) rfl ?_
          clear hl a; intro a hl
          refine d_take (i := 6) hl rfl (by kernel_rfl) (by kernel_rfl) (by kernel_rfl) (by kernel_rfl) (by kernel_rfl) rfl ⟨_, _, rfl, rfl, rfl⟩ (fun _ _ _ h => h) hM (fun w hC => r_eql hl rfl rfl) rfl ?_
          clear hl a; intro a hl
          rw [decide_eq_true hcw] at hl
          refine d_take (i := 7) hl rfl (by kernel_rfl) (by kernel_rfl) (by kernel_rfl) (by kernel_rfl) (by kernel_rfl) rfl trivial (fun _ _ _ h => h) hM (fun w hC => r_pickT hl rfl rfl) rfl ?_
          clear hl a; intro a hl
          refine d_take (i := 8) hl rfl (by kernel_rfl) (by kernel_rfl) (by kernel_rfl) (by kernel_rfl) (by kernel_rfl) rfl trivial (fun _ _ _ h => h) hM (fun w hC => r_move hl rfl) rfl ?_
          clear hl a; intro a hl
          refine d_take (i := 9) hl rfl (by kernel_rfl) (by kernel_rfl) (by kernel_rfl) (by kernel_rfl) (by kernel_rfl) rfl ⟨_, _, rfl, rfl, rfl⟩ (fun _ _ _ h => h) hM (fun w hC => r_move hl rfl) rfl ?_
          clear hl a; intro a hl
          refine d_take (i := 10) hl rfl (by kernel_rfl) (by kernel_rfl) (by kernel_rfl) (by kernel_rfl) (by kernel_rfl) rfl ⟨_, _, rfl, rfl, rfl⟩ (fun _ _ _ h => h) hM (fun w hC => r_move hl rfl) rfl ?_
          clear hl a; intro a hl
          refine d_one (i := 11) (by kernel_rfl) rfl ?_
          try clear hM
          refine id (w_call hl hh rfl ⟨_, _, rfl, rfl, rfl⟩ rfl cal101 rfl (smsg_spec sent hso hz8 (by omega) q p9 cq cw Es E9 hR hR8) (by repeat (first | exact keeps_nil | apply keeps_cons (by repeat (first | exact find_head | apply find_tail | apply find_skip)) (by first  | rfl) | exact keeps_self | exact keeps_left | apply keeps_app | apply keeps_mv | apply keeps_skip)) trivial ?_)
          clear hl hh a w; intro vc Fc a w hR hl hh
          obtain ⟨rfl, rfl⟩ := hR
          try simp only [List.cons_append, List.nil_append, List.append_assoc, List.append_nil] at hh
          have hM : Mem [(lb, C [.pointer (some ⟨wb, 0, none⟩), .pointer (some ⟨mb, 0, none⟩)] 32), (mb, C m9.c 82), (wb, C W.c 55)] w := (memK hh (by repeat (first | exact keeps_nil | apply keeps_cons (by repeat (first | exact find_head | apply find_tail | apply find_skip)) (by first  | rfl) | exact keeps_self | exact keeps_left | apply keeps_app | apply keeps_mv | apply keeps_skip)))
          refine d_step (fun _ => hM) ?_
          refine d_take (i := 12) hl rfl (by kernel_rfl) (by kernel_rfl) (by kernel_rfl) (by kernel_rfl) (by kernel_rfl) rfl trivial (fun _ _ _ h => h) hM (fun w hC => r_pickT hl rfl rfl) rfl ?_
          clear hl a; intro a hl
          refine d_take (i := 13) hl rfl (by kernel_rfl) (by kernel_rfl) (by kernel_rfl) (by kernel_rfl) (by kernel_rfl) rfl trivial (fun _ _ _ h => h) hM (fun w hC => r_move hl rfl) rfl ?_
          clear hl a; intro a hl
          refine d_take (i := 14) hl rfl (by kernel_rfl) (by kernel_rfl) (by kernel_rfl) (by kernel_rfl) (by kernel_rfl) rfl ⟨_, _, rfl, rfl, rfl⟩ (fun _ _ _ h => h) hM (fun w hC => r_move hl rfl) rfl ?_
          clear hl a; intro a hl
          refine d_take (i := 15) hl rfl (by kernel_rfl) (by kernel_rfl) (by kernel_rfl) (by kernel_rfl) (by kernel_rfl) rfl ⟨_, _, rfl, rfl, rfl⟩ (fun _ _ _ h => h) hM (fun w hC => r_nilCheck hl rfl) rfl ?_
          clear hl a; intro a hl
          refine d_take (i := 16) hl rfl (by kernel_rfl) (by kernel_rfl) (by kernel_rfl) (by kernel_rfl) (by kernel_rfl) rfl ⟨_, _, rfl, rfl, rfl⟩ (fun _ _ _ h => h) hM (fun w hC => r_field hl rfl fld32_1) rfl ?_
          clear hl a; intro a hl
          refine d_take (i := 17) hl rfl (by kernel_rfl) (by kernel_rfl) (by kernel_rfl) (by kernel_rfl) (by kernel_rfl) rfl ⟨_, _, rfl, rfl, rfl⟩ (fun _ _ _ h => h) hM (fun w hC => r_loadC hl rfl one26 hC (by repeat (first | exact find_head | apply find_tail | apply find_skip)) (by first | exact mdc_ep _ | exact mdc_a _ | exact mdc_n _ | exact mdc_i _ | exact mdc_ph _ | exact mdc_fid _ | exact mdc_vd _ | exact mdc_up _ | exact mdc_q _ | exact mdc_rf _ | exact mdc_tk _ | exact mdc_au _ | exact mdc_fl _ | exact mdc_fu _ | exact mdc_kp _ | exact duc_ep _ | exact duc_a _ | exact duc_n _ | exact duc_i _ | exact duc_ph _ | exact duc_fid _ | exact duc_vd _ | rfl | exact hcg | exact wc_led W | exact hyd | rfl)) rfl ?_
          clear hl a; intro a hl
          refine d_take (i := 18) hl rfl (by kernel_rfl) (by kernel_rfl) (by kernel_rfl) (by kernel_rfl) (by kernel_rfl) rfl ⟨_, _, rfl, rfl, rfl⟩ (fun _ _ _ h => h) hM (fun w hC => r_nilCheck hl rfl) rfl ?_
          clear hl a; intro a hl
          refine d_take (i := 19) hl rfl (by kernel_rfl) (by kernel_rfl) (by kernel_rfl) (by kernel_rfl) (by kernel_rfl) rfl ⟨_, _, rfl, rfl, rfl⟩ (fun _ _ _ h => h) hM (fun w hC => r_field hl rfl fld82_1) rfl ?_
          clear hl a; intro a hl
          refine d_take (i := 20) hl rfl (by kernel_rfl) (by kernel_rfl) (by kernel_rfl) (by kernel_rfl) (by kernel_rfl) rfl ⟨_, _, rfl, rfl, rfl⟩ (fun _ _ _ h => h) hM (fun w hC => r_loadC hl rfl one4 hC (by repeat (first | exact find_head | apply find_tail | apply find_skip)) (by first | exact mdc_ep _ | exact mdc_a _ | exact mdc_n _ | exact mdc_i _ | exact mdc_ph _ | exact mdc_fid _ | exact mdc_vd _ | exact mdc_up _ | exact mdc_q _ | exact mdc_rf _ | exact mdc_tk _ | exact mdc_au _ | exact mdc_fl _ | exact mdc_fu _ | exact mdc_kp _ | exact duc_ep _ | exact duc_a _ | exact duc_n _ | exact duc_i _ | exact duc_ph _ | exact duc_fid _ | exact duc_vd _ | rfl | exact hcg | exact wc_led W | exact hyd | rfl)) rfl ?_
          clear hl a; intro a hl
          refine d_take (i := 21) hl rfl (by kernel_rfl) (by kernel_rfl) (by kernel_rfl) (by kernel_rfl) (by kernel_rfl) rfl ⟨_, _, rfl, rfl, rfl⟩ (fun _ _ _ h => h) hM (fun w hC => r_move hl rfl) rfl ?_
          clear hl a; intro a hl
          refine d_take (i := 22) hl rfl (by kernel_rfl) (by kernel_rfl) (by kernel_rfl) (by kernel_rfl) (by kernel_rfl) rfl ⟨_, _, rfl, rfl, rfl⟩ (fun _ _ _ h => h) hM (fun w hC => r_nilCheck hl rfl) rfl ?_
          clear hl a; intro a hl
          refine d_take (i := 23) hl rfl (by kernel_rfl) (by kernel_rfl) (by kernel_rfl) (by kernel_rfl) (by kernel_rfl) rfl ⟨_, _, rfl, rfl, rfl⟩ (fun _ _ _ h => h) hM (fun w hC => r_field hl rfl fld32_0) rfl ?_
          clear hl a; intro a hl
          refine d_take (i := 24) hl rfl (by kernel_rfl) (by kernel_rfl) (by kernel_rfl) (by kernel_rfl) (by kernel_rfl) rfl ⟨_, _, rfl, rfl, rfl⟩ (fun _ _ _ h => h) hM (fun w hC => r_field hl rfl fld30_0) rfl ?_
          clear hl a; intro a hl
          refine d_take (i := 25) hl rfl (by kernel_rfl) (by kernel_rfl) (by kernel_rfl) (by kernel_rfl) (by kernel_rfl) rfl ⟨_, _, rfl, rfl, rfl⟩ (fun _ _ _ h => h) hM (fun w hC => r_loadC hl rfl one28 hC (by repeat (first | exact find_head | apply find_tail | apply find_skip)) (by first | exact mdc_ep _ | exact mdc_a _ | exact mdc_n _ | exact mdc_i _ | exact mdc_ph _ | exact mdc_fid _ | exact mdc_vd _ | exact mdc_up _ | exact mdc_q _ | exact mdc_rf _ | exact mdc_tk _ | exact mdc_au _ | exact mdc_fl _ | exact mdc_fu _ | exact mdc_kp _ | exact duc_ep _ | exact duc_a _ | exact duc_n _ | exact duc_i _ | exact duc_ph _ | exact duc_fid _ | exact duc_vd _ | rfl | exact hcg | exact wc_led W | exact hyd | rfl)) rfl ?_
          clear hl a; intro a hl
          refine d_take (i := 26) hl rfl (by kernel_rfl) (by kernel_rfl) (by kernel_rfl) (by kernel_rfl) (by kernel_rfl) rfl ⟨_, _, rfl, rfl, rfl⟩ (fun _ _ _ h => h) hM (fun w hC => r_nilCheck hl rfl) rfl ?_
          clear hl a; intro a hl
          refine d_take (i := 27) hl rfl (by kernel_rfl) (by kernel_rfl) (by kernel_rfl) (by kernel_rfl) (by kernel_rfl) rfl ⟨_, _, rfl, rfl, rfl⟩ (fun _ _ _ h => h) hM (fun w hC => r_field hl rfl fld55_1) rfl ?_
          clear hl a; intro a hl
          refine d_take (i := 28) hl rfl (by kernel_rfl) (by kernel_rfl) (by kernel_rfl) (by kernel_rfl) (by kernel_rfl) rfl ⟨_, _, rfl, rfl, rfl⟩ (fun _ _ _ h => h) hM (fun w hC => r_loadC hl rfl one50 hC (by repeat (first | exact find_head | apply find_tail | apply find_skip)) (by first | exact mdc_ep _ | exact mdc_a _ | exact mdc_n _ | exact mdc_i _ | exact mdc_ph _ | exact mdc_fid _ | exact mdc_vd _ | exact mdc_up _ | exact mdc_q _ | exact mdc_rf _ | exact mdc_tk _ | exact mdc_au _ | exact mdc_fl _ | exact mdc_fu _ | exact mdc_kp _ | exact duc_ep _ | exact duc_a _ | exact duc_n _ | exact duc_i _ | exact duc_ph _ | exact duc_fid _ | exact duc_vd _ | rfl | exact hcg | exact wc_led W | exact hyd | rfl)) rfl ?_
          clear hl a; intro a hl
          refine d_one (i := 29) (by kernel_rfl) rfl ?_
          try clear hM
          refine id (w_call hl hh rfl ⟨_, _, rfl, rfl, rfl⟩ rfl cal40 rfl (downW W Z hg) (by repeat (first | exact keeps_nil | apply keeps_cons (by repeat (first | exact find_head | apply find_tail | apply find_skip)) (by first  | rfl) | exact keeps_self | exact keeps_left | apply keeps_app | apply keeps_mv | apply keeps_skip)) trivial ?_)
          clear hl hh a w; intro vc Fc a w hR hl hh
          obtain ⟨rfl, rfl⟩ := hR
          try simp only [List.cons_append, List.nil_append, List.append_assoc, List.append_nil] at hh
          try simp only [List.append_assoc, List.cons_append, List.nil_append] at hh
          have hM : Mem [(lb, C [.pointer (some ⟨wb, 0, none⟩), .pointer (some ⟨mb, 0, none⟩)] 32), (mb, C m9.c 82), (wb, C W.c 55)] w := (memK hh (by repeat (first | exact keeps_nil | apply keeps_cons (by repeat (first | exact find_head | apply find_tail | apply find_skip)) (by first  | rfl) | exact keeps_self | exact keeps_left | apply keeps_app | apply keeps_mv | apply keeps_skip)))
          refine d_step (fun _ => hM) ?_
          refine d_take (i := 30) hl rfl (by kernel_rfl) (by kernel_rfl) (by kernel_rfl) (by kernel_rfl) (by kernel_rfl) rfl ⟨_, _, rfl, rfl, rfl⟩ (fun _ _ _ h => h) hM (fun w hC => r_neq_bool hl rfl rfl Tryz.underlying4) rfl ?_
          clear hl a; intro a hl
          rw [hupd] at hl
          refine d_take (i := 31) hl rfl (by kernel_rfl) (by kernel_rfl) (by kernel_rfl) (by kernel_rfl) (by kernel_rfl) rfl trivial (fun _ _ _ h => h) hM (fun w hC => r_pickT hl rfl rfl) rfl ?_
          clear hl a; intro a hl
          refine d_take (i := 32) hl rfl (by kernel_rfl) (by kernel_rfl) (by kernel_rfl) (by kernel_rfl) (by kernel_rfl) rfl trivial (fun _ _ _ h => h) hM (fun w hC => r_move hl rfl) rfl ?_
          clear hl a; intro a hl
          refine d_take (i := 33) hl rfl (by kernel_rfl) (by kernel_rfl) (by kernel_rfl) (by kernel_rfl) (by kernel_rfl) rfl ⟨_, _, rfl, rfl, rfl⟩ (fun _ _ _ h => h) hM (fun w hC => r_move hl rfl) rfl ?_
          clear hl a; intro a hl
          refine d_take (i := 34) hl rfl (by kernel_rfl) (by kernel_rfl) (by kernel_rfl) (by kernel_rfl) (by kernel_rfl) rfl ⟨_, _, rfl, rfl, rfl⟩ (fun _ _ _ h => h) hM (fun w hC => r_nilCheck hl rfl) rfl ?_
          clear hl a; intro a hl
          refine d_take (i := 35) hl rfl (by kernel_rfl) (by kernel_rfl) (by kernel_rfl) (by kernel_rfl) (by kernel_rfl) rfl ⟨_, _, rfl, rfl, rfl⟩ (fun _ _ _ h => h) hM (fun w hC => r_field hl rfl fld32_0) rfl ?_
          clear hl a; intro a hl
          refine d_take (i := 36) hl rfl (by kernel_rfl) (by kernel_rfl) (by kernel_rfl) (by kernel_rfl) (by kernel_rfl) rfl ⟨_, _, rfl, rfl, rfl⟩ (fun _ _ _ h => h) hM (fun w hC => r_field hl rfl fld30_0) rfl ?_
          clear hl a; intro a hl
          refine d_take (i := 37) hl rfl (by kernel_rfl) (by kernel_rfl) (by kernel_rfl) (by kernel_rfl) (by kernel_rfl) rfl ⟨_, _, rfl, rfl, rfl⟩ (fun _ _ _ h => h) hM (fun w hC => r_loadC hl rfl one28 hC (by repeat (first | exact find_head | apply find_tail | apply find_skip)) (by first | exact mdc_ep _ | exact mdc_a _ | exact mdc_n _ | exact mdc_i _ | exact mdc_ph _ | exact mdc_fid _ | exact mdc_vd _ | exact mdc_up _ | exact mdc_q _ | exact mdc_rf _ | exact mdc_tk _ | exact mdc_au _ | exact mdc_fl _ | exact mdc_fu _ | exact mdc_kp _ | exact duc_ep _ | exact duc_a _ | exact duc_n _ | exact duc_i _ | exact duc_ph _ | exact duc_fid _ | exact duc_vd _ | rfl | exact hcg | exact wc_led W | exact hyd | rfl)) rfl ?_
          clear hl a; intro a hl
          refine d_take (i := 38) hl rfl (by kernel_rfl) (by kernel_rfl) (by kernel_rfl) (by kernel_rfl) (by kernel_rfl) rfl ⟨_, _, rfl, rfl, rfl⟩ (fun _ _ _ h => h) hM (fun w hC => r_nilCheck hl rfl) rfl ?_
          clear hl a; intro a hl
          refine d_take (i := 39) hl rfl (by kernel_rfl) (by kernel_rfl) (by kernel_rfl) (by kernel_rfl) (by kernel_rfl) rfl ⟨_, _, rfl, rfl, rfl⟩ (fun _ _ _ h => h) hM (fun w hC => r_field hl rfl fld55_1) rfl ?_
          clear hl a; intro a hl
          refine d_take (i := 40) hl rfl (by kernel_rfl) (by kernel_rfl) (by kernel_rfl) (by kernel_rfl) (by kernel_rfl) rfl ⟨_, _, rfl, rfl, rfl⟩ (fun _ _ _ h => h) hM (fun w hC => r_loadC hl rfl one50 hC (by repeat (first | exact find_head | apply find_tail | apply find_skip)) (by first | exact mdc_ep _ | exact mdc_a _ | exact mdc_n _ | exact mdc_i _ | exact mdc_ph _ | exact mdc_fid _ | exact mdc_vd _ | exact mdc_up _ | exact mdc_q _ | exact mdc_rf _ | exact mdc_tk _ | exact mdc_au _ | exact mdc_fl _ | exact mdc_fu _ | exact mdc_kp _ | exact duc_ep _ | exact duc_a _ | exact duc_n _ | exact duc_i _ | exact duc_ph _ | exact duc_fid _ | exact duc_vd _ | rfl | exact hcg | exact wc_led W | exact hyd | rfl)) rfl ?_
          clear hl a; intro a hl
          refine d_take (i := 42) hl rfl (by kernel_rfl) (by kernel_rfl) (by kernel_rfl) (by kernel_rfl) (by kernel_rfl) rfl ⟨_, _, rfl, rfl, rfl⟩ (fun _ _ _ h => h) hM (fun w hC => r_move hl rfl) rfl ?_
          clear hl a; intro a hl
          refine d_take (i := 43) hl rfl (by kernel_rfl) (by kernel_rfl) (by kernel_rfl) (by kernel_rfl) (by kernel_rfl) rfl ⟨_, _, rfl, rfl, rfl⟩ (fun _ _ _ h => h) hM (fun w hC => r_nilCheck hl rfl) rfl ?_
          clear hl a; intro a hl
          refine d_take (i := 44) hl rfl (by kernel_rfl) (by kernel_rfl) (by kernel_rfl) (by kernel_rfl) (by kernel_rfl) rfl ⟨_, _, rfl, rfl, rfl⟩ (fun _ _ _ h => h) hM (fun w hC => r_field hl rfl fld32_1) rfl ?_
          clear hl a; intro a hl
          refine d_take (i := 45) hl rfl (by kernel_rfl) (by kernel_rfl) (by kernel_rfl) (by kernel_rfl) (by kernel_rfl) rfl ⟨_, _, rfl, rfl, rfl⟩ (fun _ _ _ h => h) hM (fun w hC => r_loadC hl rfl one26 hC (by repeat (first | exact find_head | apply find_tail | apply find_skip)) (by first | exact mdc_ep _ | exact mdc_a _ | exact mdc_n _ | exact mdc_i _ | exact mdc_ph _ | exact mdc_fid _ | exact mdc_vd _ | exact mdc_up _ | exact mdc_q _ | exact mdc_rf _ | exact mdc_tk _ | exact mdc_au _ | exact mdc_fl _ | exact mdc_fu _ | exact mdc_kp _ | exact duc_ep _ | exact duc_a _ | exact duc_n _ | exact duc_i _ | exact duc_ph _ | exact duc_fid _ | exact duc_vd _ | rfl | exact hcg | exact wc_led W | exact hyd | rfl)) rfl ?_
          clear hl a; intro a hl
          refine d_take (i := 46) hl rfl (by kernel_rfl) (by kernel_rfl) (by kernel_rfl) (by kernel_rfl) (by kernel_rfl) rfl ⟨_, _, rfl, rfl, rfl⟩ (fun _ _ _ h => h) hM (fun w hC => r_nilCheck hl rfl) rfl ?_
          clear hl a; intro a hl
          refine d_take (i := 47) hl rfl (by kernel_rfl) (by kernel_rfl) (by kernel_rfl) (by kernel_rfl) (by kernel_rfl) rfl ⟨_, _, rfl, rfl, rfl⟩ (fun _ _ _ h => h) hM (fun w hC => r_field hl rfl fld82_2) rfl ?_
          clear hl a; intro a hl
          refine d_take (i := 48) hl rfl (by kernel_rfl) (by kernel_rfl) (by kernel_rfl) (by kernel_rfl) (by kernel_rfl) rfl ⟨_, _, rfl, rfl, rfl⟩ (fun _ _ _ h => h) hM (fun w hC => r_loadC hl rfl one79 hC (by repeat (first | exact find_head | apply find_tail | apply find_skip)) (by first | exact mdc_ep _ | exact mdc_a _ | exact mdc_n _ | exact mdc_i _ | exact mdc_ph _ | exact mdc_fid _ | exact mdc_vd _ | exact mdc_up _ | exact mdc_q _ | exact mdc_rf _ | exact mdc_tk _ | exact mdc_au _ | exact mdc_fl _ | exact mdc_fu _ | exact mdc_kp _ | exact duc_ep _ | exact duc_a _ | exact duc_n _ | exact duc_i _ | exact duc_ph _ | exact duc_fid _ | exact duc_vd _ | rfl | exact hcg | exact wc_led W | exact hyd | rfl)) rfl ?_
          clear hl a; intro a hl
          refine d_take (i := 49) hl rfl (by kernel_rfl) (by kernel_rfl) (by kernel_rfl) (by kernel_rfl) (by kernel_rfl) rfl ⟨_, _, rfl, rfl, rfl⟩ (fun _ _ _ h => h) hM (fun w hC => r_lenS hl rfl slc79) rfl ?_
          clear hl a; intro a hl
          refine d_one (i := 41) (by kernel_rfl) rfl ?_
          try clear hM
          refine id (w_call hl hh rfl ⟨_, _, rfl, rfl, rfl⟩ rfl cal114 rfl (waitW W Z hg) (by repeat (first | exact keeps_nil | apply keeps_cons (by repeat (first | exact find_head | apply find_tail | apply find_skip)) (by first  | rfl) | exact keeps_self | exact keeps_left | apply keeps_app | apply keeps_mv | apply keeps_skip)) trivial ?_)
          clear hl hh a w; intro vc Fc a w hR hl hh
          obtain ⟨rfl, rfl⟩ := hR
          try simp only [List.cons_append, List.nil_append, List.append_assoc, List.append_nil] at hh
          try simp only [List.append_assoc, List.cons_append, List.nil_append] at hh
          have hM : Mem [(lb, C [.pointer (some ⟨wb, 0, none⟩), .pointer (some ⟨mb, 0, none⟩)] 32), (mb, C m9.c 82), (wb, C W.c 55)] w := (memK hh (by repeat (first | exact keeps_nil | apply keeps_cons (by repeat (first | exact find_head | apply find_tail | apply find_skip)) (by first  | rfl) | exact keeps_self | exact keeps_left | apply keeps_app | apply keeps_mv | apply keeps_skip)))
          refine d_step (fun _ => hM) ?_
          refine d_take (i := 50) hl rfl (by kernel_rfl) (by kernel_rfl) (by kernel_rfl) (by kernel_rfl) (by kernel_rfl) rfl ⟨_, _, rfl, rfl, rfl⟩ (fun _ _ _ h => h) hM (fun w hC => r_eql hl rfl rfl) rfl ?_
          clear hl a; intro a hl
          rw [decide_eq_true hqw] at hl
          refine d_take (i := 51) hl rfl (by kernel_rfl) (by kernel_rfl) (by kernel_rfl) (by kernel_rfl) (by kernel_rfl) rfl trivial (fun _ _ _ h => h) hM (fun w hC => r_pickT hl rfl rfl) rfl ?_
          clear hl a; intro a hl
          refine d_take (i := 52) hl rfl (by kernel_rfl) (by kernel_rfl) (by kernel_rfl) (by kernel_rfl) (by kernel_rfl) rfl trivial (fun _ _ _ h => h) hM (fun w hC => r_move hl rfl) rfl ?_
          clear hl a; intro a hl
          refine d_take (i := 53) hl rfl (by kernel_rfl) (by kernel_rfl) (by kernel_rfl) (by kernel_rfl) (by kernel_rfl) rfl ⟨_, _, rfl, rfl, rfl⟩ (fun _ _ _ h => h) hM (fun w hC => r_move hl rfl) rfl ?_
          clear hl a; intro a hl
          refine d_one (i := 54) (by kernel_rfl) rfl ?_
          try clear hM
          refine id (w_call hl hh rfl ⟨_, _, rfl, rfl, rfl⟩ rfl cal102 rfl (agreeW2 lb wb mb W Z (Y ++ G9) hW m9 hM9.dok hml b1 j1 hE1) (by repeat (first | exact keeps_nil | apply keeps_cons (by repeat (first | exact find_head | apply find_tail | apply find_skip)) (by first  | rfl) | exact keeps_self | exact keeps_left | apply keeps_app | apply keeps_mv | apply keeps_skip)) trivial ?_)
          clear hl hh a w; intro vc Fc a w hR hl hh
          obtain ⟨rfl, rfl⟩ := hR
          try simp only [List.cons_append, List.nil_append, List.append_assoc, List.append_nil] at hh
          try simp only [List.append_assoc, List.cons_append, List.nil_append] at hh
          have hM : Mem [(lb, C [.pointer (some ⟨wb, 0, none⟩), .pointer (some ⟨mb, 0, none⟩)] 32), (mb, C m9.c 82), (wb, C W.c 55)] w := (memK hh (by repeat (first | exact keeps_nil | apply keeps_cons (by repeat (first | exact find_head | apply find_tail | apply find_skip)) (by first  | rfl) | exact keeps_self | exact keeps_left | apply keeps_app | apply keeps_mv | apply keeps_skip)))
          refine d_step (fun _ => hM) ?_
          refine d_take (i := 55) hl rfl (by kernel_rfl) (by kernel_rfl) (by kernel_rfl) (by kernel_rfl) (by kernel_rfl) rfl trivial (fun _ _ _ h => h) hM (fun w hC => r_pickT hl rfl rfl) rfl ?_
          clear hl a; intro a hl
          refine d_take (i := 56) hl rfl (by kernel_rfl) (by kernel_rfl) (by kernel_rfl) (by kernel_rfl) (by kernel_rfl) rfl trivial (fun _ _ _ h => h) hM (fun w hC => r_assign hl rfl) rfl ?_
          clear hl a; intro a hl
          refine d_done (by kernel_rfl) ?_
          try clear hM
          have hl2 := hl.add (t := 10) (hl.nil) rfl; clear hl; have hl := hl2; clear hl2
          refine then_normal ?_
          refine wp_ret ?_
          refine f_ret1 (F' := (lb, C [.pointer (some ⟨wb, 0, none⟩), .pointer (some ⟨mb, 0, none⟩)] 32) :: ((mb, C (MdV.c m9) 82) :: (((b1, C (fl idc m9.d.vs ++ j1) 36) :: (m9.d.nE ++ (m9.d.iE ++ [(m9.d.vb, MO (kInt .u32) m9.d.vd)]))) ++ (m9.qE ++ (m9.rE ++ (Y ++ (G9 ++ (((wb, C W.c 55) :: (W.tE ++ (W.gE ++ (DsF W.ds ++ W.GF Z)))) ++ Es)))))))) hl hh rfl rfl (by repeat (first | exact keeps_nil | apply keeps_cons (by repeat (first | exact find_head | apply find_tail | apply find_skip)) (by first  | rfl) | exact keeps_self | exact keeps_left | apply keeps_app | apply keeps_mv | apply keeps_skip)) ?_
          exact ⟨rfl, m9, G9, hM9, by simp only [MF, WoV.F, DuV.E_eq m9.d, hE1, List.append_assoc, List.cons_append, List.nil_append]⟩
end Go.Proofs.Qxb6500908aGreat

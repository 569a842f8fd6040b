import Derived.Test.Qxb6500908aGreatZb
import Derived.Test.Qxb6500908aGreatZc
namespace Go.Proofs.Qxb6500908aGreat
open Go.Eng
set_option linter.unusedVariables false
set_option linter.unusedSimpArgs false

theorem due_0 {m : MdV} (h : m.d.ph = 0) : dueM m = [] := by
  unfold dueM
  rw [List.flatMap_eq_nil_iff]
  intro d _
  exact pm_n (by omega) (by omega)
theorem MdS.ofG {mb : Nat} {r : GtP × LdP} {Z G F' : List (Nat × Obj)} {m' : MdV} {out : List Ms} {p : Option Addr} {c : Nat} {E : List (Nat × Obj)} (ho : r.1.out = out) (hR : Row (.slice p out.length c) out.length (fl msc out) 8 38 E) (hz : ∀ x, x ∈ out → x.t.size ≤ 1000) (h : MdR (Z ++ G) m' r.1 r.2) (hF : F' = E ++ MF mb m' (Z ++ G)) : MdS mb r Z (.slice p out.length c) F' := by
  subst ho
  exact ⟨p, c, E, _, hR, hz, rfl, ⟨m', G, h, rfl⟩, hF⟩
theorem MdO.grow {mb : Nat} {r : GtP × LdP} {Z G F' : List (Nat × Obj)} {m' : MdV} (h : MdR (Z ++ G) m' r.1 r.2) (hF : F' = MF mb m' (Z ++ G)) : MdO mb r Z F' := ⟨m', G, h, hF⟩
theorem du_fliok {Z : List (Nat × Obj)} {s : DuV} (h : s.ok Z) {i p : Int} {n : NtV} (hi : 0 ≤ i ∧ i ≤ 4294967295) (hp : 0 ≤ p ∧ p ≤ 3) (hn : n.ok Z) : DuV.ok Z { s with ph := p, fid := i, fn := n } := ⟨h.ep, h.a, h.n, h.e, h.vo, h.vl, h.v1, h.i, h.io, h.il, hi, hp, hn, h.vd, h.vk⟩
theorem du_flipl {s1 : DuV} {g : GtP} (h : s1.pl = g.st) (i : Int) (n : NtV) : DuV.pl { s1 with ph := 1, fid := i, fn := n } = stNx g i n.pl := by unfold stNx; rw [← h]; rfl
theorem last_pl {m : MdV} {g : GtP} {y : Vr} (h : m.d.pl = g.st) (e : m.d.ws = m.d.vs) (hy : m.d.ws[m.d.ws.length - 1]? = some y) : lastV g = y.n.pl := by
  unfold lastV
  rw [← h, show m.d.pl.vs = m.d.vs.map vrP from rfl, ← e, List.getLast?_eq_getElem?, List.length_map, List.getElem?_map, hy]; rfl
theorem qtl {b o cap : Nat} {l : List Value} {x : Bt} {qs : List Bt} (h2 : (fl btc (x :: qs)).length = (x :: qs).length * 2) (h3 : (x :: qs).length ≤ cap) (h4 : o + cap * 2 ≤ l.length) (h5 : (l.drop o).take (fl btc (x :: qs)).length = fl btc (x :: qs)) :
    RowO (.slice (if cap = 1 then some ⟨b, o, none⟩ else some ⟨b, o + 1 * 2, none⟩) qs.length (cap - 1)) qs.length (fl btc qs) 2 141 [(b, C l 141)] := by
  have h := rowO_tl (b := b) (e := 141) h2 h3 h4 h5 (by simp)
  rw [show (x :: qs).length - 1 = qs.length by simp, show (fl btc (x :: qs)).drop 2 = fl btc qs by rw [fl_cons]; rfl] at h
  exact h


attribute [local irreducible] NtV.k StV.c LdV.c StV.E GtV.c GtV.t DuV.c DuV.E MdV.c MdV.t

set_option maxHeartbeats 4000000 in
theorem mtick1 (Z : List (Nat × Obj)) (mb : Nat) (m : MdV) (g : GtP) (l : LdP) (hm : MdR Z m g l) (hI : GtI g) (hsd : g.st = l.d) (hdn : l.dn = false) (hp : ¬ g.st.ph = 0) : Sp Tryz.prog 111 #[.pointer (some ⟨mb, 0, none⟩)] (MF mb m Z) (MdS mb (tickP g l) Z) := by
  refine f_enter (args := [.pointer (some ⟨mb, 0, none⟩)]) Tryz.func111 rfl Tryz.ntmps111 rfl ?_
  intro w0 w a hpre hl hh
  have hst : m.d.pl = g.st := hm.d.trans hsd.symm
  have hup : m.up = true := by rw [hm.up, hI.on]; rfl
  have hph : m.d.ph = g.st.ph := congrArg StP.ph hst
  have hfi : m.d.fid = g.st.fid := congrArg StP.fid hst
  have hep : m.d.ep = g.st.ep := congrArg StP.ep hst
  have hqg := hm.qp
  have hql : m.q.length ≤ 8 := by have h9 := hI.ql; rw [← hqg, List.length_map] at h9; exact h9
  obtain ⟨rb, rl, rn, hrb, hrE, hrv, hrk, hrf⟩ := hm.r
  generalize hDD : List.map Prod.fst (MF mb m Z) = D at hh ⊢
  simp only [MF, List.cons_append, List.append_assoc] at hh
  have htk0 := hI.t
  have htk1 := hm.tk
  simp only [slotsFrom, Nat.reduceAdd] at hl
  refine c_seq ?_
  refine c_region ?_
  refine wl (wl_val hl rfl trivial (r_assign hl rfl) ?_)
  clear hl a; intro a hl
  refine w_nil ?_
  have hl2 := hl.add (t := 0) (hl.nil) rfl; clear hl; have hl := hl2; clear hl2
  refine then_normal ?_
  refine c_seq ?_
  refine c_seq ?_
  refine c_region ?_
  refine wl (wl_val hl rfl trivial (r_move hl rfl) ?_)
  clear hl a; intro a hl
  refine wl (wl_val hl rfl trivial (r_nilCheck hl rfl) ?_)
  clear hl a; intro a hl
  refine wl (wl_val hl rfl trivial (r_field hl rfl fld82_1) ?_)
  clear hl a; intro a hl
  refine wl (w_load hl hh rfl trivial one4 rfl (by repeat (first | exact find_head | apply find_tail | apply find_skip)) (by first | exact mdc_ep _ | exact mdc_a _ | exact mdc_n _ | exact mdc_i _ | exact mdc_ph _ | exact mdc_fid _ | exact mdc_vd _ | exact mdc_up _ | exact mdc_q _ | exact mdc_rf _ | exact mdc_tk _ | exact mdc_au _ | exact mdc_fl _ | exact mdc_fu _ | exact mdc_kp _ | exact duc_ep _ | exact duc_a _ | exact duc_n _ | exact duc_i _ | exact duc_ph _ | exact duc_fid _ | exact duc_vd _ | rfl) ?_)
  clear hl a; intro a hl
  refine wl (wl_val hl rfl trivial (r_not hl rfl) ?_)
  clear hl a; intro a hl
  refine w_nil ?_
  have hl2 := hl.add (t := 0) (hl.add (t := 11) (hl.nil) rfl) rfl; clear hl; have hl := hl2; clear hl2
  refine then_normal ?_
  refine c_cond hl rfl ?_ ?_
  · intro hc0
    try simp only [decide_eq_true_eq, decide_eq_false_iff_not, Bool.not_eq_true', Bool.not_eq_false', Bool.not_eq_true, Bool.not_eq_false, Bool.and_eq_true, Bool.or_eq_true, Bool.and_eq_false_iff, Bool.or_eq_false_iff, Bool.not_not, ne_eq, Int.not_lt, Int.not_le, Decidable.not_not, beq_iff_eq, bne_iff_ne] at hc0
    exfalso; first | contradiction | omega | (simp_all; done)
  · intro hc0
    try simp only [decide_eq_true_eq, decide_eq_false_iff_not, Bool.not_eq_true', Bool.not_eq_false', Bool.not_eq_true, Bool.not_eq_false, Bool.and_eq_true, Bool.or_eq_true, Bool.and_eq_false_iff, Bool.or_eq_false_iff, Bool.not_not, ne_eq, Int.not_lt, Int.not_le, Decidable.not_not, beq_iff_eq, bne_iff_ne] at hc0
    refine wp_skip ?_
    refine then_normal ?_
    refine c_seq ?_
    refine c_seq ?_
    refine c_region ?_
    refine wl (wl_val hl rfl trivial (r_move hl rfl) ?_)
    clear hl a; intro a hl
    refine wl (wl_val hl rfl trivial (r_nilCheck hl rfl) ?_)
    clear hl a; intro a hl
    refine wl (wl_val hl rfl trivial (r_field hl rfl fld82_0) ?_)
    clear hl a; intro a hl
    refine wl (wl_val hl rfl trivial (r_field hl rfl fld78_4) ?_)
    clear hl a; intro a hl
    refine wl (w_load hl hh rfl trivial one76 rfl (by repeat (first | exact find_head | apply find_tail | apply find_skip)) (by first | exact mdc_ep _ | exact mdc_a _ | exact mdc_n _ | exact mdc_i _ | exact mdc_ph _ | exact mdc_fid _ | exact mdc_vd _ | exact mdc_up _ | exact mdc_q _ | exact mdc_rf _ | exact mdc_tk _ | exact mdc_au _ | exact mdc_fl _ | exact mdc_fu _ | exact mdc_kp _ | exact duc_ep _ | exact duc_a _ | exact duc_n _ | exact duc_i _ | exact duc_ph _ | exact duc_fid _ | exact duc_vd _ | rfl) ?_)
    clear hl a; intro a hl
    refine wl (wl_val hl rfl trivial (r_eql hl rfl rfl) ?_)
    clear hl a; intro a hl
    refine w_nil ?_
    have hl2 := hl.add (t := 0) (hl.add (t := 17) (hl.nil) rfl) rfl; clear hl; have hl := hl2; clear hl2
    refine then_normal ?_
    refine c_cond hl rfl ?_ ?_
    · intro hc1
      try simp only [decide_eq_true_eq, decide_eq_false_iff_not, Bool.not_eq_true', Bool.not_eq_false', Bool.not_eq_true, Bool.not_eq_false, Bool.and_eq_true, Bool.or_eq_true, Bool.and_eq_false_iff, Bool.or_eq_false_iff, Bool.not_not, ne_eq, Int.not_lt, Int.not_le, Decidable.not_not, beq_iff_eq, bne_iff_ne] at hc1
      have hmt : MdR Z { m with tk := m.tk + 1 } { g with tk := g.tk + 1 } l := ⟨hm.dok, hm.d, hm.up, hm.qr, hm.qo, hm.qp, hm.r, hm.ys, hm.dn, (show m.tk + 1 = g.tk + 1 by rw [hm.tk]), hm.au, hm.fl, hm.fu, hm.kp, hm.fb⟩
      refine c_seq ?_
      refine c_region ?_
      refine wl (wl_val hl rfl trivial (r_move hl rfl) ?_)
      clear hl a; intro a hl
      refine wl (wl_val hl rfl trivial (r_nilCheck hl rfl) ?_)
      clear hl a; intro a hl
      refine wl (wl_val hl rfl trivial (r_field hl rfl fld82_6) ?_)
      clear hl a; intro a hl
      refine wl (w_load hl hh rfl trivial one3 rfl (by repeat (first | exact find_head | apply find_tail | apply find_skip)) (by first | exact mdc_ep _ | exact mdc_a _ | exact mdc_n _ | exact mdc_i _ | exact mdc_ph _ | exact mdc_fid _ | exact mdc_vd _ | exact mdc_up _ | exact mdc_q _ | exact mdc_rf _ | exact mdc_tk _ | exact mdc_au _ | exact mdc_fl _ | exact mdc_fu _ | exact mdc_kp _ | exact duc_ep _ | exact duc_a _ | exact duc_n _ | exact duc_i _ | exact duc_ph _ | exact duc_fid _ | exact duc_vd _ | rfl) ?_)
      clear hl a; intro a hl
      first | refine wl (wl_val hl rfl trivial (r_add hl rfl rfl (by simp only [Fits]; omega)) ?_) | refine wl (wl_val hl rfl trivial (r_addW hl rfl rfl) ?_)
      clear hl a; intro a hl
      refine wl (wl_val hl rfl trivial (r_nilCheck hl rfl) ?_)
      clear hl a; intro a hl
      refine wl (wl_val hl rfl trivial (r_field hl rfl fld82_6) ?_)
      clear hl a; intro a hl
      refine wl (w_store hl hh trivial one3 rfl rfl (by repeat (first | exact find_head | apply find_tail | apply find_skip)) (by first | (simp; done) | (simp; omega) | (rw [mdc_len]; omega) | (rw [mdc_len]; simp; done) | (rw [duc_len]; omega) | (rw [duc_len]; simp; done)) (by first | rfl | assumption | (apply Row.one; assumption)) (by first | exact mdc_sup _ _ | exact mdc_stk _ _ | exact mdc_sau _ _ | exact mdc_sfl _ _ | exact mdc_sfu _ _ | exact mdc_skp _ _ | (simp only [setL, List.getElem?_cons_zero, List.getElem?_cons_succ, Value.cells, List.take_zero, List.take_succ_cons, List.take_nil, List.drop_zero, List.drop_succ_cons, List.drop_nil, List.length_cons, List.length_nil, List.cons_append, List.nil_append, List.append_nil, Nat.zero_add, Nat.add_zero, Nat.reduceAdd, Nat.reduceBEq, Nat.reduceEqDiff, Nat.ble, BEq.rfl, Bool.and_true, Bool.and_self, cond_true, beq_self_eq_true]; rfl)) ?_)
      clear hh w; intro w hh
      refine w_nil ?_
      have hl2 := hl.add (t := 0) (hl.nil) rfl; clear hl; have hl := hl2; clear hl2
      refine then_normal ?_
      refine c_seq ?_
      refine c_region ?_
      refine wl (wl_val hl rfl trivial (r_move hl rfl) ?_)
      clear hl a; intro a hl
      refine wl (wl_val hl rfl trivial (r_nilCheck hl rfl) ?_)
      clear hl a; intro a hl
      refine wl (wl_val hl rfl trivial (r_field hl rfl fld82_6) ?_)
      clear hl a; intro a hl
      refine wl (w_load hl hh rfl trivial one3 rfl (by repeat (first | exact find_head | apply find_tail | apply find_skip)) (by first | exact mdc_ep _ | exact mdc_a _ | exact mdc_n _ | exact mdc_i _ | exact mdc_ph _ | exact mdc_fid _ | exact mdc_vd _ | exact mdc_up _ | exact mdc_q _ | exact mdc_rf _ | exact mdc_tk _ | exact mdc_au _ | exact mdc_fl _ | exact mdc_fu _ | exact mdc_kp _ | exact duc_ep _ | exact duc_a _ | exact duc_n _ | exact duc_i _ | exact duc_ph _ | exact duc_fid _ | exact duc_vd _ | rfl) ?_)
      clear hl a; intro a hl
      refine wl (wl_val hl rfl trivial (r_geq hl rfl rfl) ?_)
      clear hl a; intro a hl
      refine w_nil ?_
      have hl2 := hl.add (t := 0) (hl.add (t := 29) (hl.nil) rfl) rfl; clear hl; have hl := hl2; clear hl2
      refine then_normal ?_
      refine c_cond hl rfl ?_ ?_
      · intro hc2
        try simp only [decide_eq_true_eq, decide_eq_false_iff_not, Bool.not_eq_true', Bool.not_eq_false', Bool.not_eq_true, Bool.not_eq_false, Bool.and_eq_true, Bool.or_eq_true, Bool.and_eq_false_iff, Bool.or_eq_false_iff, Bool.not_not, ne_eq, Int.not_lt, Int.not_le, Decidable.not_not, beq_iff_eq, bne_iff_ne] at hc2
        have htk := tk_1t (l := l) hI.on (by omega) (show 8 ≤ g.tk + 1 by omega)
        refine c_seq ?_
        refine c_region ?_
        refine wl (wl_val hl rfl trivial (r_move hl rfl) ?_)
        clear hl a; intro a hl
        refine wl (w_call hl hh rfl trivial rfl cal120 rfl (mdec_spec Z mb { m with tk := m.tk + 1 } { g with tk := g.tk + 1 } l hmt hI.on hI.o hsd hdn false) (by repeat (first | exact keeps_nil | apply keeps_cons (by repeat (first | exact find_head | apply find_tail | apply find_skip)) (by first  | rfl) | exact keeps_self | exact keeps_left | apply keeps_app | apply keeps_mv | apply keeps_skip)) trivial ?_)
        clear hl hh a w; intro vc Fc a w hR hl hh
        try simp only [List.cons_append, List.nil_append, List.append_assoc, List.append_nil] at hh
        refine wl (wl_val hl rfl trivial (r_assign hl rfl) ?_)
        clear hl a; intro a hl
        refine w_nil ?_
        have hl2 := hl.add (t := 2) (hl.nil) rfl; clear hl; have hl := hl2; clear hl2
        refine then_normal ?_
        refine wp_ret ?_
        refine then_ret ?_
        refine f_ret1 (F' := Fc) hl hh rfl rfl (by repeat (first | exact keeps_nil | apply keeps_cons (by repeat (first | exact find_head | apply find_tail | apply find_skip)) (by first  | rfl) | exact keeps_self | exact keeps_left | apply keeps_app | apply keeps_mv | apply keeps_skip)) ?_
        rw [htk]
        exact hR
      · intro hc2
        try simp only [decide_eq_true_eq, decide_eq_false_iff_not, Bool.not_eq_true', Bool.not_eq_false', Bool.not_eq_true, Bool.not_eq_false, Bool.and_eq_true, Bool.or_eq_true, Bool.and_eq_false_iff, Bool.or_eq_false_iff, Bool.not_not, ne_eq, Int.not_lt, Int.not_le, Decidable.not_not, beq_iff_eq, bne_iff_ne] at hc2
        obtain ⟨m2, g2, hm2, hg2⟩ : ∃ (m2 : MdV) (g2 : GtP), m2 = { m with tk := m.tk + 1 } ∧ g2 = { g with tk := g.tk + 1 } := ⟨_, _, rfl, rfl⟩
        rw [show MdV.c { m with tk := m.tk + 1 } = MdV.c m2 by rw [hm2]] at hh
        have hM2 : MdR Z m2 g2 l := by rw [hm2, hg2]; exact hmt
        have htk : tickP g l = ({ g2 with out := pushP g2 }, l) := by rw [hg2, tk_1f (l := l) hI.on (by omega) (show ¬ 8 ≤ g.tk + 1 by omega), hI.o]; rfl
        have hE2 : m2.d = m.d ∧ m2.qE = m.qE ∧ m2.rE = m.rE := by rw [hm2]; exact ⟨rfl, rfl, rfl⟩
        have hd2 : m2.d.pl = g2.st := by rw [hE2.1, hg2]; exact hst
        have hsl : g2.st.ph = 1 → ∀ d, d < 16 → g2.sl d = slP g2.st.fn d := by rw [hg2]; exact hI.sl
        refine wp_skip ?_
        refine then_normal ?_
        refine c_seq ?_
        refine c_seq ?_
        refine c_region ?_
        refine wl (wl_val hl rfl trivial (r_move hl rfl) ?_)
        clear hl a; intro a hl
        refine wl (wl_val hl rfl trivial (r_nilCheck hl rfl) ?_)
        clear hl a; intro a hl
        refine wl (wl_val hl rfl trivial (r_field hl rfl fld82_0) ?_)
        clear hl a; intro a hl
        refine wl (wl_val hl rfl trivial (r_field hl rfl fld78_4) ?_)
        clear hl a; intro a hl
        refine wl (w_load hl hh rfl trivial one76 rfl (by repeat (first | exact find_head | apply find_tail | apply find_skip)) (by first | exact mdc_ep _ | exact mdc_a _ | exact mdc_n _ | exact mdc_i _ | exact mdc_ph _ | exact mdc_fid _ | exact mdc_vd _ | exact mdc_up _ | exact mdc_q _ | exact mdc_rf _ | exact mdc_tk _ | exact mdc_au _ | exact mdc_fl _ | exact mdc_fu _ | exact mdc_kp _ | exact duc_ep _ | exact duc_a _ | exact duc_n _ | exact duc_i _ | exact duc_ph _ | exact duc_fid _ | exact duc_vd _ | rfl) ?_)
        clear hl a; intro a hl
        refine wl (wl_val hl rfl trivial (r_neq hl rfl rfl) ?_)
        clear hl a; intro a hl
        refine wl (wl_val hl rfl trivial (r_move hl rfl) ?_)
        clear hl a; intro a hl
        refine sl_split (t := 38) hl rfl ?_ ?_
        · intro hg1; clear hl; intro hl
          try simp only [decide_eq_true_eq, decide_eq_false_iff_not, Bool.not_eq_true', Bool.not_eq_false', Bool.not_eq_true, Bool.not_eq_false, Bool.and_eq_true, Bool.or_eq_true, Bool.and_eq_false_iff, Bool.or_eq_false_iff, Bool.not_not, ne_eq, Int.not_lt, Int.not_le, Decidable.not_not, beq_iff_eq, bne_iff_ne] at hg1
          refine wl (wl_skip hl rfl ⟨_, _, rfl, rfl, rfl⟩ ?_)
          clear hl a; intro a hl
          refine wl (wl_skip hl rfl ⟨_, _, rfl, rfl, rfl⟩ ?_)
          clear hl a; intro a hl
          refine wl (wl_skip hl rfl ⟨_, _, rfl, rfl, rfl⟩ ?_)
          clear hl a; intro a hl
          refine wl (wl_skip hl rfl ⟨_, _, rfl, rfl, rfl⟩ ?_)
          clear hl a; intro a hl
          refine wl (wl_skip hl rfl ⟨_, _, rfl, rfl, rfl⟩ ?_)
          clear hl a; intro a hl
          refine wl (wl_skip hl rfl ⟨_, _, rfl, rfl, rfl⟩ ?_)
          clear hl a; intro a hl
          refine wl (wl_val hl rfl trivial (r_pickT hl rfl rfl) ?_)
          clear hl a; intro a hl
          refine w_nil ?_
          have hl2 := hl.add (t := 0) (hl.add (t := 45) (hl.nil) rfl) rfl; clear hl; have hl := hl2; clear hl2
          refine then_normal ?_
          refine c_condT hl rfl ?_
          refine c_seq ?_
          refine c_region ?_
          refine wl (wl_val hl rfl trivial (r_move hl rfl) ?_)
          clear hl a; intro a hl
          refine wl (w_call hl hh rfl trivial rfl cal117 rfl (due_spec Z mb m2 (by rw [hE2.1]; exact hm.dok.fn) (by rw [hE2.1]; exact hm.dok.ph)) (by repeat (first | exact keeps_nil | apply keeps_cons (by repeat (first | exact find_head | apply find_tail | apply find_skip)) (by first  | rfl) | exact keeps_self | exact keeps_left | apply keeps_app | apply keeps_mv | apply keeps_skip)) trivial ?_)
          clear hl hh a w; intro vc Fc a w hR hl hh
          obtain ⟨p6, c6, E6, hR6, rfl, rfl⟩ := hR
          try simp only [List.cons_append, List.nil_append, List.append_assoc, List.append_nil] at hh
          refine wl (wl_val hl rfl trivial (r_assign hl rfl) ?_)
          clear hl a; intro a hl
          refine w_nil ?_
          have hl2 := hl.add (t := 2) (hl.nil) rfl; clear hl; have hl := hl2; clear hl2
          refine then_normal ?_
          refine wp_ret ?_
          refine then_ret ?_
          refine f_ret1 (F' := E6 ++ ((mb, C (MdV.c m2) 82) :: (m.d.E ++ (m.qE ++ (m.rE ++ Z))))) hl hh rfl rfl (by repeat (first | exact keeps_nil | apply keeps_cons (by repeat (first | exact find_head | apply find_tail | apply find_skip)) (by first  | rfl) | exact keeps_self | exact keeps_left | apply keeps_app | apply keeps_mv | apply keeps_skip)) ?_
          have hdu := due_push hd2 hM2.ys hM2.dn hM2.au hsl
          refine MdS.of (m' := m2) ?_ hR6 (due_sz hM2.dok.fn) ?_ (by unfold MF; rw [hE2.1, hE2.2.1, hE2.2.2])
          · rw [htk, hdu]
          · rw [htk]; exact ⟨hM2.dok, hM2.d, hM2.up, hM2.qr, hM2.qo, hM2.qp, hM2.r, hM2.ys, hM2.dn, hM2.tk, hM2.au, hM2.fl, hM2.fu, hM2.kp, hM2.fb⟩
        · intro hg1; clear hl; intro hl
          try simp only [decide_eq_true_eq, decide_eq_false_iff_not, Bool.not_eq_true', Bool.not_eq_false', Bool.not_eq_true, Bool.not_eq_false, Bool.and_eq_true, Bool.or_eq_true, Bool.and_eq_false_iff, Bool.or_eq_false_iff, Bool.not_not, ne_eq, Int.not_lt, Int.not_le, Decidable.not_not, beq_iff_eq, bne_iff_ne] at hg1
          exfalso; first | contradiction | omega | (simp_all; done)
    · intro hc1
      try simp only [decide_eq_true_eq, decide_eq_false_iff_not, Bool.not_eq_true', Bool.not_eq_false', Bool.not_eq_true, Bool.not_eq_false, Bool.and_eq_true, Bool.or_eq_true, Bool.and_eq_false_iff, Bool.or_eq_false_iff, Bool.not_not, ne_eq, Int.not_lt, Int.not_le, Decidable.not_not, beq_iff_eq, bne_iff_ne] at hc1
      obtain ⟨m2, g2, hm2, hg2⟩ : ∃ (m2 : MdV) (g2 : GtP), m2 = m ∧ g2 = g := ⟨_, _, rfl, rfl⟩
      rw [show MdV.c m = MdV.c m2 by rw [hm2]] at hh
      have hM2 : MdR Z m2 g2 l := by rw [hm2, hg2]; exact hm
      have htk : tickP g l = ({ g2 with out := pushP g2 }, l) := by rw [hg2, tk_2 hI.on hp (by omega), hI.o]; rfl
      have hE2 : m2.d = m.d ∧ m2.qE = m.qE ∧ m2.rE = m.rE := by rw [hm2]; exact ⟨rfl, rfl, rfl⟩
      have hd2 : m2.d.pl = g2.st := by rw [hE2.1, hg2]; exact hst
      have hsl : g2.st.ph = 1 → ∀ d, d < 16 → g2.sl d = slP g2.st.fn d := by rw [hg2]; exact hI.sl
      refine wp_skip ?_
      refine then_normal ?_
      refine c_seq ?_
      refine c_seq ?_
      refine c_region ?_
      refine wl (wl_val hl rfl trivial (r_move hl rfl) ?_)
      clear hl a; intro a hl
      refine wl (wl_val hl rfl trivial (r_nilCheck hl rfl) ?_)
      clear hl a; intro a hl
      refine wl (wl_val hl rfl trivial (r_field hl rfl fld82_0) ?_)
      clear hl a; intro a hl
      refine wl (wl_val hl rfl trivial (r_field hl rfl fld78_4) ?_)
      clear hl a; intro a hl
      refine wl (w_load hl hh rfl trivial one76 rfl (by repeat (first | exact find_head | apply find_tail | apply find_skip)) (by first | exact mdc_ep _ | exact mdc_a _ | exact mdc_n _ | exact mdc_i _ | exact mdc_ph _ | exact mdc_fid _ | exact mdc_vd _ | exact mdc_up _ | exact mdc_q _ | exact mdc_rf _ | exact mdc_tk _ | exact mdc_au _ | exact mdc_fl _ | exact mdc_fu _ | exact mdc_kp _ | exact duc_ep _ | exact duc_a _ | exact duc_n _ | exact duc_i _ | exact duc_ph _ | exact duc_fid _ | exact duc_vd _ | rfl) ?_)
      clear hl a; intro a hl
      refine wl (wl_val hl rfl trivial (r_neq hl rfl rfl) ?_)
      clear hl a; intro a hl
      refine wl (wl_val hl rfl trivial (r_move hl rfl) ?_)
      clear hl a; intro a hl
      refine sl_split (t := 38) hl rfl ?_ ?_
      · intro hg2; clear hl; intro hl
        try simp only [decide_eq_true_eq, decide_eq_false_iff_not, Bool.not_eq_true', Bool.not_eq_false', Bool.not_eq_true, Bool.not_eq_false, Bool.and_eq_true, Bool.or_eq_true, Bool.and_eq_false_iff, Bool.or_eq_false_iff, Bool.not_not, ne_eq, Int.not_lt, Int.not_le, Decidable.not_not, beq_iff_eq, bne_iff_ne] at hg2
        refine wl (wl_skip hl rfl ⟨_, _, rfl, rfl, rfl⟩ ?_)
        clear hl a; intro a hl
        refine wl (wl_skip hl rfl ⟨_, _, rfl, rfl, rfl⟩ ?_)
        clear hl a; intro a hl
        refine wl (wl_skip hl rfl ⟨_, _, rfl, rfl, rfl⟩ ?_)
        clear hl a; intro a hl
        refine wl (wl_skip hl rfl ⟨_, _, rfl, rfl, rfl⟩ ?_)
        clear hl a; intro a hl
        refine wl (wl_skip hl rfl ⟨_, _, rfl, rfl, rfl⟩ ?_)
        clear hl a; intro a hl
        refine wl (wl_skip hl rfl ⟨_, _, rfl, rfl, rfl⟩ ?_)
        clear hl a; intro a hl
        refine wl (wl_val hl rfl trivial (r_pickT hl rfl rfl) ?_)
        clear hl a; intro a hl
        refine w_nil ?_
        have hl2 := hl.add (t := 0) (hl.add (t := 45) (hl.nil) rfl) rfl; clear hl; have hl := hl2; clear hl2
        refine then_normal ?_
        refine c_condT hl rfl ?_
        refine c_seq ?_
        refine c_region ?_
        refine wl (wl_val hl rfl trivial (r_move hl rfl) ?_)
        clear hl a; intro a hl
        refine wl (w_call hl hh rfl trivial rfl cal117 rfl (due_spec Z mb m2 (by rw [hE2.1]; exact hm.dok.fn) (by rw [hE2.1]; exact hm.dok.ph)) (by repeat (first | exact keeps_nil | apply keeps_cons (by repeat (first | exact find_head | apply find_tail | apply find_skip)) (by first  | rfl) | exact keeps_self | exact keeps_left | apply keeps_app | apply keeps_mv | apply keeps_skip)) trivial ?_)
        clear hl hh a w; intro vc Fc a w hR hl hh
        obtain ⟨p6, c6, E6, hR6, rfl, rfl⟩ := hR
        try simp only [List.cons_append, List.nil_append, List.append_assoc, List.append_nil] at hh
        refine wl (wl_val hl rfl trivial (r_assign hl rfl) ?_)
        clear hl a; intro a hl
        refine w_nil ?_
        have hl2 := hl.add (t := 2) (hl.nil) rfl; clear hl; have hl := hl2; clear hl2
        refine then_normal ?_
        refine wp_ret ?_
        refine then_ret ?_
        refine f_ret1 (F' := E6 ++ ((mb, C (MdV.c m2) 82) :: (m.d.E ++ (m.qE ++ (m.rE ++ Z))))) hl hh rfl rfl (by repeat (first | exact keeps_nil | apply keeps_cons (by repeat (first | exact find_head | apply find_tail | apply find_skip)) (by first  | rfl) | exact keeps_self | exact keeps_left | apply keeps_app | apply keeps_mv | apply keeps_skip)) ?_
        have hdu := due_push hd2 hM2.ys hM2.dn hM2.au hsl
        refine MdS.of (m' := m2) ?_ hR6 (due_sz hM2.dok.fn) ?_ (by unfold MF; rw [hE2.1, hE2.2.1, hE2.2.2])
        · rw [htk, hdu]
        · rw [htk]; exact ⟨hM2.dok, hM2.d, hM2.up, hM2.qr, hM2.qo, hM2.qp, hM2.r, hM2.ys, hM2.dn, hM2.tk, hM2.au, hM2.fl, hM2.fu, hM2.kp, hM2.fb⟩
      · intro hg2; clear hl; intro hl
        try simp only [decide_eq_true_eq, decide_eq_false_iff_not, Bool.not_eq_true', Bool.not_eq_false', Bool.not_eq_true, Bool.not_eq_false, Bool.and_eq_true, Bool.or_eq_true, Bool.and_eq_false_iff, Bool.or_eq_false_iff, Bool.not_not, ne_eq, Int.not_lt, Int.not_le, Decidable.not_not, beq_iff_eq, bne_iff_ne] at hg2
        exfalso; first | contradiction | omega | (simp_all; done)
end Go.Proofs.Qxb6500908aGreat

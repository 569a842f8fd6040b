import Derived.Test.Qxb6500908aGreatW7
namespace Go.Proofs.Qxb6500908aGreat
open Go.Eng
set_option linter.unusedVariables false
set_option linter.unusedSimpArgs false
theorem fld87_2 : fieldOk Tryz.prog 87 2 2 = true := by kernel_rfl
theorem cal58 : callable Tryz.prog 58 = true := by kernel_rfl
theorem cal29 : callable Tryz.prog 29 = true := by kernel_rfl
theorem cal46 : callable Tryz.prog 46 = true := by kernel_rfl
theorem cal31 : callable Tryz.prog 31 = true := by kernel_rfl
def GtV.offd (g : GtV) : GtV := { g with off := true, out := [], op := none, oc := 0, oE := [] }
theorem offd_ok {Z : List (Nat × Obj)} {g : GtV} (h : g.ok Z) : g.offd.ok Z := ⟨h.st, h.q, h.qo, h.ql, h.rv, h.rk, h.ys, h.dn, h.tk, Row.nil _ _, fun x hx => (by cases hx), Nat.zero_le _⟩
def GtP.offd (g : GtP) : GtP := { g with off := true, out := [] }
theorem offd_pl (g : GtV) : g.offd.pl = g.pl.offd := rfl
/-- the decision on the batch in flight -/
def nxP (g : GtP) (cm : Bool) : StP := setlP g.st (cm && chkP g.st.fn g.st.is)
def decP (g : GtP) (l : LdP) (cm : Bool) : GtP × LdP :=
  if (storeP l (nxP g cm)).2 = 0 then ({ g with st := nxP g cm, dn := 0, out := g.out ++ pushP { g with st := nxP g cm, dn := 0 } }, (storeP l (nxP g cm)).1)
  else (g.offd, (storeP l (nxP g cm)).1)
theorem dec_0 {g : GtP} {l : LdP} {cm : Bool} {s : StP} (hs : nxP g cm = s) (h : (storeP l s).2 = 0) : decP g l cm = ({ g with st := s, dn := 0, out := g.out ++ pushP { g with st := s, dn := 0 } }, (storeP l s).1) := by
  subst hs; unfold decP; rw [if_pos h]
theorem dec_2 {g : GtP} {l : LdP} {cm : Bool} {s : StP} (hs : nxP g cm = s) (h : ¬ (storeP l s).2 = 0) : decP g l cm = (g.offd, (storeP l s).1) := by
  subst hs; unfold decP; rw [if_neg h]
def GF (gb : Nat) (g : GtV) (l : LdV) (Z : List (Nat × Obj)) : List (Nat × Obj) := (gb, C g.c 127) :: (g.st.E ++ (g.qE ++ ((g.rb, MD (kInt .u32) g.rl g.rn) :: (g.oE ++ ((g.led, C l.c 91) :: (l.d.E ++ Z))))))
/-- what an input leaves -/
def GO (gb led : Nat) (r : GtP × LdP) (Z : List (Nat × Obj)) (F' : List (Nat × Obj)) : Prop := ∃ (g' : GtV) (l' : LdV) (G : List (Nat × Obj)), g'.led = led ∧ g'.ok (Z ++ G) ∧ l'.ok (Z ++ G) ∧ g'.pl = r.1 ∧ l'.pl = r.2 ∧ F' = GF gb g' l' (Z ++ G)
theorem GO.same {gb : Nat} {r : GtP × LdP} {Z F' : List (Nat × Obj)} {g' : GtV} {l' : LdV} (h1 : g'.ok Z) (h2 : l'.ok Z) (h3 : g'.pl = r.1) (h4 : l'.pl = r.2) (h5 : F' = GF gb g' l' Z) : GO gb g'.led r Z F' := ⟨g', l', [], rfl, by rw [List.append_nil]; exact h1, by rw [List.append_nil]; exact h2, h3, h4, by rw [List.append_nil]; exact h5⟩
theorem put_ok {Z : List (Nat × Obj)} {g : GtV} (h : g.ok Z) {s : StV} (hs : s.ok Z) {p : Option Addr} {c : Nat} {E : List (Nat × Obj)} {l : List Ms} (hl : l.length ≤ 60) (h0 : g.out.length ≤ 40) (hR : Row (.slice p (g.out ++ l).length c) (g.out ++ l).length (fl msc (g.out ++ l)) 8 38 E) (ho : ∀ x, x ∈ l → x.ok) {ys dn tk : Int} (hy : 0 ≤ ys ∧ ys ≤ 65535) (hd : 0 ≤ dn ∧ dn ≤ 65535) (ht : 0 ≤ tk ∧ tk ≤ 1000000000) (au : Bool) (sl : Nat → ByteArray) : GtV.ok Z { g with st := s, ys := ys, dn := dn, tk := tk, au := au, sl := sl, out := g.out ++ l, op := p, oc := c, oE := E } :=
  ⟨hs, h.q, h.qo, h.ql, h.rv, h.rk, hy, hd, ht, hR, fun x hx => by
    rcases List.mem_append.1 hx with h9 | h9
    · exact h.oo x h9
    · exact ho x h9, by simp only [List.length_append]; omega⟩
theorem push_len (g : GtP) : (pushP g).length ≤ 32 := fm_len g 16


theorem gstore3 (Z : List (Nat × Obj)) (gb : Nat) (g : GtV) (l : LdV) (hl9 : l.ok Z) (s : StV) (hs : s.ok Z) (nw : Bool) : Sp Tryz.prog 46 #[.pointer (some ⟨gb, 0, none⟩), .agg ⟨s.c⟩, .bool nw] ((gb, C g.c 127) :: ((g.led, C l.c 91) :: (l.d.E ++ (s.vE ++ (s.iE ++ [(s.vb, MO (kInt .u32) s.vd)]))))) (fun v F' =>
    (∃ l' : LdV, (trP nw l.pl s.pl).2 = 0 ∧ l'.ok Z ∧ l'.pl = (trP nw l.pl s.pl).1 ∧ v = .nilIface ∧ F' = (gb, C (GtV.c { g with st := s }) 127) :: ((g.led, C l'.c 91) :: (l'.d.E ++ s.E))) ∨
    (∃ l' : LdV, (trP nw l.pl s.pl).2 = 1 ∧ l'.ok Z ∧ l'.pl = (trP nw l.pl s.pl).1 ∧ v = .iface 105 (.int .u8 1) ∧ F' = (gb, C g.c 127) :: ((g.led, C l'.c 91) :: (l'.d.E ++ s.E))) ∨
    (∃ l' : LdV, (trP nw l.pl s.pl).2 = 2 ∧ l'.ok Z ∧ l'.pl = (trP nw l.pl s.pl).1 ∧ v = .iface 105 (.int .u8 2) ∧ F' = (gb, C g.offd.c 127) :: ((g.led, C l'.c 91) :: (l'.d.E ++ s.E)))) := by
  have h := gstore_spec Z gb g l hl9 s hs nw
  rw [show LdV.F g.led l ++ s.E = (g.led, C l.c 91) :: (l.d.E ++ (s.vE ++ (s.iE ++ [(s.vb, MO (kInt .u32) s.vd)]))) by rw [StV.E_eq s]; rfl] at h
  refine sp_mono h fun v F ⟨l', h1, h2, h3, h4⟩ => ?_
  rcases trP_b nw l.pl s.pl with e | e | e
  · exact .inl ⟨l', e, h1, h2, by rw [h3, e]; rfl, by rw [h4, e]; rfl⟩
  · exact .inr (.inl ⟨l', e, h1, h2, by rw [h3, e]; rfl, by rw [h4, e]; rfl⟩)
  · exact .inr (.inr ⟨l', e, h1, h2, by rw [h3, e]; rfl, by rw [h4, e]; rfl⟩)

attribute [local irreducible] NtV.k StV.c LdV.c StV.E GtV.c GtV.t

set_option maxHeartbeats 4000000 in
theorem decide_spec (Z : List (Nat × Obj)) (gb : Nat) (g : GtV) (l : LdV) (hg : g.ok Z) (hl9 : l.ok Z) (hol : g.out.length ≤ 40) (cm : Bool) : Sp Tryz.prog 47 #[.pointer (some ⟨gb, 0, none⟩), .bool cm] (GF gb g l Z) (fun v F' => v = .tuple #[] ∧ GO gb g.led (decP g.pl l.pl cm) Z F') := by
  refine f_enter (args := [.pointer (some ⟨gb, 0, none⟩), .bool cm]) Tryz.func47 rfl Tryz.ntmps47 rfl ?_
  intro w0 w a hpre hl hh
  generalize hDD : List.map Prod.fst (GF gb g l Z) = D at hh ⊢
  simp only [GF] at hh
  simp only [slotsFrom, Nat.reduceAdd] at hl
  refine c_seq ?_
  refine c_region ?_
  refine wl (wl_val hl rfl trivial (r_move hl rfl) ?_)
  clear hl a; intro a hl
  refine wl (wl_val hl rfl trivial (r_nilCheck hl rfl) ?_)
  clear hl a; intro a hl
  refine wl (wl_val hl rfl trivial (r_field hl rfl fld127_1) ?_)
  clear hl a; intro a hl
  refine wl (w_loadA hl hh rfl trivial agg89 rfl (by repeat (first | exact find_head | apply find_tail | apply find_skip)) (by first | exact gtc_st _ | exact stc_all _) (by exact stc_len _) ?_)
  clear hl a; intro a hl
  refine wl (w_call hl hh rfl trivial rfl cal27 rfl (cln_spec Z g.st hg.st) (by repeat (first | exact keeps_nil | apply keeps_cons (by repeat (first | exact find_head | apply find_tail | apply find_skip)) (by first  | rfl) | exact keeps_self | exact keeps_left | apply keeps_app | apply keeps_mv | apply keeps_skip)) trivial ?_)
  clear hl hh a w; intro vc Fc a w hR hl hh
  obtain ⟨s1, hs1, hps1, rfl, rfl⟩ := hR
  try simp only [List.cons_append, List.nil_append, List.append_assoc, List.append_nil] at hh
  rw [StV.E_eq s1] at hh
  try simp only [List.append_assoc, List.cons_append, List.nil_append] at hh
  refine wl (w_alloc hl hh rfl trivial zero89 rfl ?_)
  clear hl hh a w; intro k4 a w hl hh
  refine wl (w_storeA hl hh trivial agg89 rfl rfl (by repeat (first | exact find_head | apply find_tail | apply find_skip)) (by exact stc_len _) (by first | exact Nat.le_refl 70 | (rw [gtc_len]; omega)) (by exact stc_one _) (by first | exact setL_all (show 70 = _ from (stc_len _).symm) | exact gtc_sst _ _) ?_)
  clear hh w; intro w hh
  refine w_nil ?_
  have hl2 := hl.add (t := 0) (hl.add (t := 1) (hl.add (t := 4) (hl.nil) rfl) rfl) rfl; clear hl; have hl := hl2; clear hl2
  refine then_normal ?_
  refine c_seq ?_
  refine c_region ?_
  refine wl (wl_val hl rfl trivial (r_move hl rfl) ?_)
  clear hl a; intro a hl
  refine wl (wl_val hl rfl trivial (r_move hl rfl) ?_)
  clear hl a; intro a hl
  refine sl_split (t := 11) hl rfl ?_ ?_
  · intro hg1; clear hl; intro hl
    try simp only [decide_eq_true_eq, decide_eq_false_iff_not, Bool.not_eq_true', Bool.not_eq_false', Bool.not_eq_true, Bool.not_eq_false, Bool.and_eq_true, Bool.or_eq_true, Bool.and_eq_false_iff, Bool.or_eq_false_iff, Bool.not_not, ne_eq, Int.not_lt, Int.not_le, Decidable.not_not, beq_iff_eq, bne_iff_ne] at hg1
    refine wl (wl_val hl rfl ⟨_, _, rfl, rfl, rfl⟩ (r_field hl rfl fld89_3) ?_)
    clear hl a; intro a hl
    refine wl (wl_val hl rfl ⟨_, _, rfl, rfl, rfl⟩ (r_field hl rfl fld87_2) ?_)
    clear hl a; intro a hl
    refine wl (w_loadA hl hh rfl ⟨_, _, rfl, rfl, rfl⟩ agg66 rfl (by repeat (first | exact find_head | apply find_tail | apply find_skip)) (by first | exact gtc_nx _ | exact stc_nx' _) (by exact ntk_len _) ?_)
    clear hl a; intro a hl
    rw [ntk_eq hs1.fn] at hl
    refine wl (wl_val hl rfl ⟨_, _, rfl, rfl, rfl⟩ (r_field hl rfl fld89_2) ?_)
    clear hl a; intro a hl
    refine wl (w_load hl hh rfl ⟨_, _, rfl, rfl, rfl⟩ one75 rfl (by repeat (first | exact find_head | apply find_tail | apply find_skip)) (by first | exact gtc_led _ | exact gtc_ep _ | exact gtc_vs _ | exact gtc_is _ | exact gtc_fid _ | exact gtc_ph _ | exact gtc_vd _ | exact gtc_q _ | exact gtc_rf _ | exact gtc_ys _ | exact gtc_dn _ | exact gtc_tk _ | exact gtc_au _ | exact gtc_o _ | exact gtc_off _ | exact stc_ph' _ | exact stc_fid' _ | exact stc_vd' _ | exact stc_ep' _ | exact stc_vs' _ | exact stc_is' _ | rfl) ?_)
    clear hl a; intro a hl
    refine wl (w_call hl hh rfl ⟨_, _, rfl, rfl, rfl⟩ rfl cal58 rfl (check_spec Z s1.fn hs1.fn s1.is hs1.io s1.ip s1.ic s1.iE hs1.i (by have := hs1.il; omega)) (by repeat (first | exact keeps_nil | apply keeps_cons (by repeat (first | exact find_head | apply find_tail | apply find_skip)) (by first  | rfl) | exact keeps_self | exact keeps_left | apply keeps_app | apply keeps_mv | apply keeps_skip)) ⟨memK hh (by repeat (first | exact keeps_nil | apply keeps_cons (by repeat (first | exact find_head | apply find_tail | apply find_skip)) (by first  | rfl) | exact keeps_self | exact keeps_left | apply keeps_app | apply keeps_mv | apply keeps_skip)), memK hh (by repeat (first | exact keeps_nil | apply keeps_cons (by repeat (first | exact find_head | apply find_tail | apply find_skip)) (by first  | rfl) | exact keeps_self | exact keeps_left | apply keeps_app | apply keeps_mv | apply keeps_skip))⟩ ?_)
    clear hl hh a w; intro vc Fc a w hR hl hh
    obtain ⟨rfl, rfl⟩ := hR
    try simp only [List.cons_append, List.nil_append, List.append_assoc, List.append_nil] at hh
    refine wl (wl_val hl rfl trivial (r_pickT hl rfl rfl) ?_)
    clear hl a; intro a hl
    refine wl (w_call hl hh rfl trivial rfl cal29 rfl (settle_spec k4 s1 _) (by repeat (first | exact keeps_nil | apply keeps_cons (by repeat (first | exact find_head | apply find_tail | apply find_skip)) (by first  | rfl) | exact keeps_self | exact keeps_left | apply keeps_app | apply keeps_mv | apply keeps_skip)) trivial ?_)
    clear hl hh a w; intro vc Fc a w hR hl hh
    obtain ⟨rfl, rfl⟩ := hR
    try simp only [List.cons_append, List.nil_append, List.append_assoc, List.append_nil] at hh
    obtain ⟨b9, hb9⟩ : ∃ b9, b9 = (cm && chkP g.pl.st.fn g.pl.st.is) := ⟨_, rfl⟩
    have hbb : ∀ b8, b8 = (cm && chkP s1.fn.pl s1.is) → b8 = b9 := fun b8 h => by rw [h, hb9, ← show s1.pl.fn = g.pl.st.fn from congrArg StP.fn hps1, ← show s1.pl.is = g.pl.st.is from congrArg StP.is hps1]; rfl
    first | rw [hbb (chkP s1.fn.pl s1.is) (by rw [hg1]; rfl)] at hh | rw [hbb false (by rw [hg1]; rfl)] at hh
    have hnx : nxP g.pl cm = (s1.setl b9).pl := by unfold nxP; rw [setl_pl, hps1, hb9]; rfl
    have hso := setl_ok hs1 b9
    refine w_nil ?_
    have hl2 := hl.add (t := 0) (hl.add (t := 4) (hl.nil) rfl) rfl; clear hl; have hl := hl2; clear hl2
    refine then_normal ?_
    refine c_seq ?_
    refine c_seq ?_
    refine c_region ?_
    refine wl (wl_val hl rfl trivial (r_move hl rfl) ?_)
    clear hl a; intro a hl
    refine wl (w_loadA hl hh rfl trivial agg89 rfl (by repeat (first | exact find_head | apply find_tail | apply find_skip)) (by first | exact gtc_st _ | exact stc_all _) (by exact stc_len _) ?_)
    clear hl a; intro a hl
    refine wl (w_call hl hh rfl trivial rfl cal46 rfl (gstore3 Z gb g l hl9 (s1.setl b9) hso false) (by repeat (first | exact keeps_nil | apply keeps_cons (by repeat (first | exact find_head | apply find_tail | apply find_skip)) (by first  | rfl) | exact keeps_self | exact keeps_left | apply keeps_app | apply keeps_mv | apply keeps_skip)) trivial ?_)
    clear hl hh a w; intro vc Fc a w hR hl hh
    rcases hR with ⟨l', hr, hl', hp', rfl, rfl⟩ | ⟨l', hr, hl', hp', rfl, rfl⟩ | ⟨l', hr, hl', hp', rfl, rfl⟩
    ·
      try simp only [List.cons_append, List.nil_append, List.append_nil] at hh
      try simp only [List.append_assoc, List.cons_append, List.nil_append] at hh
      first | refine wl (wl_val hl rfl trivial (r_neq_ifcN hl rfl ifc102) ?_) | refine wl (wl_val hl rfl trivial (r_neq_ifcS hl rfl ifc102) ?_)
      clear hl a; intro a hl
      refine w_nil ?_
      have hl2 := hl.add (t := 0) (hl.add (t := 23) (hl.nil) rfl) rfl; clear hl; have hl := hl2; clear hl2
      refine then_normal ?_
      refine c_condF hl rfl ?_
      refine wp_skip ?_
      refine then_normal ?_
      refine c_seq ?_
      refine c_region ?_
      refine wl (wl_val hl rfl trivial (r_move hl rfl) ?_)
      clear hl a; intro a hl
      refine wl (wl_val hl rfl trivial (r_nilCheck hl rfl) ?_)
      clear hl a; intro a hl
      refine wl (wl_val hl rfl trivial (r_field hl rfl fld127_6) ?_)
      clear hl a; intro a hl
      refine wl (w_store hl hh trivial one60 rfl rfl (by repeat (first | exact find_head | apply find_tail | apply find_skip)) (by first | (simp; done) | (simp; omega) | (rw [gtc_len]; omega) | (rw [gtc_len]; simp; done)) (by first | rfl | assumption | (apply Row.one; assumption)) (by first | exact gtc_sys _ _ | exact gtc_sdn _ _ | exact gtc_stk _ _ | exact gtc_sau _ _ | exact gtc_soff _ _ | (simp only [setL, List.getElem?_cons_zero, List.getElem?_cons_succ, Value.cells, List.take_zero, List.take_succ_cons, List.take_nil, List.drop_zero, List.drop_succ_cons, List.drop_nil, List.length_cons, List.length_nil, List.cons_append, List.nil_append, List.append_nil, Nat.zero_add, Nat.add_zero, Nat.reduceAdd, Nat.reduceBEq, Nat.reduceEqDiff, Nat.ble, BEq.rfl, Bool.and_true, Bool.and_self, cond_true, beq_self_eq_true]; rfl)) ?_)
      clear hh w; intro w hh
      refine w_nil ?_
      have hl2 := hl.add (t := 0) (hl.nil) rfl; clear hl; have hl := hl2; clear hl2
      refine then_normal ?_
      refine c_region ?_
      refine wl (wl_val hl rfl trivial (r_move hl rfl) ?_)
      clear hl a; intro a hl
      refine wl (w_call hl hh rfl trivial rfl cal31 rfl (push_spec gb { g with st := s1.setl b9, dn := 0 } hg.o (by simp only; omega) hso.ph) (by repeat (first | exact keeps_nil | apply keeps_cons (by repeat (first | exact find_head | apply find_tail | apply find_skip)) (by first  | rfl) | exact keeps_self | exact keeps_left | apply keeps_app | apply keeps_mv | apply keeps_skip)) trivial ?_)
      clear hl hh a w; intro vc Fc a w hR hl hh
      obtain ⟨rfl, p6, c6, E6, hR6, rfl⟩ := hR
      try simp only [List.cons_append, List.nil_append, List.append_assoc, List.append_nil] at hh
      refine w_nil ?_
      have hl2 := hl.nil; clear hl; have hl := hl2; clear hl2
      refine f_end0 (F' := (gb, C (GtV.c { g with st := s1.setl b9, dn := 0, out := g.out ++ pushP (GtV.pl { g with st := s1.setl b9, dn := 0 }), op := p6, oc := c6, oE := E6 }) 127) :: ((s1.setl b9).E ++ (g.qE ++ ((g.rb, MD (kInt .u32) g.rl g.rn) :: (E6 ++ ((g.led, C (LdV.c l') 91) :: (l'.d.E ++ Z))))))) hl hh rfl (by repeat (first | exact keeps_nil | apply keeps_cons (by repeat (first | exact find_head | apply find_tail | apply find_skip)) (by first  | rfl) | exact keeps_self | exact keeps_left | apply keeps_app | apply keeps_mv | apply keeps_skip)) ?_
      refine ⟨rfl, ?_⟩
      refine GO.same (g' := { g with st := s1.setl b9, dn := 0, out := g.out ++ pushP (GtV.pl { g with st := s1.setl b9, dn := 0 }), op := p6, oc := c6, oE := E6 }) (put_ok hg hso (by have := push_len (GtV.pl { g with st := s1.setl b9, dn := 0 }); omega) hol hR6 (push_ok hso.ep hso.fid) hg.ys (by omega) hg.tk g.au g.sl) hl' ?_ ?_ rfl
      · rw [dec_0 hnx hr]; rfl
      · rw [dec_0 hnx hr]; exact hp'
    ·
      try simp only [List.cons_append, List.nil_append, List.append_nil] at hh
      try simp only [List.append_assoc, List.cons_append, List.nil_append] at hh
      first | refine wl (wl_val hl rfl trivial (r_neq_ifcN hl rfl ifc102) ?_) | refine wl (wl_val hl rfl trivial (r_neq_ifcS hl rfl ifc102) ?_)
      clear hl a; intro a hl
      refine w_nil ?_
      have hl2 := hl.add (t := 0) (hl.add (t := 23) (hl.nil) rfl) rfl; clear hl; have hl := hl2; clear hl2
      refine then_normal ?_
      refine c_condT hl rfl ?_
      refine wp_ret ?_
      refine then_ret ?_
      first
      | (exfalso; have h9 := storeP_b l.pl (s1.setl b9).pl; have h8 : (storeP l.pl (s1.setl b9).pl).2 = 1 := hr; omega)
      | (refine f_ret0 (F' := (gb, C (GtV.c g.offd) 127) :: (g.st.E ++ (g.qE ++ ((g.rb, MD (kInt .u32) g.rl g.rn) :: ([] ++ ((g.led, C (LdV.c l') 91) :: (l'.d.E ++ Z))))))) hl hh rfl (by repeat (first | exact keeps_nil | apply keeps_cons (by repeat (first | exact find_head | apply find_tail | apply find_skip)) (by first  | rfl) | exact keeps_self | exact keeps_left | apply keeps_app | apply keeps_mv | apply keeps_skip)) ?_; refine ⟨rfl, ?_⟩; refine GO.same (g' := g.offd) (offd_ok hg) hl' ?_ ?_ rfl; (rw [dec_2 hnx (by show ¬ (trP false l.pl (s1.setl b9).pl).2 = 0; omega)]; rfl); (rw [dec_2 hnx (by show ¬ (trP false l.pl (s1.setl b9).pl).2 = 0; omega)]; exact hp'))
    ·
      try simp only [List.cons_append, List.nil_append, List.append_nil] at hh
      try simp only [List.append_assoc, List.cons_append, List.nil_append] at hh
      first | refine wl (wl_val hl rfl trivial (r_neq_ifcN hl rfl ifc102) ?_) | refine wl (wl_val hl rfl trivial (r_neq_ifcS hl rfl ifc102) ?_)
      clear hl a; intro a hl
      refine w_nil ?_
      have hl2 := hl.add (t := 0) (hl.add (t := 23) (hl.nil) rfl) rfl; clear hl; have hl := hl2; clear hl2
      refine then_normal ?_
      refine c_condT hl rfl ?_
      refine wp_ret ?_
      refine then_ret ?_
      first
      | (exfalso; have h9 := storeP_b l.pl (s1.setl b9).pl; have h8 : (storeP l.pl (s1.setl b9).pl).2 = 1 := hr; omega)
      | (refine f_ret0 (F' := (gb, C (GtV.c g.offd) 127) :: (g.st.E ++ (g.qE ++ ((g.rb, MD (kInt .u32) g.rl g.rn) :: ([] ++ ((g.led, C (LdV.c l') 91) :: (l'.d.E ++ Z))))))) hl hh rfl (by repeat (first | exact keeps_nil | apply keeps_cons (by repeat (first | exact find_head | apply find_tail | apply find_skip)) (by first  | rfl) | exact keeps_self | exact keeps_left | apply keeps_app | apply keeps_mv | apply keeps_skip)) ?_; refine ⟨rfl, ?_⟩; refine GO.same (g' := g.offd) (offd_ok hg) hl' ?_ ?_ rfl; (rw [dec_2 hnx (by show ¬ (trP false l.pl (s1.setl b9).pl).2 = 0; omega)]; rfl); (rw [dec_2 hnx (by show ¬ (trP false l.pl (s1.setl b9).pl).2 = 0; omega)]; exact hp'))
  · intro hg1; clear hl; intro hl
    try simp only [decide_eq_true_eq, decide_eq_false_iff_not, Bool.not_eq_true', Bool.not_eq_false', Bool.not_eq_true, Bool.not_eq_false, Bool.and_eq_true, Bool.or_eq_true, Bool.and_eq_false_iff, Bool.or_eq_false_iff, Bool.not_not, ne_eq, Int.not_lt, Int.not_le, Decidable.not_not, beq_iff_eq, bne_iff_ne] at hg1
    refine wl (wl_skip hl rfl ⟨_, _, rfl, rfl, rfl⟩ ?_)
    clear hl a; intro a hl
    refine wl (wl_skip hl rfl ⟨_, _, rfl, rfl, rfl⟩ ?_)
    clear hl a; intro a hl
    refine wl (wl_skip hl rfl ⟨_, _, rfl, rfl, rfl⟩ ?_)
    clear hl a; intro a hl
    refine wl (wl_skip hl rfl ⟨_, _, rfl, rfl, rfl⟩ ?_)
    clear hl a; intro a hl
    refine wl (wl_skip hl rfl ⟨_, _, rfl, rfl, rfl⟩ ?_)
    clear hl a; intro a hl
    refine wl (wl_skip hl rfl ⟨_, _, rfl, rfl, rfl⟩ ?_)
    clear hl a; intro a hl
    refine wl (wl_val hl rfl trivial (r_pickF hl rfl rfl) ?_)
    clear hl a; intro a hl
    refine wl (w_call hl hh rfl trivial rfl cal29 rfl (settle_spec k4 s1 _) (by repeat (first | exact keeps_nil | apply keeps_cons (by repeat (first | exact find_head | apply find_tail | apply find_skip)) (by first  | rfl) | exact keeps_self | exact keeps_left | apply keeps_app | apply keeps_mv | apply keeps_skip)) trivial ?_)
    clear hl hh a w; intro vc Fc a w hR hl hh
    obtain ⟨rfl, rfl⟩ := hR
    try simp only [List.cons_append, List.nil_append, List.append_assoc, List.append_nil] at hh
    obtain ⟨b9, hb9⟩ : ∃ b9, b9 = (cm && chkP g.pl.st.fn g.pl.st.is) := ⟨_, rfl⟩
    have hbb : ∀ b8, b8 = (cm && chkP s1.fn.pl s1.is) → b8 = b9 := fun b8 h => by rw [h, hb9, ← show s1.pl.fn = g.pl.st.fn from congrArg StP.fn hps1, ← show s1.pl.is = g.pl.st.is from congrArg StP.is hps1]; rfl
    first | rw [hbb (chkP s1.fn.pl s1.is) (by rw [hg1]; rfl)] at hh | rw [hbb false (by rw [hg1]; rfl)] at hh
    have hnx : nxP g.pl cm = (s1.setl b9).pl := by unfold nxP; rw [setl_pl, hps1, hb9]; rfl
    have hso := setl_ok hs1 b9
    refine w_nil ?_
    have hl2 := hl.add (t := 0) (hl.add (t := 4) (hl.nil) rfl) rfl; clear hl; have hl := hl2; clear hl2
    refine then_normal ?_
    refine c_seq ?_
    refine c_seq ?_
    refine c_region ?_
    refine wl (wl_val hl rfl trivial (r_move hl rfl) ?_)
    clear hl a; intro a hl
    refine wl (w_loadA hl hh rfl trivial agg89 rfl (by repeat (first | exact find_head | apply find_tail | apply find_skip)) (by first | exact gtc_st _ | exact stc_all _) (by exact stc_len _) ?_)
    clear hl a; intro a hl
    refine wl (w_call hl hh rfl trivial rfl cal46 rfl (gstore3 Z gb g l hl9 (s1.setl b9) hso false) (by repeat (first | exact keeps_nil | apply keeps_cons (by repeat (first | exact find_head | apply find_tail | apply find_skip)) (by first  | rfl) | exact keeps_self | exact keeps_left | apply keeps_app | apply keeps_mv | apply keeps_skip)) trivial ?_)
    clear hl hh a w; intro vc Fc a w hR hl hh
    rcases hR with ⟨l', hr, hl', hp', rfl, rfl⟩ | ⟨l', hr, hl', hp', rfl, rfl⟩ | ⟨l', hr, hl', hp', rfl, rfl⟩
    ·
      try simp only [List.cons_append, List.nil_append, List.append_nil] at hh
      try simp only [List.append_assoc, List.cons_append, List.nil_append] at hh
      first | refine wl (wl_val hl rfl trivial (r_neq_ifcN hl rfl ifc102) ?_) | refine wl (wl_val hl rfl trivial (r_neq_ifcS hl rfl ifc102) ?_)
      clear hl a; intro a hl
      refine w_nil ?_
      have hl2 := hl.add (t := 0) (hl.add (t := 23) (hl.nil) rfl) rfl; clear hl; have hl := hl2; clear hl2
      refine then_normal ?_
      refine c_condF hl rfl ?_
      refine wp_skip ?_
      refine then_normal ?_
      refine c_seq ?_
      refine c_region ?_
      refine wl (wl_val hl rfl trivial (r_move hl rfl) ?_)
      clear hl a; intro a hl
      refine wl (wl_val hl rfl trivial (r_nilCheck hl rfl) ?_)
      clear hl a; intro a hl
      refine wl (wl_val hl rfl trivial (r_field hl rfl fld127_6) ?_)
      clear hl a; intro a hl
      refine wl (w_store hl hh trivial one60 rfl rfl (by repeat (first | exact find_head | apply find_tail | apply find_skip)) (by first | (simp; done) | (simp; omega) | (rw [gtc_len]; omega) | (rw [gtc_len]; simp; done)) (by first | rfl | assumption | (apply Row.one; assumption)) (by first | exact gtc_sys _ _ | exact gtc_sdn _ _ | exact gtc_stk _ _ | exact gtc_sau _ _ | exact gtc_soff _ _ | (simp only [setL, List.getElem?_cons_zero, List.getElem?_cons_succ, Value.cells, List.take_zero, List.take_succ_cons, List.take_nil, List.drop_zero, List.drop_succ_cons, List.drop_nil, List.length_cons, List.length_nil, List.cons_append, List.nil_append, List.append_nil, Nat.zero_add, Nat.add_zero, Nat.reduceAdd, Nat.reduceBEq, Nat.reduceEqDiff, Nat.ble, BEq.rfl, Bool.and_true, Bool.and_self, cond_true, beq_self_eq_true]; rfl)) ?_)
      clear hh w; intro w hh
      refine w_nil ?_
      have hl2 := hl.add (t := 0) (hl.nil) rfl; clear hl; have hl := hl2; clear hl2
      refine then_normal ?_
      refine c_region ?_
      refine wl (wl_val hl rfl trivial (r_move hl rfl) ?_)
      clear hl a; intro a hl
      refine wl (w_call hl hh rfl trivial rfl cal31 rfl (push_spec gb { g with st := s1.setl b9, dn := 0 } hg.o (by simp only; omega) hso.ph) (by repeat (first | exact keeps_nil | apply keeps_cons (by repeat (first | exact find_head | apply find_tail | apply find_skip)) (by first  | rfl) | exact keeps_self | exact keeps_left | apply keeps_app | apply keeps_mv | apply keeps_skip)) trivial ?_)
      clear hl hh a w; intro vc Fc a w hR hl hh
      obtain ⟨rfl, p6, c6, E6, hR6, rfl⟩ := hR
      try simp only [List.cons_append, List.nil_append, List.append_assoc, List.append_nil] at hh
      refine w_nil ?_
      have hl2 := hl.nil; clear hl; have hl := hl2; clear hl2
      refine f_end0 (F' := (gb, C (GtV.c { g with st := s1.setl b9, dn := 0, out := g.out ++ pushP (GtV.pl { g with st := s1.setl b9, dn := 0 }), op := p6, oc := c6, oE := E6 }) 127) :: ((s1.setl b9).E ++ (g.qE ++ ((g.rb, MD (kInt .u32) g.rl g.rn) :: (E6 ++ ((g.led, C (LdV.c l') 91) :: (l'.d.E ++ Z))))))) hl hh rfl (by repeat (first | exact keeps_nil | apply keeps_cons (by repeat (first | exact find_head | apply find_tail | apply find_skip)) (by first  | rfl) | exact keeps_self | exact keeps_left | apply keeps_app | apply keeps_mv | apply keeps_skip)) ?_
      refine ⟨rfl, ?_⟩
      refine GO.same (g' := { g with st := s1.setl b9, dn := 0, out := g.out ++ pushP (GtV.pl { g with st := s1.setl b9, dn := 0 }), op := p6, oc := c6, oE := E6 }) (put_ok hg hso (by have := push_len (GtV.pl { g with st := s1.setl b9, dn := 0 }); omega) hol hR6 (push_ok hso.ep hso.fid) hg.ys (by omega) hg.tk g.au g.sl) hl' ?_ ?_ rfl
      · rw [dec_0 hnx hr]; rfl
      · rw [dec_0 hnx hr]; exact hp'
    ·
      try simp only [List.cons_append, List.nil_append, List.append_nil] at hh
      try simp only [List.append_assoc, List.cons_append, List.nil_append] at hh
      first | refine wl (wl_val hl rfl trivial (r_neq_ifcN hl rfl ifc102) ?_) | refine wl (wl_val hl rfl trivial (r_neq_ifcS hl rfl ifc102) ?_)
      clear hl a; intro a hl
      refine w_nil ?_
      have hl2 := hl.add (t := 0) (hl.add (t := 23) (hl.nil) rfl) rfl; clear hl; have hl := hl2; clear hl2
      refine then_normal ?_
      refine c_condT hl rfl ?_
      refine wp_ret ?_
      refine then_ret ?_
      first
      | (exfalso; have h9 := storeP_b l.pl (s1.setl b9).pl; have h8 : (storeP l.pl (s1.setl b9).pl).2 = 1 := hr; omega)
      | (refine f_ret0 (F' := (gb, C (GtV.c g.offd) 127) :: (g.st.E ++ (g.qE ++ ((g.rb, MD (kInt .u32) g.rl g.rn) :: ([] ++ ((g.led, C (LdV.c l') 91) :: (l'.d.E ++ Z))))))) hl hh rfl (by repeat (first | exact keeps_nil | apply keeps_cons (by repeat (first | exact find_head | apply find_tail | apply find_skip)) (by first  | rfl) | exact keeps_self | exact keeps_left | apply keeps_app | apply keeps_mv | apply keeps_skip)) ?_; refine ⟨rfl, ?_⟩; refine GO.same (g' := g.offd) (offd_ok hg) hl' ?_ ?_ rfl; (rw [dec_2 hnx (by show ¬ (trP false l.pl (s1.setl b9).pl).2 = 0; omega)]; rfl); (rw [dec_2 hnx (by show ¬ (trP false l.pl (s1.setl b9).pl).2 = 0; omega)]; exact hp'))
    ·
      try simp only [List.cons_append, List.nil_append, List.append_nil] at hh
      try simp only [List.append_assoc, List.cons_append, List.nil_append] at hh
      first | refine wl (wl_val hl rfl trivial (r_neq_ifcN hl rfl ifc102) ?_) | refine wl (wl_val hl rfl trivial (r_neq_ifcS hl rfl ifc102) ?_)
      clear hl a; intro a hl
      refine w_nil ?_
      have hl2 := hl.add (t := 0) (hl.add (t := 23) (hl.nil) rfl) rfl; clear hl; have hl := hl2; clear hl2
      refine then_normal ?_
      refine c_condT hl rfl ?_
      refine wp_ret ?_
      refine then_ret ?_
      first
      | (exfalso; have h9 := storeP_b l.pl (s1.setl b9).pl; have h8 : (storeP l.pl (s1.setl b9).pl).2 = 1 := hr; omega)
      | (refine f_ret0 (F' := (gb, C (GtV.c g.offd) 127) :: (g.st.E ++ (g.qE ++ ((g.rb, MD (kInt .u32) g.rl g.rn) :: ([] ++ ((g.led, C (LdV.c l') 91) :: (l'.d.E ++ Z))))))) hl hh rfl (by repeat (first | exact keeps_nil | apply keeps_cons (by repeat (first | exact find_head | apply find_tail | apply find_skip)) (by first  | rfl) | exact keeps_self | exact keeps_left | apply keeps_app | apply keeps_mv | apply keeps_skip)) ?_; refine ⟨rfl, ?_⟩; refine GO.same (g' := g.offd) (offd_ok hg) hl' ?_ ?_ rfl; (rw [dec_2 hnx (by show ¬ (trP false l.pl (s1.setl b9).pl).2 = 0; omega)]; rfl); (rw [dec_2 hnx (by show ¬ (trP false l.pl (s1.setl b9).pl).2 = 0; omega)]; exact hp'))
end Go.Proofs.Qxb6500908aGreat

import Derived.Test.Qxb6500908aGreatZ5
namespace Go.Proofs.Qxb6500908aGreat
open Go.Eng
set_option linter.unusedVariables false
set_option linter.unusedSimpArgs false
theorem cal115 : callable Tryz.prog 115 = true := by kernel_rfl
theorem cal116 : callable Tryz.prog 116 = true := by kernel_rfl
theorem zero80 : zeroOk Tryz.prog 80 (.agg #[(.bool false), (.bool false), (.bool false), (.bool false), (.bool false), (.bool false), (.bool false), (.bool false), (.bool false), (.bool false), (.bool false), (.bool false), (.bool false), (.bool false), (.bool false), (.bool false)]) := by unfold zeroOk; kernel_rfl
theorem bld80 : buildOk Tryz.prog 80 [(0, 1), (1, 1), (2, 1), (3, 1), (4, 1), (5, 1), (6, 1), (7, 1), (8, 1), (9, 1), (10, 1), (11, 1), (12, 1), (13, 1), (14, 1), (15, 1)] = true := by kernel_rfl
theorem cal117 : callable Tryz.prog 117 = true := by kernel_rfl
/-! ## bits of a mask -/
theorem bv_sh1 {j : Nat} (hj : j < 16) : bv (sh1 (j : Int)) = BitVec.twoPow 16 j := by
  unfold bv sh1
  rcases (show j = 0 ∨ j = 1 ∨ j = 2 ∨ j = 3 ∨ j = 4 ∨ j = 5 ∨ j = 6 ∨ j = 7 ∨ j = 8 ∨ j = 9 ∨ j = 10 ∨ j = 11 ∨ j = 12 ∨ j = 13 ∨ j = 14 ∨ j = 15 by omega) with rfl | rfl | rfl | rfl | rfl | rfl | rfl | rfl | rfl | rfl | rfl | rfl | rfl | rfl | rfl | rfl <;> decide
theorem bit_iff {x : Int} {j : Nat} (hj : j < 16) : bitIn x j = (bv x).getLsbD j := by
  have h : bitsOf .and .u16 x (sh1 (j : Int)) = ((bv x &&& bv (sh1 (j : Int))).toNat : Int) := by
    unfold bitsOf
    refine wrap_fits (k := .u16) ?_
    have := (BitVec.ofInt 16 x &&& BitVec.ofInt 16 (sh1 (j : Int))).isLt
    show 0 ≤ ((BitVec.ofInt 16 x &&& BitVec.ofInt 16 (sh1 (j : Int))).toNat : Int) ∧ ((BitVec.ofInt 16 x &&& BitVec.ofInt 16 (sh1 (j : Int))).toNat : Int) ≤ 65535
    omega
  unfold bitIn
  rw [h, bv_sh1 hj, BitVec.and_twoPow]
  cases hb : (bv x).getLsbD j with
  | true =>
    rw [if_pos rfl, BitVec.toNat_twoPow]
    rcases (show j = 0 ∨ j = 1 ∨ j = 2 ∨ j = 3 ∨ j = 4 ∨ j = 5 ∨ j = 6 ∨ j = 7 ∨ j = 8 ∨ j = 9 ∨ j = 10 ∨ j = 11 ∨ j = 12 ∨ j = 13 ∨ j = 14 ∨ j = 15 by omega) with rfl | rfl | rfl | rfl | rfl | rfl | rfl | rfl | rfl | rfl | rfl | rfl | rfl | rfl | rfl | rfl <;> rfl
  | false => rw [if_neg (by simp)]; rfl
theorem bit_or {x : Int} {d j : Nat} (hd : d < 16) (hj : j < 16) : bitIn (orB x (sh1 (d : Int))) j = (bitIn x j || decide (j = d)) := by
  rw [bit_iff hj, bit_iff hj, bv_or, BitVec.getLsbD_or, bv_sh1 hd, BitVec.getLsbD_twoPow]
  congr 1
  simp [hd, eq_comm]
theorem bit_all {j : Nat} (hj : j < 16) : bitIn 65535 j = true := by
  rw [bit_iff hj, show bv 65535 = BitVec.allOnes 16 from rfl, BitVec.getLsbD_allOnes]
  simp [hj]
/-- all bits are set -/
theorem bits_all {x : Int} (hx : 0 ≤ x ∧ x ≤ 65535) (h : ∀ d, d < 16 → bitIn x d = true) : x = 65535 := by
  have h1 : bv x = BitVec.allOnes 16 := by
    apply BitVec.eq_of_getLsbD_eq
    intro i hi
    rw [← bit_iff hi, h i hi, BitVec.getLsbD_allOnes]
    simp [hi]
  have h2 : (bv x).toNat = 65535 := by rw [h1]; rfl
  unfold bv at h2
  rw [BitVec.toNat_ofInt] at h2
  omega

theorem du_setl {s1 : DuV} {st : StP} (h : s1.pl = st) (c : Bool) : DuV.pl { s1 with ph := if c then 2 else 3, vd := mput s1.vd s1.fid (.int .u8 (if c then 3 else 4)) } = setlP st c := by
  subst h
  unfold DuV.pl setlP
  simp only [StP.mk.injEq, true_and]
  funext i
  rw [mget_mput]
  split
  · rfl
  · rfl
theorem du_vdok {Z : List (Nat × Obj)} {s : DuV} (h : s.ok Z) {x : Int} (hx : 0 ≤ x ∧ x ≤ 3) (k : Int) {y : Int} (hy : 0 ≤ y ∧ y ≤ 255) : DuV.ok Z { s with ph := x, vd := mput s.vd k (.int .u8 y) } :=
  ⟨h.ep, h.a, h.n, h.e, h.vo, h.vl, h.v1, h.i, h.io, h.il, h.fid, hx, h.fn, fun i v e => by
    simp only at e
    rw [mget_mput] at e
    split at e
    · injection e with e; exact ⟨y, e.symm, hy⟩
    · exact h.vd i v e, (mput_k9 h.vk).1⟩
theorem duc_vdl (s : DuV) (l : List (Int × Value)) : DuV.c { s with vd := l } = s.c := rfl
/-- messages and what is left -/
def MdS (mb : Nat) (r : GtP × LdP) (Z : List (Nat × Obj)) (v : Value) (F' : List (Nat × Obj)) : Prop := ∃ (p : Option Addr) (c : Nat) (E F2 : List (Nat × Obj)), Row (.slice p r.1.out.length c) r.1.out.length (fl msc r.1.out) 8 38 E ∧ (∀ x, x ∈ r.1.out → x.t.size ≤ 1000) ∧ v = .slice p r.1.out.length c ∧ MdO mb r Z F2 ∧ F' = E ++ F2
theorem MdS.nil {mb : Nat} {r : GtP × LdP} {Z F' : List (Nat × Obj)} (ho : r.1.out = []) (h : MdO mb r Z F') : MdS mb r Z (.slice none 0 0) F' := ⟨none, 0, [], F', by rw [ho]; exact Row.nil _ _, (by rw [ho]; intro x hx; cases hx), by rw [ho]; rfl, h, rfl⟩
theorem MdS.of {mb : Nat} {r : GtP × LdP} {Z F' : List (Nat × Obj)} {m' : MdV} {out : List Ms} {p : Option Addr} {c : Nat} {E : List (Nat × Obj)} (ho : r.1.out = out) (hR : Row (.slice p out.length c) out.length (fl msc out) 8 38 E) (hz : ∀ x, x ∈ out → x.t.size ≤ 1000) (h : MdR Z m' r.1 r.2) (hF : F' = E ++ MF mb m' Z) : MdS mb r Z (.slice p out.length c) F' := by
  subst ho
  exact ⟨p, c, E, _, hR, hz, rfl, MdO.same h rfl, hF⟩


attribute [local irreducible] NtV.k StV.c LdV.c StV.E GtV.c GtV.t DuV.c DuV.E MdV.c MdV.t

set_option maxHeartbeats 4000000 in
theorem mdec_spec (Z : List (Nat × Obj)) (mb : Nat) (m : MdV) (g : GtP) (l : LdP) (hm : MdR Z m g l) (hon : g.off = false) (ho : g.out = []) (hsd : g.st = l.d) (hdn : l.dn = false) (cm : Bool) : Sp Tryz.prog 120 #[.pointer (some ⟨mb, 0, none⟩), .bool cm] (MF mb m Z) (MdS mb (decP g l cm) Z) := by
  refine f_enter (args := [.pointer (some ⟨mb, 0, none⟩), .bool cm]) Tryz.func120 rfl Tryz.ntmps120 rfl ?_
  intro w0 w a hpre hl hh
  have hst : m.d.pl = g.st := hm.d.trans hsd.symm
  generalize hDD : List.map Prod.fst (MF mb m Z) = D at hh ⊢
  simp only [MF] at hh
  simp only [slotsFrom, Nat.reduceAdd] at hl
  refine c_seq ?_
  refine c_region ?_
  refine wl (wl_val hl rfl trivial (r_assign hl rfl) ?_)
  clear hl a; intro a hl
  refine w_nil ?_
  have hl2 := hl.add (t := 0) (hl.add (t := 1) (hl.nil) rfl) rfl; clear hl; have hl := hl2; clear hl2
  refine then_normal ?_
  refine c_seq ?_
  refine c_region ?_
  refine wl (wl_val hl rfl trivial (r_move hl rfl) ?_)
  clear hl a; intro a hl
  refine wl (wl_val hl rfl trivial (r_nilCheck hl rfl) ?_)
  clear hl a; intro a hl
  refine wl (wl_val hl rfl trivial (r_field hl rfl fld82_0) ?_)
  clear hl a; intro a hl
  refine wl (w_loadA hl hh rfl trivial agg78 rfl (by repeat (first | exact find_head | apply find_tail | apply find_skip)) (by first | exact duc_all _ | exact mdc_d _) (by exact duc_len _) ?_)
  clear hl a; intro a hl
  refine wl (w_call hl hh rfl trivial rfl cal115 rfl (copy_spec Z m.d hm.dok) (by repeat (first | exact keeps_nil | apply keeps_cons (by repeat (first | exact find_head | apply find_tail | apply find_skip)) (by first  | rfl) | exact keeps_self | exact keeps_left | apply keeps_app | apply keeps_mv | apply keeps_skip)) trivial ?_)
  clear hl hh a w; intro vc Fc a w hR hl hh
  obtain ⟨s1, hs1, hps1, rfl, rfl⟩ := hR
  try simp only [List.cons_append, List.nil_append, List.append_assoc, List.append_nil] at hh
  rw [DuV.E_eq s1] at hh
  try simp only [List.append_assoc, List.cons_append, List.nil_append] at hh
  refine wl (w_alloc hl hh rfl trivial zero78 rfl ?_)
  clear hl hh a w; intro k5 a w hl hh
  refine wl (w_storeA hl hh trivial agg78 rfl rfl (by repeat (first | exact find_head | apply find_tail | apply find_skip)) (by exact duc_len _) (by first | exact Nat.le_refl 71 | (rw [mdc_len]; omega)) (by exact duc_one _) (by first | exact setL_all (show 71 = _ from (duc_len _).symm) | exact mdc_sd _ _) ?_)
  clear hh w; intro w hh
  refine w_nil ?_
  have hl2 := hl.add (t := 0) (hl.add (t := 1) (hl.add (t := 5) (hl.nil) rfl) rfl) rfl; clear hl; have hl := hl2; clear hl2
  refine then_normal ?_
  refine c_seq ?_
  refine c_seq ?_
  refine c_region ?_
  refine wl (wl_val hl rfl trivial (r_move hl rfl) ?_)
  clear hl a; intro a hl
  refine wl (wl_val hl rfl trivial (r_move hl rfl) ?_)
  clear hl a; intro a hl
  refine sl_split (t := 12) hl rfl ?_ ?_
  · intro hg1; clear hl; intro hl
    try simp only [decide_eq_true_eq, decide_eq_false_iff_not, Bool.not_eq_true', Bool.not_eq_false', Bool.not_eq_true, Bool.not_eq_false, Bool.and_eq_true, Bool.or_eq_true, Bool.and_eq_false_iff, Bool.or_eq_false_iff, Bool.not_not, ne_eq, Int.not_lt, Int.not_le, Decidable.not_not, beq_iff_eq, bne_iff_ne] at hg1
    refine wl (wl_val hl rfl ⟨_, _, rfl, rfl, rfl⟩ (r_field hl rfl fld78_6) ?_)
    clear hl a; intro a hl
    refine wl (w_loadA hl hh rfl ⟨_, _, rfl, rfl, rfl⟩ agg66 rfl (by repeat (first | exact find_head | apply find_tail | apply find_skip)) (by exact duc_nx _) (by exact ntk_len _) ?_)
    clear hl a; intro a hl
    rw [ntk_eq hs1.fn] at hl
    refine wl (wl_val hl rfl ⟨_, _, rfl, rfl, rfl⟩ (r_field hl rfl fld78_3) ?_)
    clear hl a; intro a hl
    refine wl (w_load hl hh rfl ⟨_, _, rfl, rfl, rfl⟩ one75 rfl (by repeat (first | exact find_head | apply find_tail | apply find_skip)) (by first | exact mdc_ep _ | exact mdc_a _ | exact mdc_n _ | exact mdc_i _ | exact mdc_ph _ | exact mdc_fid _ | exact mdc_vd _ | exact mdc_up _ | exact mdc_q _ | exact mdc_rf _ | exact mdc_tk _ | exact mdc_au _ | exact mdc_fl _ | exact mdc_fu _ | exact mdc_kp _ | exact duc_ep _ | exact duc_a _ | exact duc_n _ | exact duc_i _ | exact duc_ph _ | exact duc_fid _ | exact duc_vd _ | rfl) ?_)
    clear hl a; intro a hl
    refine wl (w_call hl hh rfl ⟨_, _, rfl, rfl, rfl⟩ rfl cal58 rfl (check_spec Z s1.fn hs1.fn s1.is hs1.io s1.ip s1.ic s1.iE hs1.i (by have := hs1.il; omega)) (by repeat (first | exact keeps_nil | apply keeps_cons (by repeat (first | exact find_head | apply find_tail | apply find_skip)) (by first  | rfl) | exact keeps_self | exact keeps_left | apply keeps_app | apply keeps_mv | apply keeps_skip)) ⟨memK hh (by repeat (first | exact keeps_nil | apply keeps_cons (by repeat (first | exact find_head | apply find_tail | apply find_skip)) (by first  | rfl) | exact keeps_self | exact keeps_left | apply keeps_app | apply keeps_mv | apply keeps_skip)), memK hh (by repeat (first | exact keeps_nil | apply keeps_cons (by repeat (first | exact find_head | apply find_tail | apply find_skip)) (by first  | rfl) | exact keeps_self | exact keeps_left | apply keeps_app | apply keeps_mv | apply keeps_skip))⟩ ?_)
    clear hl hh a w; intro vc Fc a w hR hl hh
    obtain ⟨rfl, rfl⟩ := hR
    try simp only [List.cons_append, List.nil_append, List.append_assoc, List.append_nil] at hh
    refine wl (wl_val hl rfl trivial (r_pickT hl rfl rfl) ?_)
    clear hl a; intro a hl
    refine w_nil ?_
    have hl2 := hl.add (t := 0) (hl.add (t := 5) (hl.add (t := 18) (hl.nil) rfl) rfl) rfl; clear hl; have hl := hl2; clear hl2
    refine then_normal ?_
    refine c_cond hl rfl ?_ ?_
    · intro hc0
      try simp only [decide_eq_true_eq, decide_eq_false_iff_not, Bool.not_eq_true', Bool.not_eq_false', Bool.not_eq_true, Bool.not_eq_false, Bool.and_eq_true, Bool.or_eq_true, Bool.and_eq_false_iff, Bool.or_eq_false_iff, Bool.not_not, ne_eq, Int.not_lt, Int.not_le, Decidable.not_not, beq_iff_eq, bne_iff_ne] at hc0
      refine c_seq ?_
      refine c_region ?_
      refine wl (wl_val hl rfl trivial (r_field hl rfl fld78_4) ?_)
      clear hl a; intro a hl
      refine wl (w_store hl hh trivial one76 rfl rfl (by repeat (first | exact find_head | apply find_tail | apply find_skip)) (by first | (simp; done) | (simp; omega) | (rw [mdc_len]; omega) | (rw [mdc_len]; simp; done) | (rw [duc_len]; omega) | (rw [duc_len]; simp; done)) (by first | rfl | assumption | (apply Row.one; assumption)) (by first | exact mdc_sup _ _ | exact mdc_stk _ _ | exact mdc_sau _ _ | exact mdc_sfl _ _ | exact mdc_sfu _ _ | exact mdc_skp _ _ | exact duc_sph _ _ | (simp only [setL, List.getElem?_cons_zero, List.getElem?_cons_succ, Value.cells, List.take_zero, List.take_succ_cons, List.take_nil, List.drop_zero, List.drop_succ_cons, List.drop_nil, List.length_cons, List.length_nil, List.cons_append, List.nil_append, List.append_nil, Nat.zero_add, Nat.add_zero, Nat.reduceAdd, Nat.reduceBEq, Nat.reduceEqDiff, Nat.ble, BEq.rfl, Bool.and_true, Bool.and_self, cond_true, beq_self_eq_true]; rfl)) ?_)
      clear hh w; intro w hh
      refine w_nil ?_
      have hl2 := hl.add (t := 0) (hl.add (t := 5) (hl.nil) rfl) rfl; clear hl; have hl := hl2; clear hl2
      refine then_normal ?_
      refine c_region ?_
      refine wl (wl_val hl rfl trivial (r_field hl rfl fld78_7) ?_)
      clear hl a; intro a hl
      refine wl (w_load hl hh rfl trivial one74 rfl (by repeat (first | exact find_head | apply find_tail | apply find_skip)) (by first | exact mdc_ep _ | exact mdc_a _ | exact mdc_n _ | exact mdc_i _ | exact mdc_ph _ | exact mdc_fid _ | exact mdc_vd _ | exact mdc_up _ | exact mdc_q _ | exact mdc_rf _ | exact mdc_tk _ | exact mdc_au _ | exact mdc_fl _ | exact mdc_fu _ | exact mdc_kp _ | exact duc_ep _ | exact duc_a _ | exact duc_n _ | exact duc_i _ | exact duc_ph _ | exact duc_fid _ | exact duc_vd _ | rfl) ?_)
      clear hl a; intro a hl
      refine wl (wl_val hl rfl trivial (r_field hl rfl fld78_5) ?_)
      clear hl a; intro a hl
      refine wl (w_load hl hh rfl trivial one36 rfl (by repeat (first | exact find_head | apply find_tail | apply find_skip)) (by first | exact mdc_ep _ | exact mdc_a _ | exact mdc_n _ | exact mdc_i _ | exact mdc_ph _ | exact mdc_fid _ | exact mdc_vd _ | exact mdc_up _ | exact mdc_q _ | exact mdc_rf _ | exact mdc_tk _ | exact mdc_au _ | exact mdc_fl _ | exact mdc_fu _ | exact mdc_kp _ | exact duc_ep _ | exact duc_a _ | exact duc_n _ | exact duc_i _ | exact duc_ph _ | exact duc_fid _ | exact duc_vd _ | rfl) ?_)
      clear hl a; intro a hl
      refine wl (w_mapUpdate (keyInt Tryz.underlying36) Tryz.underlying74 hl hh trivial rfl rfl rfl (by repeat (first | exact find_head | apply find_tail | apply find_skip)) ?_)
      clear hh w; intro w hh
      refine w_nil ?_
      have hl2 := hl.add (t := 0) (hl.add (t := 5) (hl.nil) rfl) rfl; clear hl; have hl := hl2; clear hl2
      obtain ⟨s2, vd2, hs2, hvd2⟩ : ∃ (s2 : DuV) (vd2 : List (Int × Value)), s2 = { s1 with ph := 2, vd := vd2 } ∧ vd2 = mput s1.vd s1.fid (.int .u8 3) := ⟨_, _, rfl, rfl⟩
      have hc2 : DuV.c { s1 with ph := 2 } = s2.c := by rw [hs2]; exact (duc_vdl _ vd2).symm
      rw [hc2, ← hvd2] at hh
      have hE2 : s2.E = s1.aE ++ (s1.nE ++ (s1.iE ++ [(s1.vb, MO (kInt .u32) vd2)])) := by rw [hs2]; exact DuV.E_eq _
      have hso : s2.ok Z := by rw [hs2, hvd2]; exact du_vdok hs1 (by omega) _ (by omega)
      have hp2 : s2.ph = 2 := by rw [hs2]
      have hs9 : s1.pl = g.st := hps1.trans hst
      have hcc : (cm && chkP g.st.fn g.st.is) = true := by rw [← hs9]; show (cm && chkP s1.fn.pl s1.is) = true; simp [*]
      have hnx : nxP g cm = s2.pl := by unfold nxP; rw [hcc, hs2, hvd2]; exact (du_setl hs9 true).symm
      refine then_normal ?_
      refine c_seq ?_
      refine c_seq ?_
      refine c_region ?_
      refine wl (wl_val hl rfl trivial (r_move hl rfl) ?_)
      clear hl a; intro a hl
      refine wl (w_loadA hl hh rfl trivial agg78 rfl (by repeat (first | exact find_head | apply find_tail | apply find_skip)) (by first | exact duc_all _ | exact mdc_d _) (by exact duc_len _) ?_)
      clear hl a; intro a hl
      refine wl (w_call hl hh rfl trivial rfl cal116 rfl (write3 mb m s2 l hdn hm.fl hm.fu hm.kp hm.d hm.fb) (by repeat (first | exact keeps_nil | apply keeps_cons (by repeat (first | exact find_head | apply find_tail | apply find_skip)) (by first  | rfl) | exact keeps_self | exact keeps_left | apply keeps_app | apply keeps_mv | apply keeps_skip)) trivial ?_)
      clear hl hh a w; intro vc Fc a w hR hl hh
      rcases hR with ⟨f, hr, hf, rfl, rfl⟩ | ⟨hr, rfl, rfl⟩ | ⟨hr, rfl, rfl⟩
      ·
        try simp only [List.cons_append, List.nil_append, List.append_nil] at hh
        try simp only [List.append_assoc, List.cons_append, List.nil_append] at hh
        refine wl (wl_val hl rfl trivial (r_neq hl rfl rfl) ?_)
        clear hl a; intro a hl
        refine w_nil ?_
        have hl2 := hl.add (t := 0) (hl.add (t := 32) (hl.nil) rfl) rfl; clear hl; have hl := hl2; clear hl2
        refine then_normal ?_
        refine c_condF hl rfl ?_
        refine wp_skip ?_
        refine then_normal ?_
        refine c_seq ?_
        refine c_region ?_
        refine wl (wl_val hl rfl trivial (r_move hl rfl) ?_)
        clear hl a; intro a hl
        refine wl (wl_val hl rfl trivial (r_build hl rfl zero80 bld80 (by simp only [fillL, setL, List.getElem?_cons_zero, List.getElem?_cons_succ, Value.cells, List.take_zero, List.take_succ_cons, List.take_nil, List.drop_zero, List.drop_succ_cons, List.drop_nil, List.length_cons, List.length_nil, List.cons_append, List.nil_append, List.append_nil, Nat.zero_add, Nat.add_zero, Nat.reduceAdd, Nat.reduceBEq, Nat.reduceEqDiff, Nat.ble, BEq.rfl, Bool.and_true, Bool.and_self, cond_true, beq_self_eq_true]; rfl)) ?_)
        clear hl a; intro a hl
        refine wl (wl_val hl rfl trivial (r_nilCheck hl rfl) ?_)
        clear hl a; intro a hl
        refine wl (wl_val hl rfl trivial (r_field hl rfl fld82_5) ?_)
        clear hl a; intro a hl
        refine wl (w_storeA hl hh trivial agg80 rfl rfl (by repeat (first | exact find_head | apply find_tail | apply find_skip)) (by rfl) (by first | (rw [mdc_len]; omega) | exact Nat.le_refl 16) (by rfl) (by first | exact mdc_sy _ (fun _ => false) | exact mdc_sdf _ (fun _ => false) | exact setL_all rfl) ?_)
        clear hh w; intro w hh
        refine w_nil ?_
        have hl2 := hl.add (t := 0) (hl.nil) rfl; clear hl; have hl := hl2; clear hl2
        refine then_normal ?_
        refine c_seq ?_
        refine c_region ?_
        refine wl (wl_val hl rfl trivial (r_move hl rfl) ?_)
        clear hl a; intro a hl
        refine wl (w_call hl hh rfl trivial rfl cal117 rfl (due_spec Z mb { m with d := s2, fu := f, df := fun _ => false } hso.fn hso.ph) (by repeat (first | exact keeps_nil | apply keeps_cons (by repeat (first | exact find_head | apply find_tail | apply find_skip)) (by first  | rfl) | exact keeps_self | exact keeps_left | apply keeps_app | apply keeps_mv | apply keeps_skip)) trivial ?_)
        clear hl hh a w; intro vc Fc a w hR hl hh
        obtain ⟨p6, c6, E6, hR6, rfl, rfl⟩ := hR
        try simp only [List.cons_append, List.nil_append, List.append_assoc, List.append_nil] at hh
        refine wl (wl_val hl rfl trivial (r_assign hl rfl) ?_)
        clear hl a; intro a hl
        refine w_nil ?_
        have hl2 := hl.add (t := 4) (hl.nil) rfl; clear hl; have hl := hl2; clear hl2
        refine then_normal ?_
        refine wp_ret ?_
        refine f_ret1 (F' := E6 ++ ((mb, C (MdV.c { m with d := s2, fu := f, df := fun _ => false }) 82) :: ((s1.aE ++ (s1.nE ++ (s1.iE ++ [(s1.vb, MO (kInt .u32) vd2)]))) ++ (m.qE ++ (m.rE ++ Z))))) hl hh rfl rfl (by repeat (first | exact keeps_nil | apply keeps_cons (by repeat (first | exact find_head | apply find_tail | apply find_skip)) (by first  | rfl) | exact keeps_self | exact keeps_left | apply keeps_app | apply keeps_mv | apply keeps_skip)) ?_
        have hdu : dueM { m with d := s2, fu := f, df := fun _ => false } = pushP { g with st := s2.pl, dn := 0 } := due_push rfl hm.ys (fun d hd => (bit0 d hd).symm) hm.au (fun h9 => absurd (show s2.ph = 1 from h9) (by omega))
        refine MdS.of (m' := { m with d := s2, fu := f, df := fun _ => false }) ?_ hR6 (due_sz hso.fn) ?_ (by unfold MF; rw [hE2]; try simp only [List.append_assoc, List.cons_append, List.nil_append])
        · rw [dec_0 hnx (by rw [hr]), ho, hdu]; rfl
        · rw [dec_0 hnx (by rw [hr]), hr]
          exact ⟨hso, rfl, hm.up, hm.qr, hm.qo, hm.qp, hm.r, hm.ys, (fun d hd => (bit0 d hd).symm), hm.tk, hm.au, hm.fl, rfl, hm.kp, hf⟩
      ·
        try simp only [List.cons_append, List.nil_append, List.append_nil] at hh
        try simp only [List.append_assoc, List.cons_append, List.nil_append] at hh
        refine wl (wl_val hl rfl trivial (r_neq hl rfl rfl) ?_)
        clear hl a; intro a hl
        refine w_nil ?_
        have hl2 := hl.add (t := 0) (hl.add (t := 32) (hl.nil) rfl) rfl; clear hl; have hl := hl2; clear hl2
        refine then_normal ?_
        refine c_condT hl rfl ?_
        refine c_seq ?_
        refine c_region ?_
        refine wl (wl_val hl rfl trivial (r_assign hl rfl) ?_)
        clear hl a; intro a hl
        refine w_nil ?_
        have hl2 := hl.add (t := 4) (hl.nil) rfl; clear hl; have hl := hl2; clear hl2
        refine then_normal ?_
        refine wp_ret ?_
        refine then_ret ?_
        first
        | (refine f_ret1 (F' := (mb, C (MdV.c { m with d := s2, fu := 0, up := false }) 82) :: ((s1.aE ++ (s1.nE ++ (s1.iE ++ [(s1.vb, MO (kInt .u32) vd2)]))) ++ (m.qE ++ (m.rE ++ Z)))) hl hh rfl rfl (by repeat (first | exact keeps_nil | apply keeps_cons (by repeat (first | exact find_head | apply find_tail | apply find_skip)) (by first  | rfl) | exact keeps_self | exact keeps_left | apply keeps_app | apply keeps_mv | apply keeps_skip)) ?_; refine MdS.nil (by rw [dec_2 hnx (by rw [hr]; simp)]; rfl) ?_; refine MdO.same (m' := { m with d := s2, fu := 0, up := false }) ?_ (by unfold MF; rw [hE2]; try simp only [List.append_assoc, List.cons_append, List.nil_append]); rw [dec_2 hnx (by rw [hr]; simp)]; simp only [hr]; exact ⟨hso, rfl, rfl, hm.qr, hm.qo, hm.qp, hm.r, hm.ys, hm.dn, hm.tk, hm.au, hm.fl, rfl, hm.kp, (by simp)⟩)
        | (refine f_ret1 (F' := (mb, C (MdV.c { m with fu := 0, up := false }) 82) :: (m.d.E ++ (m.qE ++ (m.rE ++ Z)))) hl hh rfl rfl (by repeat (first | exact keeps_nil | apply keeps_cons (by repeat (first | exact find_head | apply find_tail | apply find_skip)) (by first  | rfl) | exact keeps_self | exact keeps_left | apply keeps_app | apply keeps_mv | apply keeps_skip)) ?_; refine MdS.nil (by rw [dec_2 hnx (by rw [hr]; simp)]; rfl) ?_; refine MdO.same (m' := { m with fu := 0, up := false }) ?_ rfl; rw [dec_2 hnx (by rw [hr]; simp)]; simp only [hr]; exact ⟨hm.dok, hm.d, rfl, hm.qr, hm.qo, hm.qp, hm.r, hm.ys, hm.dn, hm.tk, hm.au, hm.fl, rfl, hm.kp, (by simp)⟩)
      ·
        try simp only [List.cons_append, List.nil_append, List.append_nil] at hh
        try simp only [List.append_assoc, List.cons_append, List.nil_append] at hh
        refine wl (wl_val hl rfl trivial (r_neq hl rfl rfl) ?_)
        clear hl a; intro a hl
        refine w_nil ?_
        have hl2 := hl.add (t := 0) (hl.add (t := 32) (hl.nil) rfl) rfl; clear hl; have hl := hl2; clear hl2
        refine then_normal ?_
        refine c_condT hl rfl ?_
        refine c_seq ?_
        refine c_region ?_
        refine wl (wl_val hl rfl trivial (r_assign hl rfl) ?_)
        clear hl a; intro a hl
        refine w_nil ?_
        have hl2 := hl.add (t := 4) (hl.nil) rfl; clear hl; have hl := hl2; clear hl2
        refine then_normal ?_
        refine wp_ret ?_
        refine then_ret ?_
        first
        | (refine f_ret1 (F' := (mb, C (MdV.c { m with d := s2, fu := 0, up := false }) 82) :: ((s1.aE ++ (s1.nE ++ (s1.iE ++ [(s1.vb, MO (kInt .u32) vd2)]))) ++ (m.qE ++ (m.rE ++ Z)))) hl hh rfl rfl (by repeat (first | exact keeps_nil | apply keeps_cons (by repeat (first | exact find_head | apply find_tail | apply find_skip)) (by first  | rfl) | exact keeps_self | exact keeps_left | apply keeps_app | apply keeps_mv | apply keeps_skip)) ?_; refine MdS.nil (by rw [dec_2 hnx (by rw [hr]; simp)]; rfl) ?_; refine MdO.same (m' := { m with d := s2, fu := 0, up := false }) ?_ (by unfold MF; rw [hE2]; try simp only [List.append_assoc, List.cons_append, List.nil_append]); rw [dec_2 hnx (by rw [hr]; simp)]; simp only [hr]; exact ⟨hso, rfl, rfl, hm.qr, hm.qo, hm.qp, hm.r, hm.ys, hm.dn, hm.tk, hm.au, hm.fl, rfl, hm.kp, (by simp)⟩)
        | (refine f_ret1 (F' := (mb, C (MdV.c { m with fu := 0, up := false }) 82) :: (m.d.E ++ (m.qE ++ (m.rE ++ Z)))) hl hh rfl rfl (by repeat (first | exact keeps_nil | apply keeps_cons (by repeat (first | exact find_head | apply find_tail | apply find_skip)) (by first  | rfl) | exact keeps_self | exact keeps_left | apply keeps_app | apply keeps_mv | apply keeps_skip)) ?_; refine MdS.nil (by rw [dec_2 hnx (by rw [hr]; simp)]; rfl) ?_; refine MdO.same (m' := { m with fu := 0, up := false }) ?_ rfl; rw [dec_2 hnx (by rw [hr]; simp)]; simp only [hr]; exact ⟨hm.dok, hm.d, rfl, hm.qr, hm.qo, hm.qp, hm.r, hm.ys, hm.dn, hm.tk, hm.au, hm.fl, rfl, hm.kp, (by simp)⟩)
    · intro hc0
      try simp only [decide_eq_true_eq, decide_eq_false_iff_not, Bool.not_eq_true', Bool.not_eq_false', Bool.not_eq_true, Bool.not_eq_false, Bool.and_eq_true, Bool.or_eq_true, Bool.and_eq_false_iff, Bool.or_eq_false_iff, Bool.not_not, ne_eq, Int.not_lt, Int.not_le, Decidable.not_not, beq_iff_eq, bne_iff_ne] at hc0
      refine c_seq ?_
      refine c_region ?_
      refine wl (wl_val hl rfl trivial (r_field hl rfl fld78_4) ?_)
      clear hl a; intro a hl
      refine wl (w_store hl hh trivial one76 rfl rfl (by repeat (first | exact find_head | apply find_tail | apply find_skip)) (by first | (simp; done) | (simp; omega) | (rw [mdc_len]; omega) | (rw [mdc_len]; simp; done) | (rw [duc_len]; omega) | (rw [duc_len]; simp; done)) (by first | rfl | assumption | (apply Row.one; assumption)) (by first | exact mdc_sup _ _ | exact mdc_stk _ _ | exact mdc_sau _ _ | exact mdc_sfl _ _ | exact mdc_sfu _ _ | exact mdc_skp _ _ | exact duc_sph _ _ | (simp only [setL, List.getElem?_cons_zero, List.getElem?_cons_succ, Value.cells, List.take_zero, List.take_succ_cons, List.take_nil, List.drop_zero, List.drop_succ_cons, List.drop_nil, List.length_cons, List.length_nil, List.cons_append, List.nil_append, List.append_nil, Nat.zero_add, Nat.add_zero, Nat.reduceAdd, Nat.reduceBEq, Nat.reduceEqDiff, Nat.ble, BEq.rfl, Bool.and_true, Bool.and_self, cond_true, beq_self_eq_true]; rfl)) ?_)
      clear hh w; intro w hh
      refine w_nil ?_
      have hl2 := hl.add (t := 0) (hl.add (t := 5) (hl.nil) rfl) rfl; clear hl; have hl := hl2; clear hl2
      refine then_normal ?_
      refine c_region ?_
      refine wl (wl_val hl rfl trivial (r_field hl rfl fld78_7) ?_)
      clear hl a; intro a hl
      refine wl (w_load hl hh rfl trivial one74 rfl (by repeat (first | exact find_head | apply find_tail | apply find_skip)) (by first | exact mdc_ep _ | exact mdc_a _ | exact mdc_n _ | exact mdc_i _ | exact mdc_ph _ | exact mdc_fid _ | exact mdc_vd _ | exact mdc_up _ | exact mdc_q _ | exact mdc_rf _ | exact mdc_tk _ | exact mdc_au _ | exact mdc_fl _ | exact mdc_fu _ | exact mdc_kp _ | exact duc_ep _ | exact duc_a _ | exact duc_n _ | exact duc_i _ | exact duc_ph _ | exact duc_fid _ | exact duc_vd _ | rfl) ?_)
      clear hl a; intro a hl
      refine wl (wl_val hl rfl trivial (r_field hl rfl fld78_5) ?_)
      clear hl a; intro a hl
      refine wl (w_load hl hh rfl trivial one36 rfl (by repeat (first | exact find_head | apply find_tail | apply find_skip)) (by first | exact mdc_ep _ | exact mdc_a _ | exact mdc_n _ | exact mdc_i _ | exact mdc_ph _ | exact mdc_fid _ | exact mdc_vd _ | exact mdc_up _ | exact mdc_q _ | exact mdc_rf _ | exact mdc_tk _ | exact mdc_au _ | exact mdc_fl _ | exact mdc_fu _ | exact mdc_kp _ | exact duc_ep _ | exact duc_a _ | exact duc_n _ | exact duc_i _ | exact duc_ph _ | exact duc_fid _ | exact duc_vd _ | rfl) ?_)
      clear hl a; intro a hl
      refine wl (w_mapUpdate (keyInt Tryz.underlying36) Tryz.underlying74 hl hh trivial rfl rfl rfl (by repeat (first | exact find_head | apply find_tail | apply find_skip)) ?_)
      clear hh w; intro w hh
      refine w_nil ?_
      have hl2 := hl.add (t := 0) (hl.add (t := 5) (hl.nil) rfl) rfl; clear hl; have hl := hl2; clear hl2
      obtain ⟨s2, vd2, hs2, hvd2⟩ : ∃ (s2 : DuV) (vd2 : List (Int × Value)), s2 = { s1 with ph := 3, vd := vd2 } ∧ vd2 = mput s1.vd s1.fid (.int .u8 4) := ⟨_, _, rfl, rfl⟩
      have hc2 : DuV.c { s1 with ph := 3 } = s2.c := by rw [hs2]; exact (duc_vdl _ vd2).symm
      rw [hc2, ← hvd2] at hh
      have hE2 : s2.E = s1.aE ++ (s1.nE ++ (s1.iE ++ [(s1.vb, MO (kInt .u32) vd2)])) := by rw [hs2]; exact DuV.E_eq _
      have hso : s2.ok Z := by rw [hs2, hvd2]; exact du_vdok hs1 (by omega) _ (by omega)
      have hp2 : s2.ph = 3 := by rw [hs2]
      have hs9 : s1.pl = g.st := hps1.trans hst
      have hcc : (cm && chkP g.st.fn g.st.is) = false := by rw [← hs9]; show (cm && chkP s1.fn.pl s1.is) = false; simp [*]
      have hnx : nxP g cm = s2.pl := by unfold nxP; rw [hcc, hs2, hvd2]; exact (du_setl hs9 false).symm
      refine then_normal ?_
      refine c_seq ?_
      refine c_seq ?_
      refine c_region ?_
      refine wl (wl_val hl rfl trivial (r_move hl rfl) ?_)
      clear hl a; intro a hl
      refine wl (w_loadA hl hh rfl trivial agg78 rfl (by repeat (first | exact find_head | apply find_tail | apply find_skip)) (by first | exact duc_all _ | exact mdc_d _) (by exact duc_len _) ?_)
      clear hl a; intro a hl
      refine wl (w_call hl hh rfl trivial rfl cal116 rfl (write3 mb m s2 l hdn hm.fl hm.fu hm.kp hm.d hm.fb) (by repeat (first | exact keeps_nil | apply keeps_cons (by repeat (first | exact find_head | apply find_tail | apply find_skip)) (by first  | rfl) | exact keeps_self | exact keeps_left | apply keeps_app | apply keeps_mv | apply keeps_skip)) trivial ?_)
      clear hl hh a w; intro vc Fc a w hR hl hh
      rcases hR with ⟨f, hr, hf, rfl, rfl⟩ | ⟨hr, rfl, rfl⟩ | ⟨hr, rfl, rfl⟩
      ·
        try simp only [List.cons_append, List.nil_append, List.append_nil] at hh
        try simp only [List.append_assoc, List.cons_append, List.nil_append] at hh
        refine wl (wl_val hl rfl trivial (r_neq hl rfl rfl) ?_)
        clear hl a; intro a hl
        refine w_nil ?_
        have hl2 := hl.add (t := 0) (hl.add (t := 32) (hl.nil) rfl) rfl; clear hl; have hl := hl2; clear hl2
        refine then_normal ?_
        refine c_condF hl rfl ?_
        refine wp_skip ?_
        refine then_normal ?_
        refine c_seq ?_
        refine c_region ?_
        refine wl (wl_val hl rfl trivial (r_move hl rfl) ?_)
        clear hl a; intro a hl
        refine wl (wl_val hl rfl trivial (r_build hl rfl zero80 bld80 (by simp only [fillL, setL, List.getElem?_cons_zero, List.getElem?_cons_succ, Value.cells, List.take_zero, List.take_succ_cons, List.take_nil, List.drop_zero, List.drop_succ_cons, List.drop_nil, List.length_cons, List.length_nil, List.cons_append, List.nil_append, List.append_nil, Nat.zero_add, Nat.add_zero, Nat.reduceAdd, Nat.reduceBEq, Nat.reduceEqDiff, Nat.ble, BEq.rfl, Bool.and_true, Bool.and_self, cond_true, beq_self_eq_true]; rfl)) ?_)
        clear hl a; intro a hl
        refine wl (wl_val hl rfl trivial (r_nilCheck hl rfl) ?_)
        clear hl a; intro a hl
        refine wl (wl_val hl rfl trivial (r_field hl rfl fld82_5) ?_)
        clear hl a; intro a hl
        refine wl (w_storeA hl hh trivial agg80 rfl rfl (by repeat (first | exact find_head | apply find_tail | apply find_skip)) (by rfl) (by first | (rw [mdc_len]; omega) | exact Nat.le_refl 16) (by rfl) (by first | exact mdc_sy _ (fun _ => false) | exact mdc_sdf _ (fun _ => false) | exact setL_all rfl) ?_)
        clear hh w; intro w hh
        refine w_nil ?_
        have hl2 := hl.add (t := 0) (hl.nil) rfl; clear hl; have hl := hl2; clear hl2
        refine then_normal ?_
        refine c_seq ?_
        refine c_region ?_
        refine wl (wl_val hl rfl trivial (r_move hl rfl) ?_)
        clear hl a; intro a hl
        refine wl (w_call hl hh rfl trivial rfl cal117 rfl (due_spec Z mb { m with d := s2, fu := f, df := fun _ => false } hso.fn hso.ph) (by repeat (first | exact keeps_nil | apply keeps_cons (by repeat (first | exact find_head | apply find_tail | apply find_skip)) (by first  | rfl) | exact keeps_self | exact keeps_left | apply keeps_app | apply keeps_mv | apply keeps_skip)) trivial ?_)
        clear hl hh a w; intro vc Fc a w hR hl hh
        obtain ⟨p6, c6, E6, hR6, rfl, rfl⟩ := hR
        try simp only [List.cons_append, List.nil_append, List.append_assoc, List.append_nil] at hh
        refine wl (wl_val hl rfl trivial (r_assign hl rfl) ?_)
        clear hl a; intro a hl
        refine w_nil ?_
        have hl2 := hl.add (t := 4) (hl.nil) rfl; clear hl; have hl := hl2; clear hl2
        refine then_normal ?_
        refine wp_ret ?_
        refine f_ret1 (F' := E6 ++ ((mb, C (MdV.c { m with d := s2, fu := f, df := fun _ => false }) 82) :: ((s1.aE ++ (s1.nE ++ (s1.iE ++ [(s1.vb, MO (kInt .u32) vd2)]))) ++ (m.qE ++ (m.rE ++ Z))))) hl hh rfl rfl (by repeat (first | exact keeps_nil | apply keeps_cons (by repeat (first | exact find_head | apply find_tail | apply find_skip)) (by first  | rfl) | exact keeps_self | exact keeps_left | apply keeps_app | apply keeps_mv | apply keeps_skip)) ?_
        have hdu : dueM { m with d := s2, fu := f, df := fun _ => false } = pushP { g with st := s2.pl, dn := 0 } := due_push rfl hm.ys (fun d hd => (bit0 d hd).symm) hm.au (fun h9 => absurd (show s2.ph = 1 from h9) (by omega))
        refine MdS.of (m' := { m with d := s2, fu := f, df := fun _ => false }) ?_ hR6 (due_sz hso.fn) ?_ (by unfold MF; rw [hE2]; try simp only [List.append_assoc, List.cons_append, List.nil_append])
        · rw [dec_0 hnx (by rw [hr]), ho, hdu]; rfl
        · rw [dec_0 hnx (by rw [hr]), hr]
          exact ⟨hso, rfl, hm.up, hm.qr, hm.qo, hm.qp, hm.r, hm.ys, (fun d hd => (bit0 d hd).symm), hm.tk, hm.au, hm.fl, rfl, hm.kp, hf⟩
      ·
        try simp only [List.cons_append, List.nil_append, List.append_nil] at hh
        try simp only [List.append_assoc, List.cons_append, List.nil_append] at hh
        refine wl (wl_val hl rfl trivial (r_neq hl rfl rfl) ?_)
        clear hl a; intro a hl
        refine w_nil ?_
        have hl2 := hl.add (t := 0) (hl.add (t := 32) (hl.nil) rfl) rfl; clear hl; have hl := hl2; clear hl2
        refine then_normal ?_
        refine c_condT hl rfl ?_
        refine c_seq ?_
        refine c_region ?_
        refine wl (wl_val hl rfl trivial (r_assign hl rfl) ?_)
        clear hl a; intro a hl
        refine w_nil ?_
        have hl2 := hl.add (t := 4) (hl.nil) rfl; clear hl; have hl := hl2; clear hl2
        refine then_normal ?_
        refine wp_ret ?_
        refine then_ret ?_
        first
        | (refine f_ret1 (F' := (mb, C (MdV.c { m with d := s2, fu := 0, up := false }) 82) :: ((s1.aE ++ (s1.nE ++ (s1.iE ++ [(s1.vb, MO (kInt .u32) vd2)]))) ++ (m.qE ++ (m.rE ++ Z)))) hl hh rfl rfl (by repeat (first | exact keeps_nil | apply keeps_cons (by repeat (first | exact find_head | apply find_tail | apply find_skip)) (by first  | rfl) | exact keeps_self | exact keeps_left | apply keeps_app | apply keeps_mv | apply keeps_skip)) ?_; refine MdS.nil (by rw [dec_2 hnx (by rw [hr]; simp)]; rfl) ?_; refine MdO.same (m' := { m with d := s2, fu := 0, up := false }) ?_ (by unfold MF; rw [hE2]; try simp only [List.append_assoc, List.cons_append, List.nil_append]); rw [dec_2 hnx (by rw [hr]; simp)]; simp only [hr]; exact ⟨hso, rfl, rfl, hm.qr, hm.qo, hm.qp, hm.r, hm.ys, hm.dn, hm.tk, hm.au, hm.fl, rfl, hm.kp, (by simp)⟩)
        | (refine f_ret1 (F' := (mb, C (MdV.c { m with fu := 0, up := false }) 82) :: (m.d.E ++ (m.qE ++ (m.rE ++ Z)))) hl hh rfl rfl (by repeat (first | exact keeps_nil | apply keeps_cons (by repeat (first | exact find_head | apply find_tail | apply find_skip)) (by first  | rfl) | exact keeps_self | exact keeps_left | apply keeps_app | apply keeps_mv | apply keeps_skip)) ?_; refine MdS.nil (by rw [dec_2 hnx (by rw [hr]; simp)]; rfl) ?_; refine MdO.same (m' := { m with fu := 0, up := false }) ?_ rfl; rw [dec_2 hnx (by rw [hr]; simp)]; simp only [hr]; exact ⟨hm.dok, hm.d, rfl, hm.qr, hm.qo, hm.qp, hm.r, hm.ys, hm.dn, hm.tk, hm.au, hm.fl, rfl, hm.kp, (by simp)⟩)
      ·
        try simp only [List.cons_append, List.nil_append, List.append_nil] at hh
        try simp only [List.append_assoc, List.cons_append, List.nil_append] at hh
        refine wl (wl_val hl rfl trivial (r_neq hl rfl rfl) ?_)
        clear hl a; intro a hl
        refine w_nil ?_
        have hl2 := hl.add (t := 0) (hl.add (t := 32) (hl.nil) rfl) rfl; clear hl; have hl := hl2; clear hl2
        refine then_normal ?_
        refine c_condT hl rfl ?_
        refine c_seq ?_
        refine c_region ?_
        refine wl (wl_val hl rfl trivial (r_assign hl rfl) ?_)
        clear hl a; intro a hl
        refine w_nil ?_
        have hl2 := hl.add (t := 4) (hl.nil) rfl; clear hl; have hl := hl2; clear hl2
        refine then_normal ?_
        refine wp_ret ?_
        refine then_ret ?_
        first
        | (refine f_ret1 (F' := (mb, C (MdV.c { m with d := s2, fu := 0, up := false }) 82) :: ((s1.aE ++ (s1.nE ++ (s1.iE ++ [(s1.vb, MO (kInt .u32) vd2)]))) ++ (m.qE ++ (m.rE ++ Z)))) hl hh rfl rfl (by repeat (first | exact keeps_nil | apply keeps_cons (by repeat (first | exact find_head | apply find_tail | apply find_skip)) (by first  | rfl) | exact keeps_self | exact keeps_left | apply keeps_app | apply keeps_mv | apply keeps_skip)) ?_; refine MdS.nil (by rw [dec_2 hnx (by rw [hr]; simp)]; rfl) ?_; refine MdO.same (m' := { m with d := s2, fu := 0, up := false }) ?_ (by unfold MF; rw [hE2]; try simp only [List.append_assoc, List.cons_append, List.nil_append]); rw [dec_2 hnx (by rw [hr]; simp)]; simp only [hr]; exact ⟨hso, rfl, rfl, hm.qr, hm.qo, hm.qp, hm.r, hm.ys, hm.dn, hm.tk, hm.au, hm.fl, rfl, hm.kp, (by simp)⟩)
        | (refine f_ret1 (F' := (mb, C (MdV.c { m with fu := 0, up := false }) 82) :: (m.d.E ++ (m.qE ++ (m.rE ++ Z)))) hl hh rfl rfl (by repeat (first | exact keeps_nil | apply keeps_cons (by repeat (first | exact find_head | apply find_tail | apply find_skip)) (by first  | rfl) | exact keeps_self | exact keeps_left | apply keeps_app | apply keeps_mv | apply keeps_skip)) ?_; refine MdS.nil (by rw [dec_2 hnx (by rw [hr]; simp)]; rfl) ?_; refine MdO.same (m' := { m with fu := 0, up := false }) ?_ rfl; rw [dec_2 hnx (by rw [hr]; simp)]; simp only [hr]; exact ⟨hm.dok, hm.d, rfl, hm.qr, hm.qo, hm.qp, hm.r, hm.ys, hm.dn, hm.tk, hm.au, hm.fl, rfl, hm.kp, (by simp)⟩)
  · intro hg1; clear hl; intro hl
    try simp only [decide_eq_true_eq, decide_eq_false_iff_not, Bool.not_eq_true', Bool.not_eq_false', Bool.not_eq_true, Bool.not_eq_false, Bool.and_eq_true, Bool.or_eq_true, Bool.and_eq_false_iff, Bool.or_eq_false_iff, Bool.not_not, ne_eq, Int.not_lt, Int.not_le, Decidable.not_not, beq_iff_eq, bne_iff_ne] at hg1
    refine wl (wl_skip hl rfl ⟨_, _, rfl, rfl, rfl⟩ ?_)
    clear hl a; intro a hl
    refine wl (wl_skip hl rfl ⟨_, _, rfl, rfl, rfl⟩ ?_)
    clear hl a; intro a hl
    refine wl (wl_skip hl rfl ⟨_, _, rfl, rfl, rfl⟩ ?_)
    clear hl a; intro a hl
    refine wl (wl_skip hl rfl ⟨_, _, rfl, rfl, rfl⟩ ?_)
    clear hl a; intro a hl
    refine wl (wl_skip hl rfl ⟨_, _, rfl, rfl, rfl⟩ ?_)
    clear hl a; intro a hl
    refine wl (wl_val hl rfl trivial (r_pickF hl rfl rfl) ?_)
    clear hl a; intro a hl
    refine w_nil ?_
    have hl2 := hl.add (t := 0) (hl.add (t := 5) (hl.add (t := 18) (hl.nil) rfl) rfl) rfl; clear hl; have hl := hl2; clear hl2
    refine then_normal ?_
    refine c_condF hl rfl ?_
    refine c_seq ?_
    refine c_region ?_
    refine wl (wl_val hl rfl trivial (r_field hl rfl fld78_4) ?_)
    clear hl a; intro a hl
    refine wl (w_store hl hh trivial one76 rfl rfl (by repeat (first | exact find_head | apply find_tail | apply find_skip)) (by first | (simp; done) | (simp; omega) | (rw [mdc_len]; omega) | (rw [mdc_len]; simp; done) | (rw [duc_len]; omega) | (rw [duc_len]; simp; done)) (by first | rfl | assumption | (apply Row.one; assumption)) (by first | exact mdc_sup _ _ | exact mdc_stk _ _ | exact mdc_sau _ _ | exact mdc_sfl _ _ | exact mdc_sfu _ _ | exact mdc_skp _ _ | exact duc_sph _ _ | (simp only [setL, List.getElem?_cons_zero, List.getElem?_cons_succ, Value.cells, List.take_zero, List.take_succ_cons, List.take_nil, List.drop_zero, List.drop_succ_cons, List.drop_nil, List.length_cons, List.length_nil, List.cons_append, List.nil_append, List.append_nil, Nat.zero_add, Nat.add_zero, Nat.reduceAdd, Nat.reduceBEq, Nat.reduceEqDiff, Nat.ble, BEq.rfl, Bool.and_true, Bool.and_self, cond_true, beq_self_eq_true]; rfl)) ?_)
    clear hh w; intro w hh
    refine w_nil ?_
    have hl2 := hl.add (t := 0) (hl.add (t := 5) (hl.nil) rfl) rfl; clear hl; have hl := hl2; clear hl2
    refine then_normal ?_
    refine c_region ?_
    refine wl (wl_val hl rfl trivial (r_field hl rfl fld78_7) ?_)
    clear hl a; intro a hl
    refine wl (w_load hl hh rfl trivial one74 rfl (by repeat (first | exact find_head | apply find_tail | apply find_skip)) (by first | exact mdc_ep _ | exact mdc_a _ | exact mdc_n _ | exact mdc_i _ | exact mdc_ph _ | exact mdc_fid _ | exact mdc_vd _ | exact mdc_up _ | exact mdc_q _ | exact mdc_rf _ | exact mdc_tk _ | exact mdc_au _ | exact mdc_fl _ | exact mdc_fu _ | exact mdc_kp _ | exact duc_ep _ | exact duc_a _ | exact duc_n _ | exact duc_i _ | exact duc_ph _ | exact duc_fid _ | exact duc_vd _ | rfl) ?_)
    clear hl a; intro a hl
    refine wl (wl_val hl rfl trivial (r_field hl rfl fld78_5) ?_)
    clear hl a; intro a hl
    refine wl (w_load hl hh rfl trivial one36 rfl (by repeat (first | exact find_head | apply find_tail | apply find_skip)) (by first | exact mdc_ep _ | exact mdc_a _ | exact mdc_n _ | exact mdc_i _ | exact mdc_ph _ | exact mdc_fid _ | exact mdc_vd _ | exact mdc_up _ | exact mdc_q _ | exact mdc_rf _ | exact mdc_tk _ | exact mdc_au _ | exact mdc_fl _ | exact mdc_fu _ | exact mdc_kp _ | exact duc_ep _ | exact duc_a _ | exact duc_n _ | exact duc_i _ | exact duc_ph _ | exact duc_fid _ | exact duc_vd _ | rfl) ?_)
    clear hl a; intro a hl
    refine wl (w_mapUpdate (keyInt Tryz.underlying36) Tryz.underlying74 hl hh trivial rfl rfl rfl (by repeat (first | exact find_head | apply find_tail | apply find_skip)) ?_)
    clear hh w; intro w hh
    refine w_nil ?_
    have hl2 := hl.add (t := 0) (hl.add (t := 5) (hl.nil) rfl) rfl; clear hl; have hl := hl2; clear hl2
    obtain ⟨s2, vd2, hs2, hvd2⟩ : ∃ (s2 : DuV) (vd2 : List (Int × Value)), s2 = { s1 with ph := 3, vd := vd2 } ∧ vd2 = mput s1.vd s1.fid (.int .u8 4) := ⟨_, _, rfl, rfl⟩
    have hc2 : DuV.c { s1 with ph := 3 } = s2.c := by rw [hs2]; exact (duc_vdl _ vd2).symm
    rw [hc2, ← hvd2] at hh
    have hE2 : s2.E = s1.aE ++ (s1.nE ++ (s1.iE ++ [(s1.vb, MO (kInt .u32) vd2)])) := by rw [hs2]; exact DuV.E_eq _
    have hso : s2.ok Z := by rw [hs2, hvd2]; exact du_vdok hs1 (by omega) _ (by omega)
    have hp2 : s2.ph = 3 := by rw [hs2]
    have hs9 : s1.pl = g.st := hps1.trans hst
    have hcc : (cm && chkP g.st.fn g.st.is) = false := by rw [← hs9]; show (cm && chkP s1.fn.pl s1.is) = false; simp [*]
    have hnx : nxP g cm = s2.pl := by unfold nxP; rw [hcc, hs2, hvd2]; exact (du_setl hs9 false).symm
    refine then_normal ?_
    refine c_seq ?_
    refine c_seq ?_
    refine c_region ?_
    refine wl (wl_val hl rfl trivial (r_move hl rfl) ?_)
    clear hl a; intro a hl
    refine wl (w_loadA hl hh rfl trivial agg78 rfl (by repeat (first | exact find_head | apply find_tail | apply find_skip)) (by first | exact duc_all _ | exact mdc_d _) (by exact duc_len _) ?_)
    clear hl a; intro a hl
    refine wl (w_call hl hh rfl trivial rfl cal116 rfl (write3 mb m s2 l hdn hm.fl hm.fu hm.kp hm.d hm.fb) (by repeat (first | exact keeps_nil | apply keeps_cons (by repeat (first | exact find_head | apply find_tail | apply find_skip)) (by first  | rfl) | exact keeps_self | exact keeps_left | apply keeps_app | apply keeps_mv | apply keeps_skip)) trivial ?_)
    clear hl hh a w; intro vc Fc a w hR hl hh
    rcases hR with ⟨f, hr, hf, rfl, rfl⟩ | ⟨hr, rfl, rfl⟩ | ⟨hr, rfl, rfl⟩
    ·
      try simp only [List.cons_append, List.nil_append, List.append_nil] at hh
      try simp only [List.append_assoc, List.cons_append, List.nil_append] at hh
      refine wl (wl_val hl rfl trivial (r_neq hl rfl rfl) ?_)
      clear hl a; intro a hl
      refine w_nil ?_
      have hl2 := hl.add (t := 0) (hl.add (t := 32) (hl.nil) rfl) rfl; clear hl; have hl := hl2; clear hl2
      refine then_normal ?_
      refine c_condF hl rfl ?_
      refine wp_skip ?_
      refine then_normal ?_
      refine c_seq ?_
      refine c_region ?_
      refine wl (wl_val hl rfl trivial (r_move hl rfl) ?_)
      clear hl a; intro a hl
      refine wl (wl_val hl rfl trivial (r_build hl rfl zero80 bld80 (by simp only [fillL, setL, List.getElem?_cons_zero, List.getElem?_cons_succ, Value.cells, List.take_zero, List.take_succ_cons, List.take_nil, List.drop_zero, List.drop_succ_cons, List.drop_nil, List.length_cons, List.length_nil, List.cons_append, List.nil_append, List.append_nil, Nat.zero_add, Nat.add_zero, Nat.reduceAdd, Nat.reduceBEq, Nat.reduceEqDiff, Nat.ble, BEq.rfl, Bool.and_true, Bool.and_self, cond_true, beq_self_eq_true]; rfl)) ?_)
      clear hl a; intro a hl
      refine wl (wl_val hl rfl trivial (r_nilCheck hl rfl) ?_)
      clear hl a; intro a hl
      refine wl (wl_val hl rfl trivial (r_field hl rfl fld82_5) ?_)
      clear hl a; intro a hl
      refine wl (w_storeA hl hh trivial agg80 rfl rfl (by repeat (first | exact find_head | apply find_tail | apply find_skip)) (by rfl) (by first | (rw [mdc_len]; omega) | exact Nat.le_refl 16) (by rfl) (by first | exact mdc_sy _ (fun _ => false) | exact mdc_sdf _ (fun _ => false) | exact setL_all rfl) ?_)
      clear hh w; intro w hh
      refine w_nil ?_
      have hl2 := hl.add (t := 0) (hl.nil) rfl; clear hl; have hl := hl2; clear hl2
      refine then_normal ?_
      refine c_seq ?_
      refine c_region ?_
      refine wl (wl_val hl rfl trivial (r_move hl rfl) ?_)
      clear hl a; intro a hl
      refine wl (w_call hl hh rfl trivial rfl cal117 rfl (due_spec Z mb { m with d := s2, fu := f, df := fun _ => false } hso.fn hso.ph) (by repeat (first | exact keeps_nil | apply keeps_cons (by repeat (first | exact find_head | apply find_tail | apply find_skip)) (by first  | rfl) | exact keeps_self | exact keeps_left | apply keeps_app | apply keeps_mv | apply keeps_skip)) trivial ?_)
      clear hl hh a w; intro vc Fc a w hR hl hh
      obtain ⟨p6, c6, E6, hR6, rfl, rfl⟩ := hR
      try simp only [List.cons_append, List.nil_append, List.append_assoc, List.append_nil] at hh
      refine wl (wl_val hl rfl trivial (r_assign hl rfl) ?_)
      clear hl a; intro a hl
      refine w_nil ?_
      have hl2 := hl.add (t := 4) (hl.nil) rfl; clear hl; have hl := hl2; clear hl2
      refine then_normal ?_
      refine wp_ret ?_
      refine f_ret1 (F' := E6 ++ ((mb, C (MdV.c { m with d := s2, fu := f, df := fun _ => false }) 82) :: ((s1.aE ++ (s1.nE ++ (s1.iE ++ [(s1.vb, MO (kInt .u32) vd2)]))) ++ (m.qE ++ (m.rE ++ Z))))) hl hh rfl rfl (by repeat (first | exact keeps_nil | apply keeps_cons (by repeat (first | exact find_head | apply find_tail | apply find_skip)) (by first  | rfl) | exact keeps_self | exact keeps_left | apply keeps_app | apply keeps_mv | apply keeps_skip)) ?_
      have hdu : dueM { m with d := s2, fu := f, df := fun _ => false } = pushP { g with st := s2.pl, dn := 0 } := due_push rfl hm.ys (fun d hd => (bit0 d hd).symm) hm.au (fun h9 => absurd (show s2.ph = 1 from h9) (by omega))
      refine MdS.of (m' := { m with d := s2, fu := f, df := fun _ => false }) ?_ hR6 (due_sz hso.fn) ?_ (by unfold MF; rw [hE2]; try simp only [List.append_assoc, List.cons_append, List.nil_append])
      · rw [dec_0 hnx (by rw [hr]), ho, hdu]; rfl
      · rw [dec_0 hnx (by rw [hr]), hr]
        exact ⟨hso, rfl, hm.up, hm.qr, hm.qo, hm.qp, hm.r, hm.ys, (fun d hd => (bit0 d hd).symm), hm.tk, hm.au, hm.fl, rfl, hm.kp, hf⟩
    ·
      try simp only [List.cons_append, List.nil_append, List.append_nil] at hh
      try simp only [List.append_assoc, List.cons_append, List.nil_append] at hh
      refine wl (wl_val hl rfl trivial (r_neq hl rfl rfl) ?_)
      clear hl a; intro a hl
      refine w_nil ?_
      have hl2 := hl.add (t := 0) (hl.add (t := 32) (hl.nil) rfl) rfl; clear hl; have hl := hl2; clear hl2
      refine then_normal ?_
      refine c_condT hl rfl ?_
      refine c_seq ?_
      refine c_region ?_
      refine wl (wl_val hl rfl trivial (r_assign hl rfl) ?_)
      clear hl a; intro a hl
      refine w_nil ?_
      have hl2 := hl.add (t := 4) (hl.nil) rfl; clear hl; have hl := hl2; clear hl2
      refine then_normal ?_
      refine wp_ret ?_
      refine then_ret ?_
      first
      | (refine f_ret1 (F' := (mb, C (MdV.c { m with d := s2, fu := 0, up := false }) 82) :: ((s1.aE ++ (s1.nE ++ (s1.iE ++ [(s1.vb, MO (kInt .u32) vd2)]))) ++ (m.qE ++ (m.rE ++ Z)))) hl hh rfl rfl (by repeat (first | exact keeps_nil | apply keeps_cons (by repeat (first | exact find_head | apply find_tail | apply find_skip)) (by first  | rfl) | exact keeps_self | exact keeps_left | apply keeps_app | apply keeps_mv | apply keeps_skip)) ?_; refine MdS.nil (by rw [dec_2 hnx (by rw [hr]; simp)]; rfl) ?_; refine MdO.same (m' := { m with d := s2, fu := 0, up := false }) ?_ (by unfold MF; rw [hE2]; try simp only [List.append_assoc, List.cons_append, List.nil_append]); rw [dec_2 hnx (by rw [hr]; simp)]; simp only [hr]; exact ⟨hso, rfl, rfl, hm.qr, hm.qo, hm.qp, hm.r, hm.ys, hm.dn, hm.tk, hm.au, hm.fl, rfl, hm.kp, (by simp)⟩)
      | (refine f_ret1 (F' := (mb, C (MdV.c { m with fu := 0, up := false }) 82) :: (m.d.E ++ (m.qE ++ (m.rE ++ Z)))) hl hh rfl rfl (by repeat (first | exact keeps_nil | apply keeps_cons (by repeat (first | exact find_head | apply find_tail | apply find_skip)) (by first  | rfl) | exact keeps_self | exact keeps_left | apply keeps_app | apply keeps_mv | apply keeps_skip)) ?_; refine MdS.nil (by rw [dec_2 hnx (by rw [hr]; simp)]; rfl) ?_; refine MdO.same (m' := { m with fu := 0, up := false }) ?_ rfl; rw [dec_2 hnx (by rw [hr]; simp)]; simp only [hr]; exact ⟨hm.dok, hm.d, rfl, hm.qr, hm.qo, hm.qp, hm.r, hm.ys, hm.dn, hm.tk, hm.au, hm.fl, rfl, hm.kp, (by simp)⟩)
    ·
      try simp only [List.cons_append, List.nil_append, List.append_nil] at hh
      try simp only [List.append_assoc, List.cons_append, List.nil_append] at hh
      refine wl (wl_val hl rfl trivial (r_neq hl rfl rfl) ?_)
      clear hl a; intro a hl
      refine w_nil ?_
      have hl2 := hl.add (t := 0) (hl.add (t := 32) (hl.nil) rfl) rfl; clear hl; have hl := hl2; clear hl2
      refine then_normal ?_
      refine c_condT hl rfl ?_
      refine c_seq ?_
      refine c_region ?_
      refine wl (wl_val hl rfl trivial (r_assign hl rfl) ?_)
      clear hl a; intro a hl
      refine w_nil ?_
      have hl2 := hl.add (t := 4) (hl.nil) rfl; clear hl; have hl := hl2; clear hl2
      refine then_normal ?_
      refine wp_ret ?_
      refine then_ret ?_
      first
      | (refine f_ret1 (F' := (mb, C (MdV.c { m with d := s2, fu := 0, up := false }) 82) :: ((s1.aE ++ (s1.nE ++ (s1.iE ++ [(s1.vb, MO (kInt .u32) vd2)]))) ++ (m.qE ++ (m.rE ++ Z)))) hl hh rfl rfl (by repeat (first | exact keeps_nil | apply keeps_cons (by repeat (first | exact find_head | apply find_tail | apply find_skip)) (by first  | rfl) | exact keeps_self | exact keeps_left | apply keeps_app | apply keeps_mv | apply keeps_skip)) ?_; refine MdS.nil (by rw [dec_2 hnx (by rw [hr]; simp)]; rfl) ?_; refine MdO.same (m' := { m with d := s2, fu := 0, up := false }) ?_ (by unfold MF; rw [hE2]; try simp only [List.append_assoc, List.cons_append, List.nil_append]); rw [dec_2 hnx (by rw [hr]; simp)]; simp only [hr]; exact ⟨hso, rfl, rfl, hm.qr, hm.qo, hm.qp, hm.r, hm.ys, hm.dn, hm.tk, hm.au, hm.fl, rfl, hm.kp, (by simp)⟩)
      | (refine f_ret1 (F' := (mb, C (MdV.c { m with fu := 0, up := false }) 82) :: (m.d.E ++ (m.qE ++ (m.rE ++ Z)))) hl hh rfl rfl (by repeat (first | exact keeps_nil | apply keeps_cons (by repeat (first | exact find_head | apply find_tail | apply find_skip)) (by first  | rfl) | exact keeps_self | exact keeps_left | apply keeps_app | apply keeps_mv | apply keeps_skip)) ?_; refine MdS.nil (by rw [dec_2 hnx (by rw [hr]; simp)]; rfl) ?_; refine MdO.same (m' := { m with fu := 0, up := false }) ?_ rfl; rw [dec_2 hnx (by rw [hr]; simp)]; simp only [hr]; exact ⟨hm.dok, hm.d, rfl, hm.qr, hm.qo, hm.qp, hm.r, hm.ys, hm.dn, hm.tk, hm.au, hm.fl, rfl, hm.kp, (by simp)⟩)
end Go.Proofs.Qxb6500908aGreat

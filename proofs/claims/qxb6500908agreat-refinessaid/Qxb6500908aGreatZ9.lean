import Derived.Test.Qxb6500908aGreatZ8
namespace Go.Proofs.Qxb6500908aGreat
open Go.Eng
set_option linter.unusedVariables false
set_option linter.unusedSimpArgs false
theorem cal120 : callable Tryz.prog 120 = true := by kernel_rfl
theorem stat_inv {g : GtP} (hI : GtI g) (id : Int) : (∃ c, g.st.vd id = some c ∧ statP g id = c ∧ (c = 3 ∨ c = 4)) ∨ (g.st.vd id = none ∧ g.st.ph = 1 ∧ g.st.fid = id ∧ statP g id = 2) ∨ (g.st.vd id = none ∧ ¬ (¬ g.st.ph = 0 ∧ g.st.fid = id) ∧ 0 ≤ qix g.q id ∧ statP g id = 1) ∨ (g.st.vd id = none ∧ ¬ (¬ g.st.ph = 0 ∧ g.st.fid = id) ∧ ¬ 0 ≤ qix g.q id ∧ (statP g id = 5 ∨ statP g id = 9 ∨ statP g id = 10 ∨ statP g id = 11)) := by
  cases e : g.st.vd id with
  | some c => exact .inl ⟨c, rfl, sx_v hI.on e, hI.s.vr id c e⟩
  | none =>
    refine .inr ?_
    by_cases h2 : ¬ g.st.ph = 0 ∧ g.st.fid = id
    · refine .inl ⟨rfl, ?_, h2.2, sx_f hI.on e h2⟩
      have hp := hI.s.p
      rcases (show g.st.ph = 1 ∨ g.st.ph = 2 ∨ g.st.ph = 3 by omega) with h9 | h9 | h9
      · exact h9
      · have h8 := hI.s.v2 h9; rw [h2.2, e] at h8; cases h8
      · have h8 := hI.s.v3 h9; rw [h2.2, e] at h8; cases h8
    · refine .inr ?_
      by_cases h3 : 0 ≤ qix g.q id
      · exact .inl ⟨rfl, h2, h3, sx_q hI.on e h2 h3⟩
      · refine .inr ⟨rfl, h2, h3, ?_⟩
        cases e4 : g.rf id with
        | some c => have := hI.rf id c e4; rw [sx_rf hI.on e h2 h3 e4]; omega
        | none => rw [sx_un hI.on e h2 h3 e4]; omega
theorem q_none {g : GtP} (hI : GtI g) {id : Int} (h : 0 ≤ qix g.q id) : g.st.vd id = none ∧ ¬ (¬ g.st.ph = 0 ∧ g.st.fid = id) := by
  obtain ⟨b, hb, he⟩ := qix_in h
  have := hI.qv b (List.mem_of_getElem? hb)
  rw [he] at this
  exact this.2
theorem ab_s4 {g : GtP} {l : LdP} (hI : GtI g) {id : Int} (h : statP g id = 4) : abortP g l id = ((g, l), 4) := by
  rcases stat_inv hI id with ⟨c, h1, h2, h3⟩ | ⟨_, _, _, h2⟩ | ⟨_, _, _, h2⟩ | ⟨_, _, _, h2⟩
  · have hq : ¬ 0 ≤ qix g.q id := fun hq => by rw [(q_none hI hq).1] at h1; cases h1
    have hr : abR g l id = (g, l) := by
      unfold abR; rw [if_neg (fun ⟨q1, q2⟩ => by have := hI.s.v1 q1; rw [q2, h1] at this; cases this)]
    rw [ab_r hI.on hq, hr]
    simp only
    rw [h]; rfl
  · omega
  · omega
  · omega
theorem ab_s3 {g : GtP} {l : LdP} (hI : GtI g) {id : Int} (h : statP g id = 3) : abortP g l id = ((g, l), 13) := by
  rcases stat_inv hI id with ⟨c, h1, h2, h3⟩ | ⟨_, _, _, h2⟩ | ⟨_, _, _, h2⟩ | ⟨_, _, _, h2⟩
  · have hq : ¬ 0 ≤ qix g.q id := fun hq => by rw [(q_none hI hq).1] at h1; cases h1
    have hr : abR g l id = (g, l) := by
      unfold abR; rw [if_neg (fun ⟨q1, q2⟩ => by have := hI.s.v1 q1; rw [q2, h1] at this; cases this)]
    rw [ab_r hI.on hq, hr]
    simp only
    rw [h]; rfl
  · omega
  · omega
  · omega
theorem ab_s1 {g : GtP} (hI : GtI g) {id : Int} (h : statP g id = 1) : 0 ≤ qix g.q id := by
  rcases stat_inv hI id with ⟨c, h1, h2, h3⟩ | ⟨_, _, _, h2⟩ | ⟨_, _, h2, _⟩ | ⟨_, _, _, h2⟩
  · omega
  · omega
  · exact h2
  · omega
theorem dec_off {g : GtP} {l : LdP} {cm : Bool} (hn : g.off = false) (h : (decP g l cm).1.off = true) : (decP g l cm).1.out = [] := by
  by_cases h9 : (storeP l (nxP g cm)).2 = 0
  · rw [dec_0 rfl h9] at h; rw [show g.off = true from h] at hn; cases hn
  · rw [dec_2 rfl h9]; rfl
theorem ab_s2 {g : GtP} {l : LdP} (hI : GtI g) {id : Int} (h : statP g id = 2) : abortP g l id = (decP g l false, if (decP g l false).1.off then 14 else 4) := by
  rcases stat_inv hI id with ⟨c, h1, h2, h3⟩ | ⟨h1, h2, h3, _⟩ | ⟨_, _, _, h2⟩ | ⟨_, _, _, h2⟩
  · omega
  · have hq : ¬ 0 ≤ qix g.q id := fun hq => (q_none hI hq).2 ⟨by omega, h3⟩
    have hr : abR g l id = decP g l false := by unfold abR; rw [if_pos ⟨h2, h3⟩]
    rw [ab_r hI.on hq, hr]
    congr 1
    cases ho : (decP g l false).1.off with
    | true => rw [sx_off ho]; rfl
    | false =>
      by_cases h9 : (storeP l (nxP g false)).2 = 0
      · have e : (decP g l false).1.st = setlP g.st false := by rw [dec_0 rfl h9]; rfl
        rw [sx_v (c := 4) ho (by rw [e]; unfold setlP; simp only; rw [if_pos h3.symm]; rfl)]; rfl
      · rw [dec_2 rfl h9] at ho; cases ho
  · omega
  · omega
theorem ab_sx {g : GtP} {l : LdP} (hI : GtI g) {id : Int} (h4 : ¬ statP g id = 4) (h3 : ¬ statP g id = 3) (h1 : ¬ statP g id = 1) (h2 : ¬ statP g id = 2) : abortP g l id = ((g, l), 5) := by
  rcases stat_inv hI id with ⟨c, _, h5, h6⟩ | ⟨_, _, _, h5⟩ | ⟨_, _, _, h5⟩ | ⟨h5, h6, h7, h8⟩
  · omega
  · omega
  · omega
  · have hr : abR g l id = (g, l) := by
      unfold abR; rw [if_neg (fun ⟨q1, q2⟩ => h6 ⟨by omega, q2⟩)]
    rw [ab_r hI.on h7, hr]
    simp only
    unfold abC
    rw [if_neg (by omega), if_neg (by omega), if_neg (by omega)]
theorem stat_14 {g : GtP} (hI : GtI g) (id : Int) : ¬ statP g id = 14 := by
  rcases stat_inv hI id with ⟨c, _, h5, h6⟩ | ⟨_, _, _, h5⟩ | ⟨_, _, _, h5⟩ | ⟨h5, h6, h7, h8⟩ <;> omega
theorem tk_snoc {α : Type} {q : List α} {i : Nat} {x : α} (h : q[i]? = some x) : q.take (i + 1) = q.take i ++ [x] := by
  rw [List.take_add_one, h]; rfl
/-- all but one number -/
def rstM (id : Int) (q : List Bt) (i : Nat) : List Bt := (q.take i).filter (fun b => decide (¬ b.id = id))
theorem rst_y {id : Int} {q : List Bt} {i : Nat} {x : Bt} (h : q[i]? = some x) (hx : ¬ x.id = id) : rstM id q (i + 1) = rstM id q i ++ [x] := by
  unfold rstM
  rw [tk_snoc h, List.filter_append, List.filter_cons_of_pos (by simpa using hx)]; rfl
theorem rst_n {id : Int} {q : List Bt} {i : Nat} {x : Bt} (h : q[i]? = some x) (hx : x.id = id) : rstM id q (i + 1) = rstM id q i := by
  unfold rstM
  rw [tk_snoc h, List.filter_append, List.filter_cons_of_neg (by simpa using hx), List.filter_nil, List.append_nil]
theorem rst_len (id : Int) (q : List Bt) (i : Nat) : (rstM id q i).length ≤ q.length := by
  unfold rstM
  refine Nat.le_trans (List.length_filter_le _ _) ?_
  rw [List.length_take]; omega
theorem rst_mem {id : Int} {q : List Bt} {i : Nat} {x : Bt} (h : x ∈ rstM id q i) : x ∈ q := List.mem_of_mem_take (List.mem_filter.1 h).1
theorem rst_del {id : Int} {q : List Bt} (hn : ((q.map btP).map Prod.fst).Nodup) (h : 0 ≤ qix (q.map btP) id) : (rstM id q q.length).map btP = delP (q.map btP) (qix (q.map btP) id).toNat := by
  obtain ⟨b, hb, he⟩ := qix_in h
  generalize hk : (qix (q.map btP) id).toNat = k at hb
  have hs := split_at hb
  have e1 : (rstM id q q.length).map btP = (q.map btP).filter (fun b => decide (¬ b.1 = id)) := by
    unfold rstM
    rw [List.take_length, List.filter_map]; rfl
  rw [e1]
  have hd := delP_ne (f := Prod.fst) hn hb
  unfold delP at hd ⊢
  conv => lhs; rw [hs]
  rw [List.filter_append, List.filter_cons_of_neg (by simpa using he)]
  have f1 : ((q.map btP).take k).filter (fun b => decide (¬ b.1 = id)) = (q.map btP).take k := by
    rw [List.filter_eq_self]
    intro c hc
    exact decide_eq_true (fun e9 => hd c (List.mem_append_left _ hc) (by rw [e9, he]))
  have f2 : ((q.map btP).drop (k + 1)).filter (fun b => decide (¬ b.1 = id)) = (q.map btP).drop (k + 1) := by
    rw [List.filter_eq_self]
    intro c hc
    exact decide_eq_true (fun e9 => hd c (List.mem_append_right _ hc) (by rw [e9, he]))
  rw [f1, f2]
theorem du_vd {s1 : DuV} {g : GtP} (h : s1.pl = g.st) (id : Int) : DuV.pl { s1 with vd := mput s1.vd id (.int .u8 4) } = abS g id := by
  unfold abS
  rw [← h]
  unfold DuV.pl rfU
  simp only [StP.mk.injEq, true_and]
  funext i
  rw [mget_mput]
  split <;> rfl


attribute [local irreducible] NtV.k StV.c LdV.c StV.E GtV.c GtV.t DuV.c DuV.E MdV.c MdV.t

set_option maxHeartbeats 4000000 in
theorem mab_spec (Z : List (Nat × Obj)) (mb : Nat) (m : MdV) (g : GtP) (l : LdP) (hm : MdR Z m g l) (hI : GtI g) (hsd : g.st = l.d) (hdn : l.dn = false) (id : Int) : Sp Tryz.prog 107 #[.pointer (some ⟨mb, 0, none⟩), .int .u32 id] (MF mb m Z) (fun v F' => ∃ u, v = .tuple #[.int .u8 (abortP g l id).2, u] ∧ MdS mb (abortP g l id).1 Z u F') := by
  refine f_enter (args := [.pointer (some ⟨mb, 0, none⟩), .int .u32 id]) Tryz.func107 rfl Tryz.ntmps107 rfl ?_
  intro w0 w a hpre hl hh
  have hst : m.d.pl = g.st := hm.d.trans hsd.symm
  have hup : m.up = true := by rw [hm.up, hI.on]; rfl
  have hph : m.d.ph = g.st.ph := congrArg StP.ph hst
  have hfi : m.d.fid = g.st.fid := congrArg StP.fid hst
  have hep : m.d.ep = g.st.ep := congrArg StP.ep hst
  have hqg := hm.qp
  have hql : m.q.length ≤ 8 := by have h9 := hI.ql; rw [← hqg, List.length_map] at h9; exact h9
  obtain ⟨rb, rl, rn, hrb, hrE, hrv, hrk, hrf⟩ := hm.r
  generalize hDD : List.map Prod.fst (MF mb m Z) = D at hh ⊢
  simp only [MF, List.cons_append, List.append_assoc] at hh
  have hs14 := stat_14 hI id
  simp only [slotsFrom, Nat.reduceAdd] at hl
  refine c_seq ?_
  refine c_region ?_
  refine wl (wl_val hl rfl trivial (r_assign hl rfl) ?_)
  clear hl a; intro a hl
  refine wl (wl_val hl rfl trivial (r_assign hl rfl) ?_)
  clear hl a; intro a hl
  refine w_nil ?_
  have hl2 := hl.add (t := 0) (hl.add (t := 1) (hl.nil) rfl) rfl; clear hl; have hl := hl2; clear hl2
  refine then_normal ?_
  refine c_seq ?_
  refine c_seq ?_
  refine c_region ?_
  refine wl (wl_val hl rfl trivial (r_move hl rfl) ?_)
  clear hl a; intro a hl
  refine wl (wl_val hl rfl trivial (r_move hl rfl) ?_)
  clear hl a; intro a hl
  refine wl (w_call hl hh rfl trivial rfl cal106 rfl (mstat2 Z mb m g l hm hI hsd hdn id) (by repeat (first | exact keeps_nil | apply keeps_cons (by repeat (first | exact find_head | apply find_tail | apply find_skip)) (by first  | rfl) | exact keeps_self | exact keeps_left | apply keeps_app | apply keeps_mv | apply keeps_skip)) trivial ?_)
  clear hl hh a w; intro vc Fc a w hR hl hh
  obtain ⟨rfl, rfl⟩ := hR
  try simp only [List.cons_append, List.nil_append, List.append_assoc, List.append_nil] at hh
  try simp only [List.append_assoc, List.cons_append, List.nil_append] at hh
  refine w_nil ?_
  have hl2 := hl.add (t := 0) (hl.add (t := 1) (hl.add (t := 14) (hl.nil) rfl) rfl) rfl; clear hl; have hl := hl2; clear hl2
  refine then_normal ?_
  refine wp_block ?_
  refine c_seq ?_
  refine c_region ?_
  refine wl (wl_val hl rfl trivial (r_eql hl rfl rfl) ?_)
  clear hl a; intro a hl
  refine wl (wl_val hl rfl trivial (r_assign hl rfl) ?_)
  clear hl a; intro a hl
  refine w_nil ?_
  have hl2 := hl.add (t := 0) (hl.add (t := 1) (hl.add (t := 14) (hl.add (t := 15) (hl.nil) rfl) rfl) rfl) rfl; clear hl; have hl := hl2; clear hl2
  refine then_normal ?_
  refine c_cond hl rfl ?_ ?_
  · intro hc0
    try simp only [decide_eq_true_eq, decide_eq_false_iff_not, Bool.not_eq_true', Bool.not_eq_false', Bool.not_eq_true, Bool.not_eq_false, Bool.and_eq_true, Bool.or_eq_true, Bool.and_eq_false_iff, Bool.or_eq_false_iff, Bool.not_not, ne_eq, Int.not_lt, Int.not_le, Decidable.not_not, beq_iff_eq, bne_iff_ne] at hc0
    exfalso; first | contradiction | omega | (simp_all; done)
  · intro hc0
    try simp only [decide_eq_true_eq, decide_eq_false_iff_not, Bool.not_eq_true', Bool.not_eq_false', Bool.not_eq_true, Bool.not_eq_false, Bool.and_eq_true, Bool.or_eq_true, Bool.and_eq_false_iff, Bool.or_eq_false_iff, Bool.not_not, ne_eq, Int.not_lt, Int.not_le, Decidable.not_not, beq_iff_eq, bne_iff_ne] at hc0
    refine c_seq ?_
    refine c_region ?_
    refine wl (wl_val hl rfl trivial (r_eql hl rfl rfl) ?_)
    clear hl a; intro a hl
    refine wl (wl_val hl rfl trivial (r_assign hl rfl) ?_)
    clear hl a; intro a hl
    refine w_nil ?_
    have hl2 := hl.add (t := 0) (hl.add (t := 1) (hl.add (t := 14) (hl.add (t := 17) (hl.nil) rfl) rfl) rfl) rfl; clear hl; have hl := hl2; clear hl2
    refine then_normal ?_
    refine c_cond hl rfl ?_ ?_
    · intro hc1
      try simp only [decide_eq_true_eq, decide_eq_false_iff_not, Bool.not_eq_true', Bool.not_eq_false', Bool.not_eq_true, Bool.not_eq_false, Bool.and_eq_true, Bool.or_eq_true, Bool.and_eq_false_iff, Bool.or_eq_false_iff, Bool.not_not, ne_eq, Int.not_lt, Int.not_le, Decidable.not_not, beq_iff_eq, bne_iff_ne] at hc1
      have hab := ab_s4 (l := l) hI hc1
      refine c_seq ?_
      refine c_region ?_
      refine wl (wl_val hl rfl trivial (r_assign hl rfl) ?_)
      clear hl a; intro a hl
      refine wl (wl_val hl rfl trivial (r_assign hl rfl) ?_)
      clear hl a; intro a hl
      refine w_nil ?_
      have hl2 := hl.add (t := 4) (hl.add (t := 5) (hl.nil) rfl) rfl; clear hl; have hl := hl2; clear hl2
      refine then_normal ?_
      refine wp_ret ?_
      refine blk_ret ?_
      refine then_ret ?_
      refine f_ret2 (F' := (mb, C (MdV.c m) 82) :: (m.d.E ++ (m.qE ++ (m.rE ++ Z)))) hl hh rfl rfl rfl (by repeat (first | exact keeps_nil | apply keeps_cons (by repeat (first | exact find_head | apply find_tail | apply find_skip)) (by first  | rfl) | exact keeps_self | exact keeps_left | apply keeps_app | apply keeps_mv | apply keeps_skip)) ?_
      exact ⟨_, by rw [hab], MdS.nil (by rw [hab]; exact hI.o) (MdO.same (by rw [hab]; exact hm) rfl)⟩
    · intro hc1
      try simp only [decide_eq_true_eq, decide_eq_false_iff_not, Bool.not_eq_true', Bool.not_eq_false', Bool.not_eq_true, Bool.not_eq_false, Bool.and_eq_true, Bool.or_eq_true, Bool.and_eq_false_iff, Bool.or_eq_false_iff, Bool.not_not, ne_eq, Int.not_lt, Int.not_le, Decidable.not_not, beq_iff_eq, bne_iff_ne] at hc1
      refine c_seq ?_
      refine c_region ?_
      refine wl (wl_val hl rfl trivial (r_eql hl rfl rfl) ?_)
      clear hl a; intro a hl
      refine wl (wl_val hl rfl trivial (r_assign hl rfl) ?_)
      clear hl a; intro a hl
      refine w_nil ?_
      have hl2 := hl.add (t := 0) (hl.add (t := 1) (hl.add (t := 14) (hl.add (t := 19) (hl.nil) rfl) rfl) rfl) rfl; clear hl; have hl := hl2; clear hl2
      refine then_normal ?_
      refine c_cond hl rfl ?_ ?_
      · intro hc2
        try simp only [decide_eq_true_eq, decide_eq_false_iff_not, Bool.not_eq_true', Bool.not_eq_false', Bool.not_eq_true, Bool.not_eq_false, Bool.and_eq_true, Bool.or_eq_true, Bool.and_eq_false_iff, Bool.or_eq_false_iff, Bool.not_not, ne_eq, Int.not_lt, Int.not_le, Decidable.not_not, beq_iff_eq, bne_iff_ne] at hc2
        have hab := ab_s3 (l := l) hI hc2
        refine c_seq ?_
        refine c_region ?_
        refine wl (wl_val hl rfl trivial (r_assign hl rfl) ?_)
        clear hl a; intro a hl
        refine wl (wl_val hl rfl trivial (r_assign hl rfl) ?_)
        clear hl a; intro a hl
        refine w_nil ?_
        have hl2 := hl.add (t := 4) (hl.add (t := 5) (hl.nil) rfl) rfl; clear hl; have hl := hl2; clear hl2
        refine then_normal ?_
        refine wp_ret ?_
        refine blk_ret ?_
        refine then_ret ?_
        refine f_ret2 (F' := (mb, C (MdV.c m) 82) :: (m.d.E ++ (m.qE ++ (m.rE ++ Z)))) hl hh rfl rfl rfl (by repeat (first | exact keeps_nil | apply keeps_cons (by repeat (first | exact find_head | apply find_tail | apply find_skip)) (by first  | rfl) | exact keeps_self | exact keeps_left | apply keeps_app | apply keeps_mv | apply keeps_skip)) ?_
        exact ⟨_, by rw [hab], MdS.nil (by rw [hab]; exact hI.o) (MdO.same (by rw [hab]; exact hm) rfl)⟩
      · intro hc2
        try simp only [decide_eq_true_eq, decide_eq_false_iff_not, Bool.not_eq_true', Bool.not_eq_false', Bool.not_eq_true, Bool.not_eq_false, Bool.and_eq_true, Bool.or_eq_true, Bool.and_eq_false_iff, Bool.or_eq_false_iff, Bool.not_not, ne_eq, Int.not_lt, Int.not_le, Decidable.not_not, beq_iff_eq, bne_iff_ne] at hc2
        refine c_seq ?_
        refine c_region ?_
        refine wl (wl_val hl rfl trivial (r_eql hl rfl rfl) ?_)
        clear hl a; intro a hl
        refine wl (wl_val hl rfl trivial (r_assign hl rfl) ?_)
        clear hl a; intro a hl
        refine w_nil ?_
        have hl2 := hl.add (t := 0) (hl.add (t := 1) (hl.add (t := 14) (hl.add (t := 21) (hl.nil) rfl) rfl) rfl) rfl; clear hl; have hl := hl2; clear hl2
        refine then_normal ?_
        refine c_cond hl rfl ?_ ?_
        · intro hc3
          try simp only [decide_eq_true_eq, decide_eq_false_iff_not, Bool.not_eq_true', Bool.not_eq_false', Bool.not_eq_true, Bool.not_eq_false, Bool.and_eq_true, Bool.or_eq_true, Bool.and_eq_false_iff, Bool.or_eq_false_iff, Bool.not_not, ne_eq, Int.not_lt, Int.not_le, Decidable.not_not, beq_iff_eq, bne_iff_ne] at hc3
          have hq0 := ab_s1 hI hc3
          refine c_seq ?_
          refine c_region ?_
          refine wl (wl_val hl rfl trivial (r_move hl rfl) ?_)
          clear hl a; intro a hl
          refine wl (wl_val hl rfl trivial (r_nilCheck hl rfl) ?_)
          clear hl a; intro a hl
          refine wl (wl_val hl rfl trivial (r_field hl rfl fld82_0) ?_)
          clear hl a; intro a hl
          first | refine wl (w_loadA hl hh rfl trivial agg78 rfl (by repeat (first | exact find_head | apply find_tail | apply find_skip)) (by first | exact duc_all _ | exact mdc_d _) (by exact duc_len _) ?_) | refine wl (wl_val hl rfl trivial (r_loadA hl rfl agg78 (hh.mem _ _ (by repeat (first | exact hmem1 | exact List.mem_append_left _ hmem1 | apply List.mem_cons_of_mem | apply List.mem_append_right))) hd1 rfl) ?_)
          clear hl a; intro a hl
          refine wl (w_call hl hh rfl trivial rfl cal115 rfl (copy_spec Z m.d hm.dok) (by repeat (first | exact keeps_nil | apply keeps_cons (by repeat (first | exact find_head | apply find_tail | apply find_skip)) (by first  | rfl) | exact keeps_self | exact keeps_left | apply keeps_app | apply keeps_mv | apply keeps_skip)) trivial ?_)
          clear hl hh a w; intro vc Fc a w hR hl hh
          obtain ⟨s1, hs1, hps1, rfl, rfl⟩ := hR
          try simp only [List.cons_append, List.nil_append, List.append_assoc, List.append_nil] at hh
          rw [DuV.E_eq s1] at hh
          try simp only [List.append_assoc, List.cons_append, List.nil_append] at hh
          refine wl (w_alloc hl hh rfl trivial zero78 rfl ?_)
          clear hl hh a w; intro k6 a w hl hh
          refine wl (w_storeA hl hh trivial agg78 rfl rfl (by repeat (first | exact find_head | apply find_tail | apply find_skip)) (by exact duc_len _) (by first | exact Nat.le_refl 71 | (rw [mdc_len]; omega)) (by exact duc_one _) (by first | exact setL_all (show 71 = _ from (duc_len _).symm) | exact mdc_sd _ _) ?_)
          clear hh w; intro w hh
          refine w_nil ?_
          have hl2 := hl.add (t := 0) (hl.add (t := 1) (hl.add (t := 6) (hl.nil) rfl) rfl) rfl; clear hl; have hl := hl2; clear hl2
          refine then_normal ?_
          refine c_seq ?_
          refine c_region ?_
          refine wl (wl_val hl rfl trivial (r_field hl rfl fld78_7) ?_)
          clear hl a; intro a hl
          refine wl (w_load hl hh rfl trivial one74 rfl (by repeat (first | exact find_head | apply find_tail | apply find_skip)) (by first | exact mdc_ep _ | exact mdc_a _ | exact mdc_n _ | exact mdc_i _ | exact mdc_ph _ | exact mdc_fid _ | exact mdc_vd _ | exact mdc_up _ | exact mdc_q _ | exact mdc_rf _ | exact mdc_tk _ | exact mdc_au _ | exact mdc_fl _ | exact mdc_fu _ | exact mdc_kp _ | exact duc_ep _ | exact duc_a _ | exact duc_n _ | exact duc_i _ | exact duc_ph _ | exact duc_fid _ | exact duc_vd _ | rfl) ?_)
          clear hl a; intro a hl
          refine wl (wl_val hl rfl trivial (r_move hl rfl) ?_)
          clear hl a; intro a hl
          refine wl (w_mapUpdate (keyInt Tryz.underlying36) Tryz.underlying74 hl hh trivial rfl rfl rfl (by repeat (first | exact find_head | apply find_tail | apply find_skip)) ?_)
          clear hh w; intro w hh
          refine w_nil ?_
          have hl2 := hl.add (t := 0) (hl.add (t := 1) (hl.add (t := 6) (hl.nil) rfl) rfl) rfl; clear hl; have hl := hl2; clear hl2
          obtain ⟨s2, vd2, hs2, hvd2⟩ : ∃ (s2 : DuV) (vd2 : List (Int × Value)), s2 = { s1 with vd := vd2 } ∧ vd2 = mput s1.vd id (.int .u8 4) := ⟨_, _, rfl, rfl⟩
          have hc2 : DuV.c s1 = s2.c := by rw [hs2]; exact (duc_vdl _ vd2).symm
          rw [hc2, ← hvd2] at hh
          have hE2 : s2.E = s1.aE ++ (s1.nE ++ (s1.iE ++ [(s1.vb, MO (kInt .u32) vd2)])) := by rw [hs2]; exact DuV.E_eq _
          have hso : s2.ok Z := by rw [hs2, hvd2]; exact du_vdok hs1 hs1.ph _ (by omega)
          have hs9 : s1.pl = g.st := hps1.trans hst
          have hpl : s2.pl = abS g id := by rw [hs2, hvd2]; exact du_vd hs9 id
          refine then_normal ?_
          refine c_seq ?_
          refine c_seq ?_
          refine c_region ?_
          refine wl (wl_val hl rfl trivial (r_move hl rfl) ?_)
          clear hl a; intro a hl
          first | refine wl (w_loadA hl hh rfl trivial agg78 rfl (by repeat (first | exact find_head | apply find_tail | apply find_skip)) (by first | exact duc_all _ | exact mdc_d _) (by exact duc_len _) ?_) | refine wl (wl_val hl rfl trivial (r_loadA hl rfl agg78 (hh.mem _ _ (by repeat (first | exact hmem1 | exact List.mem_append_left _ hmem1 | apply List.mem_cons_of_mem | apply List.mem_append_right))) hd1 rfl) ?_)
          clear hl a; intro a hl
          refine wl (w_call hl hh rfl trivial rfl cal116 rfl (write4 mb m s2 l hdn hm.fl hm.fu hm.kp hm.d hm.fb) (by repeat (first | exact keeps_nil | apply keeps_cons (by repeat (first | exact find_head | apply find_tail | apply find_skip)) (by first  | rfl) | exact keeps_self | exact keeps_left | apply keeps_app | apply keeps_mv | apply keeps_skip)) trivial ?_)
          clear hl hh a w; intro vc Fc a w hR hl hh
          rcases hR with ⟨f, hr, hf, rfl, rfl⟩ | ⟨hr, rfl, rfl⟩ | ⟨hr, rfl, rfl⟩ | ⟨hr, rfl, rfl⟩
          ·
            try simp only [List.cons_append, List.nil_append, List.append_nil] at hh
            try simp only [List.append_assoc, List.cons_append, List.nil_append] at hh
            refine wl (wl_val hl rfl trivial (r_assign hl rfl) ?_)
            clear hl a; intro a hl
            refine w_nil ?_
            have hl2 := hl.add (t := 0) (hl.add (t := 1) (hl.add (t := 7) (hl.nil) rfl) rfl) rfl; clear hl; have hl := hl2; clear hl2
            refine then_normal ?_
            refine c_seq ?_
            refine c_region ?_
            refine wl (wl_val hl rfl trivial (r_move hl rfl) ?_)
            clear hl a; intro a hl
            refine wl (wl_val hl rfl trivial (r_neq hl rfl rfl) ?_)
            clear hl a; intro a hl
            refine w_nil ?_
            have hl2 := hl.add (t := 0) (hl.add (t := 1) (hl.add (t := 7) (hl.add (t := 35) (hl.nil) rfl) rfl) rfl) rfl; clear hl; have hl := hl2; clear hl2
            refine then_normal ?_
            refine c_condF hl rfl ?_
            refine wp_skip ?_
            refine then_normal ?_
            refine c_seq ?_
            refine c_region ?_
            refine wl (wl_val hl rfl trivial (r_assign hl rfl) ?_)
            clear hl a; intro a hl
            refine w_nil ?_
            have hl2 := hl.add (t := 0) (hl.add (t := 1) (hl.add (t := 8) (hl.nil) rfl) rfl) rfl; clear hl; have hl := hl2; clear hl2
            refine then_normal ?_
            refine c_seq ?_
            refine c_seq ?_
            refine c_region ?_
            refine wl (wl_val hl rfl trivial (r_move hl rfl) ?_)
            clear hl a; intro a hl
            refine wl (wl_val hl rfl trivial (r_nilCheck hl rfl) ?_)
            clear hl a; intro a hl
            refine wl (wl_val hl rfl trivial (r_field hl rfl fld82_2) ?_)
            clear hl a; intro a hl
            refine wl (w_load hl hh rfl trivial one79 rfl (by repeat (first | exact find_head | apply find_tail | apply find_skip)) (by first | exact mdc_ep _ | exact mdc_a _ | exact mdc_n _ | exact mdc_i _ | exact mdc_ph _ | exact mdc_fid _ | exact mdc_vd _ | exact mdc_up _ | exact mdc_q _ | exact mdc_rf _ | exact mdc_tk _ | exact mdc_au _ | exact mdc_fl _ | exact mdc_fu _ | exact mdc_kp _ | exact duc_ep _ | exact duc_a _ | exact duc_n _ | exact duc_i _ | exact duc_ph _ | exact duc_fid _ | exact duc_vd _ | rfl) ?_)
            clear hl a; intro a hl
            refine wl (wl_val hl rfl trivial (r_lenS hl rfl slc79) ?_)
            clear hl a; intro a hl
            refine wl (wl_val hl rfl trivial (r_move hl rfl) ?_)
            clear hl a; intro a hl
            refine w_nil ?_
            have hl2 := hl.add (t := 0) (hl.add (t := 1) (hl.add (t := 8) (hl.add (t := 40) (hl.add (t := 41) (hl.add (t := 42) (hl.nil) rfl) rfl) rfl) rfl) rfl) rfl; clear hl; have hl := hl2; clear hl2
            refine then_normal ?_
            refine wp_block ?_
            obtain ⟨KS0, hKS0, hk⟩ := (hl.add (t := 0) (hl.add (t := 1) (hl.add (t := 40) (hl.add (t := 41) (hl.nil) rfl) rfl) rfl) rfl).name
            obtain ⟨HS0, hHS0, hh2⟩ := hh.nameT (A := []) (U := []) ((by repeat (first | exact keeps_nil | exact keeps_self | exact keeps_left | apply keeps_app | apply keeps_mv | apply keeps_skip)))
            refine c_loop (α := PuS) (fun s => m.q.length - s.i) (fun s a w => (s.i ≤ m.q.length ∧ Row (.slice s.p (rstM id m.q s.i).length s.c) (rstM id m.q s.i).length (fl btc (rstM id m.q s.i)) 2 141 s.E) ∧ Sl 69 ([(42, .int .i64 (s.i : Int)), (8, .slice s.p (rstM id m.q s.i).length s.c)] ++ KS0) a ∧ Has _ w0 ([] ++ (HS0 ++ s.E)) w) ⟨0, none, 0, []⟩ ⟨⟨Nat.zero_le _, Row.nil _ _⟩, hl.addE (t := 42) (hl.addE (t := 8) (hk) rfl (by first | rfl)) rfl (by first | rfl), hh2⟩ ?_
            clear hk hh2 hl hh a w
            intro s a w hI
            obtain ⟨⟨hsi, hsR⟩, hl, hh⟩ := hI
            subst hKS0; subst hHS0
            simp only [List.cons_append, List.nil_append, List.append_nil, List.append_assoc] at hl hh
            have hrl := rst_len id m.q s.i
            refine c_seq ?_
            refine c_region ?_
            refine wl (wl_val hl rfl trivial (r_lss hl rfl rfl) ?_)
            clear hl a; intro a hl
            refine w_nil ?_
            have hl2 := hl.add (t := 0) (hl.add (t := 1) (hl.add (t := 8) (hl.add (t := 40) (hl.add (t := 41) (hl.add (t := 42) (hl.add (t := 43) (hl.nil) rfl) rfl) rfl) rfl) rfl) rfl) rfl; clear hl; have hl := hl2; clear hl2
            refine then_normal ?_
            refine c_seq ?_
            refine c_cond hl rfl ?_ ?_
            · intro hc5
              try simp only [decide_eq_true_eq, decide_eq_false_iff_not, Bool.not_eq_true', Bool.not_eq_false', Bool.not_eq_true, Bool.not_eq_false, Bool.and_eq_true, Bool.or_eq_true, Bool.and_eq_false_iff, Bool.or_eq_false_iff, Bool.not_not, ne_eq, Int.not_lt, Int.not_le, Decidable.not_not, beq_iff_eq, bne_iff_ne] at hc5
              obtain ⟨x, hx⟩ : ∃ x, m.q[s.i]? = some x := ⟨_, List.getElem?_eq_getElem (by omega)⟩
              obtain ⟨b1, o1, l1, hq1, hxl1, hjc1, hol1, hxs1, hE1⟩ := rowO_pos hm.qr (by omega)
              have hmem1 : (b1, C l1 141) ∈ m.qE := (by rw [hE1]; exact List.mem_singleton.2 rfl)
              have hd1 := rowO_bt (b := b1) hxs1 hx
              rw [hq1] at hl
              refine wp_skip ?_
              refine then_normal ?_
              refine c_seq ?_
              refine wp_block ?_
              refine c_seq ?_
              refine c_region ?_
              refine wl (wl_val hl rfl trivial (r_indexS hl rfl rfl slc79 (by omega) (by omega) (by first | (simp only [Int.reduceToNat]; rfl) | exact toNat_add1 _ | exact toNat_add2 _ _ | exact toNat_emod _ _ | exact Int.toNat_natCast _ | rfl)) ?_)
              clear hl a; intro a hl
              first | refine wl (w_loadA hl hh rfl trivial agg141 rfl (by repeat (first | exact find_head | apply find_tail | apply find_skip)) (by first | exact hd1 | rfl) (by rfl) ?_) | refine wl (wl_val hl rfl trivial (r_loadA hl rfl agg141 (hh.mem _ _ (by repeat (first | exact hmem1 | exact List.mem_append_left _ hmem1 | apply List.mem_cons_of_mem | apply List.mem_append_right))) hd1 rfl) ?_)
              clear hl a; intro a hl
              refine wl (w_alloc hl hh rfl trivial zero141 rfl ?_)
              clear hl hh a w; intro k10 a w hl hh
              refine wl (w_storeA hl hh trivial agg141 rfl rfl (by repeat (first | exact find_head | apply find_tail | apply find_skip)) (by rfl) (by exact Nat.le_refl 2) (by rfl) (by exact setL_all rfl) ?_)
              clear hh w; intro w hh
              refine w_nil ?_
              have hl2 := hl.add (t := 0) (hl.add (t := 1) (hl.add (t := 8) (hl.add (t := 10) (hl.add (t := 40) (hl.add (t := 41) (hl.add (t := 42) (hl.nil) rfl) rfl) rfl) rfl) rfl) rfl) rfl; clear hl; have hl := hl2; clear hl2
              refine then_normal ?_
              refine c_seq ?_
              refine c_region ?_
              refine wl (wl_val hl rfl trivial (r_field hl rfl fld141_0) ?_)
              clear hl a; intro a hl
              refine wl (w_load hl hh rfl trivial one36 rfl (by repeat (first | exact find_head | apply find_tail | apply find_skip)) (by first | exact mdc_ep _ | exact mdc_a _ | exact mdc_n _ | exact mdc_i _ | exact mdc_ph _ | exact mdc_fid _ | exact mdc_vd _ | exact mdc_up _ | exact mdc_q _ | exact mdc_rf _ | exact mdc_tk _ | exact mdc_au _ | exact mdc_fl _ | exact mdc_fu _ | exact mdc_kp _ | exact duc_ep _ | exact duc_a _ | exact duc_n _ | exact duc_i _ | exact duc_ph _ | exact duc_fid _ | exact duc_vd _ | rfl) ?_)
              clear hl a; intro a hl
              refine wl (wl_val hl rfl trivial (r_move hl rfl) ?_)
              clear hl a; intro a hl
              refine wl (wl_val hl rfl trivial (r_neq hl rfl rfl) ?_)
              clear hl a; intro a hl
              refine w_nil ?_
              have hl2 := hl.add (t := 0) (hl.add (t := 1) (hl.add (t := 8) (hl.add (t := 10) (hl.add (t := 40) (hl.add (t := 41) (hl.add (t := 42) (hl.add (t := 49) (hl.nil) rfl) rfl) rfl) rfl) rfl) rfl) rfl) rfl; clear hl; have hl := hl2; clear hl2
              refine then_normal ?_
              refine c_cond hl rfl ?_ ?_
              · intro hc6
                try simp only [decide_eq_true_eq, decide_eq_false_iff_not, Bool.not_eq_true', Bool.not_eq_false', Bool.not_eq_true, Bool.not_eq_false, Bool.and_eq_true, Bool.or_eq_true, Bool.and_eq_false_iff, Bool.or_eq_false_iff, Bool.not_not, ne_eq, Int.not_lt, Int.not_le, Decidable.not_not, beq_iff_eq, bne_iff_ne] at hc6
                have hrs := rst_y hx hc6
                refine c_region ?_
                refine wl (wl_val hl rfl trivial (r_move hl rfl) ?_)
                clear hl a; intro a hl
                first | refine wl (w_loadA hl hh rfl trivial agg141 rfl (by repeat (first | exact find_head | apply find_tail | apply find_skip)) (by first | exact hd1 | rfl) (by rfl) ?_) | refine wl (wl_val hl rfl trivial (r_loadA hl rfl agg141 (hh.mem _ _ (by repeat (first | exact hmem1 | exact List.mem_append_left _ hmem1 | apply List.mem_cons_of_mem | apply List.mem_append_right))) hd1 rfl) ?_)
                clear hl a; intro a hl
                refine wl (w_buildSlice hl hh rfl trivial app79 zero141 rfl rfl rfl rfl rfl (fill1 rfl (btc_len _)) ?_)
                clear hl hh a w; intro k52 a w hl hh
                refine wl (w_append (news := (btc x)) hl hh rfl trivial app79 rfl rfl rfl hsR (by repeat (first | exact keeps_nil | apply keeps_cons (by repeat (first | exact find_head | apply find_tail | apply find_skip)) (by first  | rfl) | exact keeps_self | exact keeps_left | apply keeps_app | apply keeps_mv | apply keeps_skip)) (hh.mem _ _ (Find.mem (by repeat (first | exact find_head | apply find_tail | apply find_skip)))) (by rw [List.drop_zero]; exact List.take_length) rfl (btc_one _) (by omega) (by omega) (by omega) (by decide) ?_)
                clear hl hh a w; intro rv2 E2 a w hR2 hl hh
                have hh3 := hh.comm; clear hh; have hh := hh3; clear hh3
                try simp only [List.cons_append, List.nil_append, List.append_assoc, List.append_nil] at hh
                obtain ⟨p6, c6, hv6⟩ := row_val hR2
                rw [hv6] at hl hR2
                rw [show (rstM id m.q s.i).length + 1 = (rstM id m.q s.i ++ [x]).length by simp] at hl hR2
                rw [show fl btc (rstM id m.q s.i) ++ btc x = fl btc (rstM id m.q s.i ++ [x]) by rw [fl_app, fl_sing]] at hR2
                refine wl (wl_val hl rfl trivial (r_assign hl rfl) ?_)
                clear hl a; intro a hl
                refine w_nil ?_
                have hl2 := hl.add (t := 0) (hl.add (t := 1) (hl.add (t := 8) (hl.add (t := 40) (hl.add (t := 41) (hl.add (t := 42) (hl.nil) rfl) rfl) rfl) rfl) rfl) rfl; clear hl; have hl := hl2; clear hl2
                refine blk_normal ?_
                refine then_normal ?_
                refine c_region ?_
                first | refine wl (wl_val hl rfl trivial (r_add hl rfl rfl (by simp only [Fits]; omega)) ?_) | refine wl (wl_val hl rfl trivial (r_addW hl rfl rfl) ?_)
                clear hl a; intro a hl
                refine wl (wl_val hl rfl trivial (r_move hl rfl) ?_)
                clear hl a; intro a hl
                refine w_nil ?_
                have hl2 := hl.add (t := 0) (hl.add (t := 1) (hl.add (t := 8) (hl.add (t := 40) (hl.add (t := 41) (hl.add (t := 42) (hl.nil) rfl) rfl) rfl) rfl) rfl) rfl; clear hl; have hl := hl2; clear hl2
                refine then_normal ?_
                refine ⟨⟨s.i + 1, p6, c6, E2⟩, (by simp only; omega), ⟨by simp only; omega, by simp only; rw [hrs]; exact hR2⟩, hl.addE (t := 42) (hl.addE (t := 8) (hl.addE (t := 0) (hl.addE (t := 1) (hl.addE (t := 40) (hl.addE (t := 41) (hl.nil) rfl (by first | rfl | exact congrArg (Value.int .i64) (show (s.i : Int) + 1 = ((s.i + 1 : Nat) : Int) by omega) | (rw [hq1]; done) | (simp only [hrs]; done))) rfl (by first | rfl | exact congrArg (Value.int .i64) (show (s.i : Int) + 1 = ((s.i + 1 : Nat) : Int) by omega) | (rw [hq1]; done) | (simp only [hrs]; done))) rfl (by first | rfl | exact congrArg (Value.int .i64) (show (s.i : Int) + 1 = ((s.i + 1 : Nat) : Int) by omega) | (rw [hq1]; done) | (simp only [hrs]; done))) rfl (by first | rfl | exact congrArg (Value.int .i64) (show (s.i : Int) + 1 = ((s.i + 1 : Nat) : Int) by omega) | (rw [hq1]; done) | (simp only [hrs]; done))) rfl (by first | rfl | exact congrArg (Value.int .i64) (show (s.i : Int) + 1 = ((s.i + 1 : Nat) : Int) by omega) | (rw [hq1]; done) | (simp only [hrs]; done))) rfl (by first | rfl | exact congrArg (Value.int .i64) (show (s.i : Int) + 1 = ((s.i + 1 : Nat) : Int) by omega) | (rw [hq1]; done) | (simp only [hrs]; done)), hh.keep (by repeat (first | exact keeps_nil | apply keeps_cons (by repeat (first | exact find_head | apply find_tail | apply find_skip)) (by first  | rfl) | exact keeps_self | exact keeps_left | apply keeps_app | apply keeps_mv | apply keeps_skip))⟩
              · intro hc6
                try simp only [decide_eq_true_eq, decide_eq_false_iff_not, Bool.not_eq_true', Bool.not_eq_false', Bool.not_eq_true, Bool.not_eq_false, Bool.and_eq_true, Bool.or_eq_true, Bool.and_eq_false_iff, Bool.or_eq_false_iff, Bool.not_not, ne_eq, Int.not_lt, Int.not_le, Decidable.not_not, beq_iff_eq, bne_iff_ne] at hc6
                have hrs := rst_n hx hc6
                refine wp_skip ?_
                refine blk_normal ?_
                refine then_normal ?_
                refine c_region ?_
                first | refine wl (wl_val hl rfl trivial (r_add hl rfl rfl (by simp only [Fits]; omega)) ?_) | refine wl (wl_val hl rfl trivial (r_addW hl rfl rfl) ?_)
                clear hl a; intro a hl
                refine wl (wl_val hl rfl trivial (r_move hl rfl) ?_)
                clear hl a; intro a hl
                refine w_nil ?_
                have hl2 := hl.add (t := 0) (hl.add (t := 1) (hl.add (t := 8) (hl.add (t := 40) (hl.add (t := 41) (hl.add (t := 42) (hl.nil) rfl) rfl) rfl) rfl) rfl) rfl; clear hl; have hl := hl2; clear hl2
                refine then_normal ?_
                refine ⟨⟨s.i + 1, s.p, s.c, s.E⟩, (by simp only; omega), ⟨by simp only; omega, by simp only; rw [hrs]; exact hsR⟩, hl.addE (t := 42) (hl.addE (t := 8) (hl.addE (t := 0) (hl.addE (t := 1) (hl.addE (t := 40) (hl.addE (t := 41) (hl.nil) rfl (by first | rfl | exact congrArg (Value.int .i64) (show (s.i : Int) + 1 = ((s.i + 1 : Nat) : Int) by omega) | (rw [hq1]; done) | (simp only [hrs]; done))) rfl (by first | rfl | exact congrArg (Value.int .i64) (show (s.i : Int) + 1 = ((s.i + 1 : Nat) : Int) by omega) | (rw [hq1]; done) | (simp only [hrs]; done))) rfl (by first | rfl | exact congrArg (Value.int .i64) (show (s.i : Int) + 1 = ((s.i + 1 : Nat) : Int) by omega) | (rw [hq1]; done) | (simp only [hrs]; done))) rfl (by first | rfl | exact congrArg (Value.int .i64) (show (s.i : Int) + 1 = ((s.i + 1 : Nat) : Int) by omega) | (rw [hq1]; done) | (simp only [hrs]; done))) rfl (by first | rfl | exact congrArg (Value.int .i64) (show (s.i : Int) + 1 = ((s.i + 1 : Nat) : Int) by omega) | (rw [hq1]; done) | (simp only [hrs]; done))) rfl (by first | rfl | exact congrArg (Value.int .i64) (show (s.i : Int) + 1 = ((s.i + 1 : Nat) : Int) by omega) | (rw [hq1]; done) | (simp only [hrs]; done)), hh.keep (by repeat (first | exact keeps_nil | apply keeps_cons (by repeat (first | exact find_head | apply find_tail | apply find_skip)) (by first  | rfl) | exact keeps_self | exact keeps_left | apply keeps_app | apply keeps_mv | apply keeps_skip))⟩
            · intro hc5
              try simp only [decide_eq_true_eq, decide_eq_false_iff_not, Bool.not_eq_true', Bool.not_eq_false', Bool.not_eq_true, Bool.not_eq_false, Bool.and_eq_true, Bool.or_eq_true, Bool.and_eq_false_iff, Bool.or_eq_false_iff, Bool.not_not, ne_eq, Int.not_lt, Int.not_le, Decidable.not_not, beq_iff_eq, bne_iff_ne] at hc5
              have hie : s.i = m.q.length := by omega
              rw [hie] at hl hsR
              refine wp_exit ?_
              refine then_exit ?_
              refine then_exit ?_
              refine blk_exit ?_
              refine then_normal ?_
              refine c_seq ?_
              refine c_region ?_
              refine wl (wl_val hl rfl trivial (r_move hl rfl) ?_)
              clear hl a; intro a hl
              refine wl (wl_val hl rfl trivial (r_move hl rfl) ?_)
              clear hl a; intro a hl
              refine wl (wl_val hl rfl trivial (r_nilCheck hl rfl) ?_)
              clear hl a; intro a hl
              refine wl (wl_val hl rfl trivial (r_field hl rfl fld82_2) ?_)
              clear hl a; intro a hl
              refine wl (w_store hl hh trivial one79 rfl rfl (by repeat (first | exact find_head | apply find_tail | apply find_skip)) (by first | (simp; done) | (simp; omega) | (rw [mdc_len]; omega) | (rw [mdc_len]; simp; done) | (rw [duc_len]; omega) | (rw [duc_len]; simp; done)) (by first | rfl | assumption | (apply Row.one; assumption)) (by first | exact mdc_sup _ _ | exact mdc_stk _ _ | exact mdc_sau _ _ | exact mdc_sfl _ _ | exact mdc_sfu _ _ | exact mdc_skp _ _ | exact mdc_sq _ _ _ _ s.E | (simp only [setL, List.getElem?_cons_zero, List.getElem?_cons_succ, Value.cells, List.take_zero, List.take_succ_cons, List.take_nil, List.drop_zero, List.drop_succ_cons, List.drop_nil, List.length_cons, List.length_nil, List.cons_append, List.nil_append, List.append_nil, Nat.zero_add, Nat.add_zero, Nat.reduceAdd, Nat.reduceBEq, Nat.reduceEqDiff, Nat.ble, BEq.rfl, Bool.and_true, Bool.and_self, cond_true, beq_self_eq_true]; rfl)) ?_)
              clear hh w; intro w hh
              refine w_nil ?_
              have hl2 := hl.nil; clear hl; have hl := hl2; clear hl2
              refine then_normal ?_
              refine c_seq ?_
              refine c_region ?_
              refine wl (wl_val hl rfl trivial (r_assign hl rfl) ?_)
              clear hl a; intro a hl
              refine wl (wl_val hl rfl trivial (r_assign hl rfl) ?_)
              clear hl a; intro a hl
              refine w_nil ?_
              have hl2 := hl.add (t := 4) (hl.add (t := 5) (hl.nil) rfl) rfl; clear hl; have hl := hl2; clear hl2
              refine then_normal ?_
              refine wp_ret ?_
              refine blk_ret ?_
              refine then_ret ?_
              refine f_ret2 (F' := (mb, C (MdV.c { m with d := s2, fu := f, q := rstM id m.q m.q.length, qp := s.p, qc := s.c, qE := s.E }) 82) :: ((s1.aE ++ (s1.nE ++ (s1.iE ++ [(s1.vb, MO (kInt .u32) vd2)]))) ++ (s.E ++ (m.rE ++ Z)))) hl hh rfl rfl rfl (by repeat (first | exact keeps_nil | apply keeps_cons (by repeat (first | exact find_head | apply find_tail | apply find_skip)) (by first  | rfl) | exact keeps_self | exact keeps_left | apply keeps_app | apply keeps_mv | apply keeps_skip)) ?_
              have hab := ab_q0 hI.on hq0 (show (admitP l (abS g id)).2 = 0 by rw [← hpl, hr])
              rw [← hpl, hr] at hab
              exact ⟨_, by rw [hab], MdS.nil (by rw [hab]; exact hI.o) (MdO.same (m' := { m with d := s2, fu := f, q := rstM id m.q m.q.length, qp := s.p, qc := s.c, qE := s.E }) (by rw [hab]; exact ⟨hso, rfl, hm.up, RowO.of hsR, (fun y hy => hm.qo y (rst_mem hy)), (by rw [rst_del (by rw [hqg]; exact hI.qn) (by rw [hqg]; exact hq0), hqg]), hm.r, hm.ys, hm.dn, hm.tk, hm.au, hm.fl, rfl, hm.kp, hf⟩) (by unfold MF; rw [hE2]; try simp only [List.append_assoc, List.cons_append, List.nil_append]))⟩
          ·
            try simp only [List.cons_append, List.nil_append, List.append_nil] at hh
            try simp only [List.append_assoc, List.cons_append, List.nil_append] at hh
            refine wl (wl_val hl rfl trivial (r_assign hl rfl) ?_)
            clear hl a; intro a hl
            refine w_nil ?_
            have hl2 := hl.add (t := 0) (hl.add (t := 1) (hl.add (t := 7) (hl.nil) rfl) rfl) rfl; clear hl; have hl := hl2; clear hl2
            refine then_normal ?_
            refine c_seq ?_
            refine c_region ?_
            refine wl (wl_val hl rfl trivial (r_move hl rfl) ?_)
            clear hl a; intro a hl
            refine wl (wl_val hl rfl trivial (r_neq hl rfl rfl) ?_)
            clear hl a; intro a hl
            refine w_nil ?_
            have hl2 := hl.add (t := 0) (hl.add (t := 1) (hl.add (t := 7) (hl.add (t := 35) (hl.nil) rfl) rfl) rfl) rfl; clear hl; have hl := hl2; clear hl2
            refine then_normal ?_
            refine c_condT hl rfl ?_
            refine c_seq ?_
            refine c_region ?_
            refine wl (wl_val hl rfl trivial (r_move hl rfl) ?_)
            clear hl a; intro a hl
            refine wl (wl_val hl rfl trivial (r_assign hl rfl) ?_)
            clear hl a; intro a hl
            refine wl (wl_val hl rfl trivial (r_assign hl rfl) ?_)
            clear hl a; intro a hl
            refine w_nil ?_
            have hl2 := hl.add (t := 4) (hl.add (t := 5) (hl.nil) rfl) rfl; clear hl; have hl := hl2; clear hl2
            refine then_normal ?_
            refine wp_ret ?_
            refine then_ret ?_
            refine blk_ret ?_
            refine then_ret ?_
            first
            | (have hab := ab_q1 hI.on hq0 (show (admitP l (abS g id)).2 = 1 by rw [← hpl, hr]); rw [← hpl, hr] at hab; refine f_ret2 (F' := (mb, C (MdV.c m) 82) :: (m.d.E ++ (m.qE ++ (m.rE ++ Z)))) hl hh rfl rfl rfl (by repeat (first | exact keeps_nil | apply keeps_cons (by repeat (first | exact find_head | apply find_tail | apply find_skip)) (by first  | rfl) | exact keeps_self | exact keeps_left | apply keeps_app | apply keeps_mv | apply keeps_skip)) ?_; exact ⟨_, by rw [hab], MdS.nil (by rw [hab]; first | exact hI.o | rfl) (MdO.same (m' := m) (by rw [hab]; exact hm) rfl)⟩)
            | (have hab := ab_q2 hI.on hq0 (show (admitP l (abS g id)).2 = 2 by rw [← hpl, hr]); rw [← hpl, hr] at hab; refine f_ret2 (F' := (mb, C (MdV.c { m with d := s2, fu := 0, up := false }) 82) :: ((s1.aE ++ (s1.nE ++ (s1.iE ++ [(s1.vb, MO (kInt .u32) vd2)]))) ++ (m.qE ++ (m.rE ++ Z)))) hl hh rfl rfl rfl (by repeat (first | exact keeps_nil | apply keeps_cons (by repeat (first | exact find_head | apply find_tail | apply find_skip)) (by first  | rfl) | exact keeps_self | exact keeps_left | apply keeps_app | apply keeps_mv | apply keeps_skip)) ?_; exact ⟨_, by rw [hab], MdS.nil (by rw [hab]; first | exact hI.o | rfl) (MdO.same (m' := { m with d := s2, fu := 0, up := false }) (by rw [hab]; exact ⟨hso, rfl, rfl, hm.qr, hm.qo, hm.qp, hm.r, hm.ys, hm.dn, hm.tk, hm.au, hm.fl, rfl, hm.kp, (by simp)⟩) (by unfold MF; rw [hE2]; try simp only [List.append_assoc, List.cons_append, List.nil_append]))⟩)
            | (have hab := ab_q2 hI.on hq0 (show (admitP l (abS g id)).2 = 2 by rw [← hpl, hr]); rw [← hpl, hr] at hab; refine f_ret2 (F' := (mb, C (MdV.c { m with fu := 0, up := false }) 82) :: (m.d.E ++ (m.qE ++ (m.rE ++ Z)))) hl hh rfl rfl rfl (by repeat (first | exact keeps_nil | apply keeps_cons (by repeat (first | exact find_head | apply find_tail | apply find_skip)) (by first  | rfl) | exact keeps_self | exact keeps_left | apply keeps_app | apply keeps_mv | apply keeps_skip)) ?_; exact ⟨_, by rw [hab], MdS.nil (by rw [hab]; first | exact hI.o | rfl) (MdO.same (m' := { m with fu := 0, up := false }) (by rw [hab]; exact ⟨hm.dok, hm.d, rfl, hm.qr, hm.qo, hm.qp, hm.r, hm.ys, hm.dn, hm.tk, hm.au, hm.fl, rfl, hm.kp, (by simp)⟩) rfl)⟩)
          ·
            try simp only [List.cons_append, List.nil_append, List.append_nil] at hh
            try simp only [List.append_assoc, List.cons_append, List.nil_append] at hh
            refine wl (wl_val hl rfl trivial (r_assign hl rfl) ?_)
            clear hl a; intro a hl
            refine w_nil ?_
            have hl2 := hl.add (t := 0) (hl.add (t := 1) (hl.add (t := 7) (hl.nil) rfl) rfl) rfl; clear hl; have hl := hl2; clear hl2
            refine then_normal ?_
            refine c_seq ?_
            refine c_region ?_
            refine wl (wl_val hl rfl trivial (r_move hl rfl) ?_)
            clear hl a; intro a hl
            refine wl (wl_val hl rfl trivial (r_neq hl rfl rfl) ?_)
            clear hl a; intro a hl
            refine w_nil ?_
            have hl2 := hl.add (t := 0) (hl.add (t := 1) (hl.add (t := 7) (hl.add (t := 35) (hl.nil) rfl) rfl) rfl) rfl; clear hl; have hl := hl2; clear hl2
            refine then_normal ?_
            refine c_condT hl rfl ?_
            refine c_seq ?_
            refine c_region ?_
            refine wl (wl_val hl rfl trivial (r_move hl rfl) ?_)
            clear hl a; intro a hl
            refine wl (wl_val hl rfl trivial (r_assign hl rfl) ?_)
            clear hl a; intro a hl
            refine wl (wl_val hl rfl trivial (r_assign hl rfl) ?_)
            clear hl a; intro a hl
            refine w_nil ?_
            have hl2 := hl.add (t := 4) (hl.add (t := 5) (hl.nil) rfl) rfl; clear hl; have hl := hl2; clear hl2
            refine then_normal ?_
            refine wp_ret ?_
            refine then_ret ?_
            refine blk_ret ?_
            refine then_ret ?_
            first
            | (have hab := ab_q1 hI.on hq0 (show (admitP l (abS g id)).2 = 1 by rw [← hpl, hr]); rw [← hpl, hr] at hab; refine f_ret2 (F' := (mb, C (MdV.c m) 82) :: (m.d.E ++ (m.qE ++ (m.rE ++ Z)))) hl hh rfl rfl rfl (by repeat (first | exact keeps_nil | apply keeps_cons (by repeat (first | exact find_head | apply find_tail | apply find_skip)) (by first  | rfl) | exact keeps_self | exact keeps_left | apply keeps_app | apply keeps_mv | apply keeps_skip)) ?_; exact ⟨_, by rw [hab], MdS.nil (by rw [hab]; first | exact hI.o | rfl) (MdO.same (m' := m) (by rw [hab]; exact hm) rfl)⟩)
            | (have hab := ab_q2 hI.on hq0 (show (admitP l (abS g id)).2 = 2 by rw [← hpl, hr]); rw [← hpl, hr] at hab; refine f_ret2 (F' := (mb, C (MdV.c { m with d := s2, fu := 0, up := false }) 82) :: ((s1.aE ++ (s1.nE ++ (s1.iE ++ [(s1.vb, MO (kInt .u32) vd2)]))) ++ (m.qE ++ (m.rE ++ Z)))) hl hh rfl rfl rfl (by repeat (first | exact keeps_nil | apply keeps_cons (by repeat (first | exact find_head | apply find_tail | apply find_skip)) (by first  | rfl) | exact keeps_self | exact keeps_left | apply keeps_app | apply keeps_mv | apply keeps_skip)) ?_; exact ⟨_, by rw [hab], MdS.nil (by rw [hab]; first | exact hI.o | rfl) (MdO.same (m' := { m with d := s2, fu := 0, up := false }) (by rw [hab]; exact ⟨hso, rfl, rfl, hm.qr, hm.qo, hm.qp, hm.r, hm.ys, hm.dn, hm.tk, hm.au, hm.fl, rfl, hm.kp, (by simp)⟩) (by unfold MF; rw [hE2]; try simp only [List.append_assoc, List.cons_append, List.nil_append]))⟩)
            | (have hab := ab_q2 hI.on hq0 (show (admitP l (abS g id)).2 = 2 by rw [← hpl, hr]); rw [← hpl, hr] at hab; refine f_ret2 (F' := (mb, C (MdV.c { m with fu := 0, up := false }) 82) :: (m.d.E ++ (m.qE ++ (m.rE ++ Z)))) hl hh rfl rfl rfl (by repeat (first | exact keeps_nil | apply keeps_cons (by repeat (first | exact find_head | apply find_tail | apply find_skip)) (by first  | rfl) | exact keeps_self | exact keeps_left | apply keeps_app | apply keeps_mv | apply keeps_skip)) ?_; exact ⟨_, by rw [hab], MdS.nil (by rw [hab]; first | exact hI.o | rfl) (MdO.same (m' := { m with fu := 0, up := false }) (by rw [hab]; exact ⟨hm.dok, hm.d, rfl, hm.qr, hm.qo, hm.qp, hm.r, hm.ys, hm.dn, hm.tk, hm.au, hm.fl, rfl, hm.kp, (by simp)⟩) rfl)⟩)
          ·
            try simp only [List.cons_append, List.nil_append, List.append_nil] at hh
            try simp only [List.append_assoc, List.cons_append, List.nil_append] at hh
            refine wl (wl_val hl rfl trivial (r_assign hl rfl) ?_)
            clear hl a; intro a hl
            refine w_nil ?_
            have hl2 := hl.add (t := 0) (hl.add (t := 1) (hl.add (t := 7) (hl.nil) rfl) rfl) rfl; clear hl; have hl := hl2; clear hl2
            refine then_normal ?_
            refine c_seq ?_
            refine c_region ?_
            refine wl (wl_val hl rfl trivial (r_move hl rfl) ?_)
            clear hl a; intro a hl
            refine wl (wl_val hl rfl trivial (r_neq hl rfl rfl) ?_)
            clear hl a; intro a hl
            refine w_nil ?_
            have hl2 := hl.add (t := 0) (hl.add (t := 1) (hl.add (t := 7) (hl.add (t := 35) (hl.nil) rfl) rfl) rfl) rfl; clear hl; have hl := hl2; clear hl2
            refine then_normal ?_
            refine c_condT hl rfl ?_
            refine c_seq ?_
            refine c_region ?_
            refine wl (wl_val hl rfl trivial (r_move hl rfl) ?_)
            clear hl a; intro a hl
            refine wl (wl_val hl rfl trivial (r_assign hl rfl) ?_)
            clear hl a; intro a hl
            refine wl (wl_val hl rfl trivial (r_assign hl rfl) ?_)
            clear hl a; intro a hl
            refine w_nil ?_
            have hl2 := hl.add (t := 4) (hl.add (t := 5) (hl.nil) rfl) rfl; clear hl; have hl := hl2; clear hl2
            refine then_normal ?_
            refine wp_ret ?_
            refine then_ret ?_
            refine blk_ret ?_
            refine then_ret ?_
            first
            | (have hab := ab_q1 hI.on hq0 (show (admitP l (abS g id)).2 = 1 by rw [← hpl, hr]); rw [← hpl, hr] at hab; refine f_ret2 (F' := (mb, C (MdV.c m) 82) :: (m.d.E ++ (m.qE ++ (m.rE ++ Z)))) hl hh rfl rfl rfl (by repeat (first | exact keeps_nil | apply keeps_cons (by repeat (first | exact find_head | apply find_tail | apply find_skip)) (by first  | rfl) | exact keeps_self | exact keeps_left | apply keeps_app | apply keeps_mv | apply keeps_skip)) ?_; exact ⟨_, by rw [hab], MdS.nil (by rw [hab]; first | exact hI.o | rfl) (MdO.same (m' := m) (by rw [hab]; exact hm) rfl)⟩)
            | (have hab := ab_q2 hI.on hq0 (show (admitP l (abS g id)).2 = 2 by rw [← hpl, hr]); rw [← hpl, hr] at hab; refine f_ret2 (F' := (mb, C (MdV.c { m with d := s2, fu := 0, up := false }) 82) :: ((s1.aE ++ (s1.nE ++ (s1.iE ++ [(s1.vb, MO (kInt .u32) vd2)]))) ++ (m.qE ++ (m.rE ++ Z)))) hl hh rfl rfl rfl (by repeat (first | exact keeps_nil | apply keeps_cons (by repeat (first | exact find_head | apply find_tail | apply find_skip)) (by first  | rfl) | exact keeps_self | exact keeps_left | apply keeps_app | apply keeps_mv | apply keeps_skip)) ?_; exact ⟨_, by rw [hab], MdS.nil (by rw [hab]; first | exact hI.o | rfl) (MdO.same (m' := { m with d := s2, fu := 0, up := false }) (by rw [hab]; exact ⟨hso, rfl, rfl, hm.qr, hm.qo, hm.qp, hm.r, hm.ys, hm.dn, hm.tk, hm.au, hm.fl, rfl, hm.kp, (by simp)⟩) (by unfold MF; rw [hE2]; try simp only [List.append_assoc, List.cons_append, List.nil_append]))⟩)
            | (have hab := ab_q2 hI.on hq0 (show (admitP l (abS g id)).2 = 2 by rw [← hpl, hr]); rw [← hpl, hr] at hab; refine f_ret2 (F' := (mb, C (MdV.c { m with fu := 0, up := false }) 82) :: (m.d.E ++ (m.qE ++ (m.rE ++ Z)))) hl hh rfl rfl rfl (by repeat (first | exact keeps_nil | apply keeps_cons (by repeat (first | exact find_head | apply find_tail | apply find_skip)) (by first  | rfl) | exact keeps_self | exact keeps_left | apply keeps_app | apply keeps_mv | apply keeps_skip)) ?_; exact ⟨_, by rw [hab], MdS.nil (by rw [hab]; first | exact hI.o | rfl) (MdO.same (m' := { m with fu := 0, up := false }) (by rw [hab]; exact ⟨hm.dok, hm.d, rfl, hm.qr, hm.qo, hm.qp, hm.r, hm.ys, hm.dn, hm.tk, hm.au, hm.fl, rfl, hm.kp, (by simp)⟩) rfl)⟩)
        · intro hc3
          try simp only [decide_eq_true_eq, decide_eq_false_iff_not, Bool.not_eq_true', Bool.not_eq_false', Bool.not_eq_true, Bool.not_eq_false, Bool.and_eq_true, Bool.or_eq_true, Bool.and_eq_false_iff, Bool.or_eq_false_iff, Bool.not_not, ne_eq, Int.not_lt, Int.not_le, Decidable.not_not, beq_iff_eq, bne_iff_ne] at hc3
          refine c_seq ?_
          refine c_region ?_
          refine wl (wl_val hl rfl trivial (r_eql hl rfl rfl) ?_)
          clear hl a; intro a hl
          refine wl (wl_val hl rfl trivial (r_assign hl rfl) ?_)
          clear hl a; intro a hl
          refine w_nil ?_
          have hl2 := hl.add (t := 0) (hl.add (t := 59) (hl.nil) rfl) rfl; clear hl; have hl := hl2; clear hl2
          refine then_normal ?_
          refine c_cond hl rfl ?_ ?_
          · intro hc7
            try simp only [decide_eq_true_eq, decide_eq_false_iff_not, Bool.not_eq_true', Bool.not_eq_false', Bool.not_eq_true, Bool.not_eq_false, Bool.and_eq_true, Bool.or_eq_true, Bool.and_eq_false_iff, Bool.or_eq_false_iff, Bool.not_not, ne_eq, Int.not_lt, Int.not_le, Decidable.not_not, beq_iff_eq, bne_iff_ne] at hc7
            have hab := ab_s2 (l := l) hI hc7
            refine c_seq ?_
            refine c_region ?_
            refine wl (wl_val hl rfl trivial (r_move hl rfl) ?_)
            clear hl a; intro a hl
            refine wl (w_call hl hh rfl trivial rfl cal120 rfl (mdec_spec Z mb m g l hm hI.on hI.o hsd hdn false) (by repeat (first | exact keeps_nil | apply keeps_cons (by repeat (first | exact find_head | apply find_tail | apply find_skip)) (by first  | rfl) | exact keeps_self | exact keeps_left | apply keeps_app | apply keeps_mv | apply keeps_skip)) trivial ?_)
            clear hl hh a w; intro vc Fc a w hR hl hh
            obtain ⟨p6, c6, E6, F2, hR6, hz6, rfl, ⟨m', G9, hm', rfl⟩, rfl⟩ := hR
            try simp only [List.cons_append, List.nil_append, List.append_assoc, List.append_nil] at hh
            simp only [MF, List.append_assoc, List.cons_append, List.nil_append] at hh
            refine wl (wl_val hl rfl trivial (r_assign hl rfl) ?_)
            clear hl a; intro a hl
            refine w_nil ?_
            have hl2 := hl.add (t := 0) (hl.add (t := 11) (hl.nil) rfl) rfl; clear hl; have hl := hl2; clear hl2
            refine then_normal ?_
            refine c_seq ?_
            refine c_seq ?_
            refine c_region ?_
            refine wl (wl_val hl rfl trivial (r_move hl rfl) ?_)
            clear hl a; intro a hl
            refine wl (wl_val hl rfl trivial (r_nilCheck hl rfl) ?_)
            clear hl a; intro a hl
            refine wl (wl_val hl rfl trivial (r_field hl rfl fld82_1) ?_)
            clear hl a; intro a hl
            refine wl (w_load hl hh rfl trivial one4 rfl (by repeat (first | exact find_head | apply find_tail | apply find_skip)) (by first | exact mdc_ep _ | exact mdc_a _ | exact mdc_n _ | exact mdc_i _ | exact mdc_ph _ | exact mdc_fid _ | exact mdc_vd _ | exact mdc_up _ | exact mdc_q _ | exact mdc_rf _ | exact mdc_tk _ | exact mdc_au _ | exact mdc_fl _ | exact mdc_fu _ | exact mdc_kp _ | exact duc_ep _ | exact duc_a _ | exact duc_n _ | exact duc_i _ | exact duc_ph _ | exact duc_fid _ | exact duc_vd _ | rfl) ?_)
            clear hl a; intro a hl
            refine wl (wl_val hl rfl trivial (r_not hl rfl) ?_)
            clear hl a; intro a hl
            refine w_nil ?_
            have hl2 := hl.add (t := 11) (hl.add (t := 67) (hl.nil) rfl) rfl; clear hl; have hl := hl2; clear hl2
            refine then_normal ?_
            refine c_cond hl rfl ?_ ?_
            · intro hc8
              try simp only [decide_eq_true_eq, decide_eq_false_iff_not, Bool.not_eq_true', Bool.not_eq_false', Bool.not_eq_true, Bool.not_eq_false, Bool.and_eq_true, Bool.or_eq_true, Bool.and_eq_false_iff, Bool.or_eq_false_iff, Bool.not_not, ne_eq, Int.not_lt, Int.not_le, Decidable.not_not, beq_iff_eq, bne_iff_ne] at hc8
              have hof : (decP g l false).1.off = true := by have h9 := hm'.up; rw [hc8] at h9; simpa using h9.symm
              rw [if_pos hof] at hab
              refine c_seq ?_
              refine c_region ?_
              refine wl (wl_val hl rfl trivial (r_assign hl rfl) ?_)
              clear hl a; intro a hl
              refine wl (wl_val hl rfl trivial (r_assign hl rfl) ?_)
              clear hl a; intro a hl
              refine w_nil ?_
              have hl2 := hl.add (t := 4) (hl.add (t := 5) (hl.nil) rfl) rfl; clear hl; have hl := hl2; clear hl2
              refine then_normal ?_
              refine wp_ret ?_
              refine then_ret ?_
              refine blk_ret ?_
              refine then_ret ?_
              refine f_ret2 (F' := MF mb m' (Z ++ G9)) hl hh rfl rfl rfl (by repeat (first | exact keeps_nil | apply keeps_cons (by repeat (first | exact find_head | apply find_tail | apply find_skip)) (by first  | rfl) | exact keeps_self | exact keeps_left | apply keeps_app | apply keeps_mv | apply keeps_skip)) ?_
              exact ⟨_, by rw [hab], MdS.nil (by rw [hab]; exact dec_off hI.on hof) ⟨m', G9, by rw [hab]; exact hm', rfl⟩⟩
            · intro hc8
              try simp only [decide_eq_true_eq, decide_eq_false_iff_not, Bool.not_eq_true', Bool.not_eq_false', Bool.not_eq_true, Bool.not_eq_false, Bool.and_eq_true, Bool.or_eq_true, Bool.and_eq_false_iff, Bool.or_eq_false_iff, Bool.not_not, ne_eq, Int.not_lt, Int.not_le, Decidable.not_not, beq_iff_eq, bne_iff_ne] at hc8
              have hof : (decP g l false).1.off = false := by have h9 := hm'.up; rw [hc8] at h9; simpa using h9.symm
              rw [if_neg (by rw [hof]; simp)] at hab
              refine wp_skip ?_
              refine then_normal ?_
              refine c_seq ?_
              refine c_region ?_
              refine wl (wl_val hl rfl trivial (r_move hl rfl) ?_)
              clear hl a; intro a hl
              refine wl (wl_val hl rfl trivial (r_assign hl rfl) ?_)
              clear hl a; intro a hl
              refine wl (wl_val hl rfl trivial (r_assign hl rfl) ?_)
              clear hl a; intro a hl
              refine w_nil ?_
              have hl2 := hl.add (t := 4) (hl.add (t := 5) (hl.nil) rfl) rfl; clear hl; have hl := hl2; clear hl2
              refine then_normal ?_
              refine wp_ret ?_
              refine blk_ret ?_
              refine then_ret ?_
              refine f_ret2 (F' := E6 ++ MF mb m' (Z ++ G9)) hl hh rfl rfl rfl (by repeat (first | exact keeps_nil | apply keeps_cons (by repeat (first | exact find_head | apply find_tail | apply find_skip)) (by first  | rfl) | exact keeps_self | exact keeps_left | apply keeps_app | apply keeps_mv | apply keeps_skip)) ?_
              exact ⟨_, by rw [hab], by rw [hab]; exact ⟨p6, c6, E6, _, hR6, hz6, rfl, ⟨m', G9, hm', rfl⟩, rfl⟩⟩
          · intro hc7
            try simp only [decide_eq_true_eq, decide_eq_false_iff_not, Bool.not_eq_true', Bool.not_eq_false', Bool.not_eq_true, Bool.not_eq_false, Bool.and_eq_true, Bool.or_eq_true, Bool.and_eq_false_iff, Bool.or_eq_false_iff, Bool.not_not, ne_eq, Int.not_lt, Int.not_le, Decidable.not_not, beq_iff_eq, bne_iff_ne] at hc7
            have hab := ab_sx (l := l) hI hc1 hc2 hc3 hc7
            refine wp_skip ?_
            refine blk_normal ?_
            refine then_normal ?_
            refine c_seq ?_
            refine c_region ?_
            refine wl (wl_val hl rfl trivial (r_assign hl rfl) ?_)
            clear hl a; intro a hl
            refine wl (wl_val hl rfl trivial (r_assign hl rfl) ?_)
            clear hl a; intro a hl
            refine w_nil ?_
            have hl2 := hl.add (t := 4) (hl.add (t := 5) (hl.nil) rfl) rfl; clear hl; have hl := hl2; clear hl2
            refine then_normal ?_
            refine wp_ret ?_
            refine f_ret2 (F' := (mb, C (MdV.c m) 82) :: (m.d.E ++ (m.qE ++ (m.rE ++ Z)))) hl hh rfl rfl rfl (by repeat (first | exact keeps_nil | apply keeps_cons (by repeat (first | exact find_head | apply find_tail | apply find_skip)) (by first  | rfl) | exact keeps_self | exact keeps_left | apply keeps_app | apply keeps_mv | apply keeps_skip)) ?_
            exact ⟨_, by rw [hab], MdS.nil (by rw [hab]; exact hI.o) (MdO.same (by rw [hab]; exact hm) rfl)⟩
end Go.Proofs.Qxb6500908aGreat

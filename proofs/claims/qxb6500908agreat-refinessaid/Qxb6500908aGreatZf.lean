import Derived.Test.Qxb6500908aGreatZe
namespace Go.Proofs.Qxb6500908aGreat
open Go.Eng
set_option linter.unusedVariables false
set_option linter.unusedSimpArgs false
theorem bld66 : buildOk Tryz.prog 66 [(0, 48), (48, 16)] = true := by kernel_rfl
theorem cal122 : callable Tryz.prog 122 = true := by kernel_rfl
theorem zero36 : zeroOk Tryz.prog 36 (.int .u32 0) := by unfold zeroOk; kernel_rfl
def stl (g : GtP) (q : Ms) : Bool := if g.au then (decide (q.k = 6) && decide (q.s = 0)) && (decide (q.r = g.st.fid) == decide (g.st.ph = 2)) else decide (q.k = 5)
theorem dl_sy {g : GtP} {l : LdP} {q : Ms} (h : Heed g q) (hp : g.st.ph = 2 ∨ g.st.ph = 3) (hs : stl g q = true) : delvP g l q = cnfP g l (sh1 q.d) := by
  unfold stl at hs
  cases ha : g.au with
  | false => rw [ha] at hs; exact dl_5 h ⟨by simpa using hs, by omega, ha⟩
  | true =>
    rw [ha, if_pos rfl] at hs
    simp only [Bool.and_eq_true, decide_eq_true_eq, beq_iff_eq, decide_eq_decide] at hs
    obtain ⟨⟨h1, h2⟩, h3⟩ := hs
    rcases hp with hp | hp
    · exact dl_6y h ⟨h1, hp, ha⟩ ⟨h3.2 hp, h2⟩
    · exact dl_7y h ⟨h1, hp, ha⟩ ⟨fun e => by have := h3.1 e; omega, h2⟩
theorem dl_sn {g : GtP} {l : LdP} {q : Ms} (h : Heed g q) (hp : g.st.ph = 2 ∨ g.st.ph = 3) (hs : stl g q = false) : delvP g l q = (g, l) := by
  unfold stl at hs
  cases ha : g.au with
  | false =>
    rw [ha] at hs
    exact dl_x h (by omega) (fun ⟨q1, _⟩ => by rw [q1] at hs; simp at hs) (fun ⟨_, _, q1⟩ => by rw [ha] at q1; cases q1) (fun ⟨_, _, q1⟩ => by rw [ha] at q1; cases q1)
  | true =>
    rw [ha, if_pos rfl] at hs
    by_cases hk : q.k = 6
    · rcases hp with hp | hp
      · refine dl_6n h ⟨hk, hp, ha⟩ (fun ⟨q1, q2⟩ => ?_)
        rw [hk, q2, q1, hp] at hs; simp at hs
      · refine dl_7n h ⟨hk, hp, ha⟩ (fun ⟨q1, q2⟩ => ?_)
        rw [hk, q2, hp, decide_eq_false q1] at hs; simp at hs
    · exact dl_x h (by omega) (fun ⟨_, _, q1⟩ => by rw [ha] at q1; cases q1) (fun ⟨q1, _⟩ => hk q1) (fun ⟨q1, _⟩ => hk q1)
theorem up_or {f : Nat → Bool} {x : Int} {d : Nat} (hd : d < 16) (h : ∀ j, j < 16 → f j = bitIn x j) : ∀ j, j < 16 → upM f d true j = bitIn (orB x (sh1 (d : Int))) j := by
  intro j hj
  rw [bit_or hd hj]
  unfold upM
  split
  · rename_i e; simp [e]
  · rename_i e; rw [h j hj]; simp [e]
theorem all_bits {f : Nat → Bool} {x : Int} (hx : 0 ≤ x ∧ x ≤ 65535) (h : ∀ j, j < 16 → f j = bitIn x j) : allM f = true ↔ x = 65535 := by
  constructor
  · intro ha
    refine bits_all hx fun d hd => ?_
    rw [← h d hd]
    unfold allM at ha
    exact List.all_eq_true.1 ha d (List.mem_range.2 hd)
  · intro e
    refine allM_yes fun k hk => ?_
    rw [h k hk, e]; exact bit_all hk
theorem du_clsok {Z : List (Nat × Obj)} {s : DuV} (h : s.ok Z) {p p2 : Option Addr} {c c2 : Nat} {E E2 : List (Nat × Obj)} (hl : s.vs.length < 70000000000) (h1 : Row (.slice p (s.vs ++ [(⟨s.fid, s.fn⟩ : Vr)]).length c) (s.vs ++ [(⟨s.fid, s.fn⟩ : Vr)]).length (fl idc (s.vs ++ [(⟨s.fid, s.fn⟩ : Vr)])) 1 36 E) (h2 : Row (.slice p2 (s.ws ++ [(⟨s.fid, s.fn⟩ : Vr)]).length c2) (s.ws ++ [(⟨s.fid, s.fn⟩ : Vr)]).length (fl ntc (s.ws ++ [(⟨s.fid, s.fn⟩ : Vr)])) 64 66 E2) :
    DuV.ok Z { s with vs := s.vs ++ [⟨s.fid, s.fn⟩], ap := p, ac := c, aE := E, ws := s.ws ++ [⟨s.fid, s.fn⟩], np := p2, nc := c2, nE := E2 } :=
  ⟨h.ep, h1, h2, by simp only; rw [h.e], fun x hx => by
    rcases List.mem_append.1 hx with h9 | h9
    · exact h.vo x h9
    · rw [List.mem_singleton.1 h9]; exact ⟨h.fn, h.fid⟩, by simp only [List.length_append, List.length_singleton]; omega, by simp, h.i, h.io, h.il, h.fid, h.ph, h.fn, h.vd, h.vk⟩
theorem du_cls2 {s1 : DuV} {st : StP} (h : s1.pl = st) (hp : s1.ph = 2) (p p2 : Option Addr) (c c2 : Nat) (E E2 : List (Nat × Obj)) (ws : List Vr) : DuV.pl { s1 with vs := s1.vs ++ [⟨s1.fid, s1.fn⟩], ap := p, ac := c, aE := E, ws := ws, np := p2, nc := c2, nE := E2, ph := 0, fid := 0, fn := nt0 } = clsP st := by
  subst h
  unfold clsP
  rw [if_pos (show s1.pl.ph = 2 from hp)]
  unfold DuV.pl
  simp only [List.map_append]
  rfl
theorem du_cls0 {s1 : DuV} {st : StP} (h : s1.pl = st) (hp : ¬ s1.ph = 2) : DuV.pl { s1 with ph := 0, fid := 0, fn := nt0 } = clsP st := by
  subst h
  unfold clsP
  rw [if_neg (show ¬ s1.pl.ph = 2 from hp)]
  rfl


theorem nk0z : ([(.slice none 0 0), (.slice none 0 0), (.int .u16 0), (.slice none 0 0), (.slice none 0 0), (.int .u16 0), (.slice none 0 0), (.slice none 0 0), (.int .u16 0), (.slice none 0 0), (.slice none 0 0), (.int .u16 0), (.slice none 0 0), (.slice none 0 0), (.int .u16 0), (.slice none 0 0), (.slice none 0 0), (.int .u16 0), (.slice none 0 0), (.slice none 0 0), (.int .u16 0), (.slice none 0 0), (.slice none 0 0), (.int .u16 0), (.slice none 0 0), (.slice none 0 0), (.int .u16 0), (.slice none 0 0), (.slice none 0 0), (.int .u16 0), (.slice none 0 0), (.slice none 0 0), (.int .u16 0), (.slice none 0 0), (.slice none 0 0), (.int .u16 0), (.slice none 0 0), (.slice none 0 0), (.int .u16 0), (.slice none 0 0), (.slice none 0 0), (.int .u16 0), (.slice none 0 0), (.slice none 0 0), (.int .u16 0), (.slice none 0 0), (.slice none 0 0), (.int .u16 0), (.int .u16 0), (.int .u16 0), (.int .u16 0), (.int .u16 0), (.int .u16 0), (.int .u16 0), (.int .u16 0), (.int .u16 0), (.int .u16 0), (.int .u16 0), (.int .u16 0), (.int .u16 0), (.int .u16 0), (.int .u16 0), (.int .u16 0), (.int .u16 0)] : List Value) = nt0.k := rfl

attribute [local irreducible] NtV.k StV.c LdV.c StV.E GtV.c GtV.t DuV.c DuV.E MdV.c MdV.t orB sh1 nt0

set_option maxHeartbeats 4000000 in
theorem mdel_spec (Z : List (Nat × Obj)) (mb : Nat) (m : MdV) (g : GtP) (l : LdP) (hm : MdR Z m g l) (hI : GtI g) (hsd : g.st = l.d) (hdn : l.dn = false) (hvl : g.st.vs.length < 70000000000) (q : Ms) (hq : q.ok) : Sp Tryz.prog 112 #[.pointer (some ⟨mb, 0, none⟩), .agg ⟨msc q⟩] (MF mb m Z) (MdS mb (delvP g l q) Z) := by
  refine f_enter (args := [.pointer (some ⟨mb, 0, none⟩), .agg ⟨[.int .u8 q.k, .int .u8 q.d, .int .u32 q.e, .int .u32 q.b, .bool q.y, .int .u32 q.r, .int .u32 q.s, .string q.t]⟩]) Tryz.func112 rfl Tryz.ntmps112 rfl ?_
  intro w0 w a hpre hl hh
  have hst : m.d.pl = g.st := hm.d.trans hsd.symm
  have hup : m.up = true := by rw [hm.up, hI.on]; rfl
  have hph : m.d.ph = g.st.ph := congrArg StP.ph hst
  have hfi : m.d.fid = g.st.fid := congrArg StP.fid hst
  have hep : m.d.ep = g.st.ep := congrArg StP.ep hst
  have hqg := hm.qp
  have hql : m.q.length ≤ 8 := by have h9 := hI.ql; rw [← hqg, List.length_map] at h9; exact h9
  obtain ⟨rb, rl, rn, hrb, hrE, hrv, hrk, hrf⟩ := hm.r
  generalize hDD : List.map Prod.fst (MF mb m Z) = D at hh ⊢
  simp only [MF, List.cons_append, List.append_assoc] at hh
  obtain ⟨hqk, hqd0, hqe, hqb, hqr, hqs⟩ := hq
  have hp9 := hI.s.p
  simp only [slotsFrom, Nat.reduceAdd] at hl
  refine c_seq ?_
  refine c_region ?_
  refine wl (w_box hl hh rfl trivial rfl rfl ?_)
  clear hl hh a w; intro k3 a w hl hh
  refine wl (wl_val hl rfl trivial (r_assign hl rfl) ?_)
  clear hl a; intro a hl
  refine w_nil ?_
  have hl2 := hl.add (t := 0) (hl.add (t := 3) (hl.nil) rfl) rfl; clear hl; have hl := hl2; clear hl2
  refine then_normal ?_
  refine c_seq ?_
  refine c_seq ?_
  refine c_draw [(mb, C m.c 82), (k3, C [.int .u8 q.k, .int .u8 q.d, .int .u32 q.e, .int .u32 q.b, .bool q.y, .int .u32 q.r, .int .u32 q.s, .string q.t] 38)] [36, 37] mixed hh ?_
  clear hh w; intro w hh
  have hM : Mem [(mb, C m.c 82), (k3, C [.int .u8 q.k, .int .u8 q.d, .int .u32 q.e, .int .u32 q.b, .bool q.y, .int .u32 q.r, .int .u32 q.s, .string q.t] 38)] w := (memK hh (by repeat (first | exact keeps_nil | apply keeps_cons (by repeat (first | exact find_head | apply find_tail | apply find_skip)) (by first  | rfl) | exact keeps_self | exact keeps_left | apply keeps_app | apply keeps_mv | apply keeps_skip)))
  refine d_take (i := 0) hl rfl (by kernel_rfl) (by kernel_rfl) (by kernel_rfl) (by kernel_rfl) (by kernel_rfl) rfl trivial (fun _ _ _ h => h) hM (fun w hC => r_move hl rfl) rfl ?_
  clear hl a; intro a hl
  refine d_take (i := 1) hl rfl (by kernel_rfl) (by kernel_rfl) (by kernel_rfl) (by kernel_rfl) (by kernel_rfl) rfl trivial (fun _ _ _ h => h) hM (fun w hC => r_nilCheck hl rfl) rfl ?_
  clear hl a; intro a hl
  refine d_take (i := 2) hl rfl (by kernel_rfl) (by kernel_rfl) (by kernel_rfl) (by kernel_rfl) (by kernel_rfl) rfl trivial (fun _ _ _ h => h) hM (fun w hC => r_field hl rfl fld82_1) rfl ?_
  clear hl a; intro a hl
  refine d_take (i := 3) hl rfl (by kernel_rfl) (by kernel_rfl) (by kernel_rfl) (by kernel_rfl) (by kernel_rfl) rfl trivial (fun _ _ _ h => h) hM (fun w hC => r_loadC hl rfl one4 hC (by repeat (first | exact find_head | apply find_tail | apply find_skip)) (by first | exact mdc_ep _ | exact mdc_a _ | exact mdc_n _ | exact mdc_i _ | exact mdc_ph _ | exact mdc_fid _ | exact mdc_vd _ | exact mdc_up _ | exact mdc_q _ | exact mdc_rf _ | exact mdc_tk _ | exact mdc_au _ | exact mdc_fl _ | exact mdc_fu _ | exact mdc_kp _ | exact duc_ep _ | exact duc_a _ | exact duc_n _ | exact duc_i _ | exact duc_ph _ | exact duc_fid _ | exact duc_vd _ | rfl)) rfl ?_
  clear hl a; intro a hl
  refine d_take (i := 4) hl rfl (by kernel_rfl) (by kernel_rfl) (by kernel_rfl) (by kernel_rfl) (by kernel_rfl) rfl trivial (fun _ _ _ h => h) hM (fun w hC => r_not hl rfl) rfl ?_
  clear hl a; intro a hl
  refine d_take (i := 5) hl rfl (by kernel_rfl) (by kernel_rfl) (by kernel_rfl) (by kernel_rfl) (by kernel_rfl) rfl trivial (fun _ _ _ h => h) hM (fun w hC => r_move hl rfl) rfl ?_
  clear hl a; intro a hl
  refine sl_split (t := 13) hl rfl ?_ ?_
  · intro hg1; clear hl; intro hl
    try simp only [decide_eq_true_eq, decide_eq_false_iff_not, Bool.not_eq_true', Bool.not_eq_false', Bool.not_eq_true, Bool.not_eq_false, Bool.and_eq_true, Bool.or_eq_true, Bool.and_eq_false_iff, Bool.or_eq_false_iff, Bool.not_not, ne_eq, Int.not_lt, Int.not_le, Decidable.not_not, beq_iff_eq, bne_iff_ne] at hg1
    refine d_skip (i := 6) hl rfl (by kernel_rfl) (by kernel_rfl) (by kernel_rfl) (by kernel_rfl) (by kernel_rfl) rfl ⟨_, _, rfl, rfl, rfl⟩ (fun _ _ _ h => h) hM ?_
    clear hl a; intro a hl
    refine d_skip (i := 7) hl rfl (by kernel_rfl) (by kernel_rfl) (by kernel_rfl) (by kernel_rfl) (by kernel_rfl) rfl ⟨_, _, rfl, rfl, rfl⟩ (fun _ _ _ h => h) hM ?_
    clear hl a; intro a hl
    refine d_skip (i := 8) hl rfl (by kernel_rfl) (by kernel_rfl) (by kernel_rfl) (by kernel_rfl) (by kernel_rfl) rfl ⟨_, _, rfl, rfl, rfl⟩ (fun _ _ _ h => h) hM ?_
    clear hl a; intro a hl
    refine d_skip (i := 9) hl rfl (by kernel_rfl) (by kernel_rfl) (by kernel_rfl) (by kernel_rfl) (by kernel_rfl) rfl ⟨_, _, rfl, rfl, rfl⟩ (fun _ _ _ h => h) hM ?_
    clear hl a; intro a hl
    refine d_skip (i := 10) hl rfl (by kernel_rfl) (by kernel_rfl) (by kernel_rfl) (by kernel_rfl) (by kernel_rfl) rfl ⟨_, _, rfl, rfl, rfl⟩ (fun _ _ _ h => h) hM ?_
    clear hl a; intro a hl
    refine d_skip (i := 11) hl rfl (by kernel_rfl) (by kernel_rfl) (by kernel_rfl) (by kernel_rfl) (by kernel_rfl) rfl ⟨_, _, rfl, rfl, rfl⟩ (fun _ _ _ h => h) hM ?_
    clear hl a; intro a hl
    refine d_take (i := 12) hl rfl (by kernel_rfl) (by kernel_rfl) (by kernel_rfl) (by kernel_rfl) (by kernel_rfl) rfl trivial (fun _ _ _ h => h) hM (fun w hC => r_pickT hl rfl rfl) rfl ?_
    clear hl a; intro a hl
    refine d_take (i := 13) hl rfl (by kernel_rfl) (by kernel_rfl) (by kernel_rfl) (by kernel_rfl) (by kernel_rfl) rfl trivial (fun _ _ _ h => h) hM (fun w hC => r_move hl rfl) rfl ?_
    clear hl a; intro a hl
    refine d_skip (i := 14) hl rfl (by kernel_rfl) (by kernel_rfl) (by kernel_rfl) (by kernel_rfl) (by kernel_rfl) rfl ⟨_, _, rfl, rfl, rfl⟩ (fun _ _ _ h => h) hM ?_
    clear hl a; intro a hl
    refine d_skip (i := 15) hl rfl (by kernel_rfl) (by kernel_rfl) (by kernel_rfl) (by kernel_rfl) (by kernel_rfl) rfl ⟨_, _, rfl, rfl, rfl⟩ (fun _ _ _ h => h) hM ?_
    clear hl a; intro a hl
    refine d_skip (i := 16) hl rfl (by kernel_rfl) (by kernel_rfl) (by kernel_rfl) (by kernel_rfl) (by kernel_rfl) rfl ⟨_, _, rfl, rfl, rfl⟩ (fun _ _ _ h => h) hM ?_
    clear hl a; intro a hl
    refine d_take (i := 17) hl rfl (by kernel_rfl) (by kernel_rfl) (by kernel_rfl) (by kernel_rfl) (by kernel_rfl) rfl trivial (fun _ _ _ h => h) hM (fun w hC => r_pickT hl rfl rfl) rfl ?_
    clear hl a; intro a hl
    refine d_take (i := 18) hl rfl (by kernel_rfl) (by kernel_rfl) (by kernel_rfl) (by kernel_rfl) (by kernel_rfl) rfl trivial (fun _ _ _ h => h) hM (fun w hC => r_move hl rfl) rfl ?_
    clear hl a; intro a hl
    refine d_skip (i := 19) hl rfl (by kernel_rfl) (by kernel_rfl) (by kernel_rfl) (by kernel_rfl) (by kernel_rfl) rfl ⟨_, _, rfl, rfl, rfl⟩ (fun _ _ _ h => h) hM ?_
    clear hl a; intro a hl
    refine d_skip (i := 20) hl rfl (by kernel_rfl) (by kernel_rfl) (by kernel_rfl) (by kernel_rfl) (by kernel_rfl) rfl ⟨_, _, rfl, rfl, rfl⟩ (fun _ _ _ h => h) hM ?_
    clear hl a; intro a hl
    refine d_skip (i := 21) hl rfl (by kernel_rfl) (by kernel_rfl) (by kernel_rfl) (by kernel_rfl) (by kernel_rfl) rfl ⟨_, _, rfl, rfl, rfl⟩ (fun _ _ _ h => h) hM ?_
    clear hl a; intro a hl
    refine d_skip (i := 22) hl rfl (by kernel_rfl) (by kernel_rfl) (by kernel_rfl) (by kernel_rfl) (by kernel_rfl) rfl ⟨_, _, rfl, rfl, rfl⟩ (fun _ _ _ h => h) hM ?_
    clear hl a; intro a hl
    refine d_skip (i := 23) hl rfl (by kernel_rfl) (by kernel_rfl) (by kernel_rfl) (by kernel_rfl) (by kernel_rfl) rfl ⟨_, _, rfl, rfl, rfl⟩ (fun _ _ _ h => h) hM ?_
    clear hl a; intro a hl
    refine d_skip (i := 24) hl rfl (by kernel_rfl) (by kernel_rfl) (by kernel_rfl) (by kernel_rfl) (by kernel_rfl) rfl ⟨_, _, rfl, rfl, rfl⟩ (fun _ _ _ h => h) hM ?_
    clear hl a; intro a hl
    refine d_skip (i := 25) hl rfl (by kernel_rfl) (by kernel_rfl) (by kernel_rfl) (by kernel_rfl) (by kernel_rfl) rfl ⟨_, _, rfl, rfl, rfl⟩ (fun _ _ _ h => h) hM ?_
    clear hl a; intro a hl
    refine d_skip (i := 26) hl rfl (by kernel_rfl) (by kernel_rfl) (by kernel_rfl) (by kernel_rfl) (by kernel_rfl) rfl ⟨_, _, rfl, rfl, rfl⟩ (fun _ _ _ h => h) hM ?_
    clear hl a; intro a hl
    refine d_take (i := 27) hl rfl (by kernel_rfl) (by kernel_rfl) (by kernel_rfl) (by kernel_rfl) (by kernel_rfl) rfl trivial (fun _ _ _ h => h) hM (fun w hC => r_pickT hl rfl rfl) rfl ?_
    clear hl a; intro a hl
    refine d_take (i := 28) hl rfl (by kernel_rfl) (by kernel_rfl) (by kernel_rfl) (by kernel_rfl) (by kernel_rfl) rfl trivial (fun _ _ _ h => h) hM (fun w hC => r_move hl rfl) rfl ?_
    clear hl a; intro a hl
    refine d_skip (i := 29) hl rfl (by kernel_rfl) (by kernel_rfl) (by kernel_rfl) (by kernel_rfl) (by kernel_rfl) rfl ⟨_, _, rfl, rfl, rfl⟩ (fun _ _ _ h => h) hM ?_
    clear hl a; intro a hl
    refine d_skip (i := 30) hl rfl (by kernel_rfl) (by kernel_rfl) (by kernel_rfl) (by kernel_rfl) (by kernel_rfl) rfl ⟨_, _, rfl, rfl, rfl⟩ (fun _ _ _ h => h) hM ?_
    clear hl a; intro a hl
    refine d_skip (i := 31) hl rfl (by kernel_rfl) (by kernel_rfl) (by kernel_rfl) (by kernel_rfl) (by kernel_rfl) rfl ⟨_, _, rfl, rfl, rfl⟩ (fun _ _ _ h => h) hM ?_
    clear hl a; intro a hl
    refine d_skip (i := 32) hl rfl (by kernel_rfl) (by kernel_rfl) (by kernel_rfl) (by kernel_rfl) (by kernel_rfl) rfl ⟨_, _, rfl, rfl, rfl⟩ (fun _ _ _ h => h) hM ?_
    clear hl a; intro a hl
    refine d_skip (i := 33) hl rfl (by kernel_rfl) (by kernel_rfl) (by kernel_rfl) (by kernel_rfl) (by kernel_rfl) rfl ⟨_, _, rfl, rfl, rfl⟩ (fun _ _ _ h => h) hM ?_
    clear hl a; intro a hl
    refine d_skip (i := 34) hl rfl (by kernel_rfl) (by kernel_rfl) (by kernel_rfl) (by kernel_rfl) (by kernel_rfl) rfl ⟨_, _, rfl, rfl, rfl⟩ (fun _ _ _ h => h) hM ?_
    clear hl a; intro a hl
    refine d_skip (i := 35) hl rfl (by kernel_rfl) (by kernel_rfl) (by kernel_rfl) (by kernel_rfl) (by kernel_rfl) rfl ⟨_, _, rfl, rfl, rfl⟩ (fun _ _ _ h => h) hM ?_
    clear hl a; intro a hl
    refine d_skip (i := 36) hl rfl (by kernel_rfl) (by kernel_rfl) (by kernel_rfl) (by kernel_rfl) (by kernel_rfl) rfl ⟨_, _, rfl, rfl, rfl⟩ (fun _ _ _ h => h) hM ?_
    clear hl a; intro a hl
    refine d_takeL (i := 37) hl rfl (by kernel_rfl) (by kernel_rfl) (by kernel_rfl) (by kernel_rfl) (by kernel_rfl) rfl trivial (fun _ _ _ h => h) (fun w => r_pickT hl rfl rfl) rfl ?_
    clear hl a; intro a hl
    refine d_done (by kernel_rfl) ?_
    try clear hM
    have hl2 := hl.add (t := 0) (hl.add (t := 3) (hl.add (t := 45) (hl.nil) rfl) rfl) rfl; clear hl; have hl := hl2; clear hl2
    refine then_normal ?_
    refine c_condT hl rfl ?_
    have hf := dl_n (g := g) (l := l) (m := q) (fun ⟨q1, q2, q3, q4, q5⟩ => by first | omega | (simp_all; done))
    refine c_seq ?_
    refine c_region ?_
    refine wl (wl_val hl rfl trivial (r_assign hl rfl) ?_)
    clear hl a; intro a hl
    refine w_nil ?_
    have hl2 := hl.add (t := 4) (hl.nil) rfl; clear hl; have hl := hl2; clear hl2
    refine then_normal ?_
    refine wp_ret ?_
    refine then_ret ?_
    refine f_ret1 (F' := (mb, C (MdV.c m) 82) :: (m.d.E ++ (m.qE ++ (m.rE ++ Z)))) hl hh rfl rfl (by repeat (first | exact keeps_nil | apply keeps_cons (by repeat (first | exact find_head | apply find_tail | apply find_skip)) (by first  | rfl) | exact keeps_self | exact keeps_left | apply keeps_app | apply keeps_mv | apply keeps_skip)) ?_
    exact MdS.nil (by rw [hf]; exact hI.o) (MdO.same (m' := m) (by rw [hf]; exact hm) rfl)
  · intro hg1; clear hl; intro hl
    try simp only [decide_eq_true_eq, decide_eq_false_iff_not, Bool.not_eq_true', Bool.not_eq_false', Bool.not_eq_true, Bool.not_eq_false, Bool.and_eq_true, Bool.or_eq_true, Bool.and_eq_false_iff, Bool.or_eq_false_iff, Bool.not_not, ne_eq, Int.not_lt, Int.not_le, Decidable.not_not, beq_iff_eq, bne_iff_ne] at hg1
    refine d_take (i := 6) hl rfl (by kernel_rfl) (by kernel_rfl) (by kernel_rfl) (by kernel_rfl) (by kernel_rfl) rfl ⟨_, _, rfl, rfl, rfl⟩ (fun _ _ _ h => h) hM (fun w hC => r_move hl rfl) rfl ?_
    clear hl a; intro a hl
    refine d_take (i := 7) hl rfl (by kernel_rfl) (by kernel_rfl) (by kernel_rfl) (by kernel_rfl) (by kernel_rfl) rfl ⟨_, _, rfl, rfl, rfl⟩ (fun _ _ _ h => h) hM (fun w hC => r_nilCheck hl rfl) rfl ?_
    clear hl a; intro a hl
    refine d_take (i := 8) hl rfl (by kernel_rfl) (by kernel_rfl) (by kernel_rfl) (by kernel_rfl) (by kernel_rfl) rfl ⟨_, _, rfl, rfl, rfl⟩ (fun _ _ _ h => h) hM (fun w hC => r_field hl rfl fld82_0) rfl ?_
    clear hl a; intro a hl
    refine d_take (i := 9) hl rfl (by kernel_rfl) (by kernel_rfl) (by kernel_rfl) (by kernel_rfl) (by kernel_rfl) rfl ⟨_, _, rfl, rfl, rfl⟩ (fun _ _ _ h => h) hM (fun w hC => r_field hl rfl fld78_4) rfl ?_
    clear hl a; intro a hl
    refine d_take (i := 10) hl rfl (by kernel_rfl) (by kernel_rfl) (by kernel_rfl) (by kernel_rfl) (by kernel_rfl) rfl ⟨_, _, rfl, rfl, rfl⟩ (fun _ _ _ h => h) hM (fun w hC => r_loadC hl rfl one76 hC (by repeat (first | exact find_head | apply find_tail | apply find_skip)) (by first | exact mdc_ep _ | exact mdc_a _ | exact mdc_n _ | exact mdc_i _ | exact mdc_ph _ | exact mdc_fid _ | exact mdc_vd _ | exact mdc_up _ | exact mdc_q _ | exact mdc_rf _ | exact mdc_tk _ | exact mdc_au _ | exact mdc_fl _ | exact mdc_fu _ | exact mdc_kp _ | exact duc_ep _ | exact duc_a _ | exact duc_n _ | exact duc_i _ | exact duc_ph _ | exact duc_fid _ | exact duc_vd _ | rfl)) rfl ?_
    clear hl a; intro a hl
    refine d_take (i := 11) hl rfl (by kernel_rfl) (by kernel_rfl) (by kernel_rfl) (by kernel_rfl) (by kernel_rfl) rfl ⟨_, _, rfl, rfl, rfl⟩ (fun _ _ _ h => h) hM (fun w hC => r_eql hl rfl rfl) rfl ?_
    clear hl a; intro a hl
    refine d_take (i := 12) hl rfl (by kernel_rfl) (by kernel_rfl) (by kernel_rfl) (by kernel_rfl) (by kernel_rfl) rfl trivial (fun _ _ _ h => h) hM (fun w hC => r_pickF hl rfl rfl) rfl ?_
    clear hl a; intro a hl
    refine d_take (i := 13) hl rfl (by kernel_rfl) (by kernel_rfl) (by kernel_rfl) (by kernel_rfl) (by kernel_rfl) rfl trivial (fun _ _ _ h => h) hM (fun w hC => r_move hl rfl) rfl ?_
    clear hl a; intro a hl
    refine sl_split (t := 21) hl rfl ?_ ?_
    · intro hg2; clear hl; intro hl
      try simp only [decide_eq_true_eq, decide_eq_false_iff_not, Bool.not_eq_true', Bool.not_eq_false', Bool.not_eq_true, Bool.not_eq_false, Bool.and_eq_true, Bool.or_eq_true, Bool.and_eq_false_iff, Bool.or_eq_false_iff, Bool.not_not, ne_eq, Int.not_lt, Int.not_le, Decidable.not_not, beq_iff_eq, bne_iff_ne] at hg2
      refine d_skip (i := 14) hl rfl (by kernel_rfl) (by kernel_rfl) (by kernel_rfl) (by kernel_rfl) (by kernel_rfl) rfl ⟨_, _, rfl, rfl, rfl⟩ (fun _ _ _ h => h) hM ?_
      clear hl a; intro a hl
      refine d_skip (i := 15) hl rfl (by kernel_rfl) (by kernel_rfl) (by kernel_rfl) (by kernel_rfl) (by kernel_rfl) rfl ⟨_, _, rfl, rfl, rfl⟩ (fun _ _ _ h => h) hM ?_
      clear hl a; intro a hl
      refine d_skip (i := 16) hl rfl (by kernel_rfl) (by kernel_rfl) (by kernel_rfl) (by kernel_rfl) (by kernel_rfl) rfl ⟨_, _, rfl, rfl, rfl⟩ (fun _ _ _ h => h) hM ?_
      clear hl a; intro a hl
      refine d_take (i := 17) hl rfl (by kernel_rfl) (by kernel_rfl) (by kernel_rfl) (by kernel_rfl) (by kernel_rfl) rfl trivial (fun _ _ _ h => h) hM (fun w hC => r_pickT hl rfl rfl) rfl ?_
      clear hl a; intro a hl
      refine d_take (i := 18) hl rfl (by kernel_rfl) (by kernel_rfl) (by kernel_rfl) (by kernel_rfl) (by kernel_rfl) rfl trivial (fun _ _ _ h => h) hM (fun w hC => r_move hl rfl) rfl ?_
      clear hl a; intro a hl
      refine d_skip (i := 19) hl rfl (by kernel_rfl) (by kernel_rfl) (by kernel_rfl) (by kernel_rfl) (by kernel_rfl) rfl ⟨_, _, rfl, rfl, rfl⟩ (fun _ _ _ h => h) hM ?_
      clear hl a; intro a hl
      refine d_skip (i := 20) hl rfl (by kernel_rfl) (by kernel_rfl) (by kernel_rfl) (by kernel_rfl) (by kernel_rfl) rfl ⟨_, _, rfl, rfl, rfl⟩ (fun _ _ _ h => h) hM ?_
      clear hl a; intro a hl
      refine d_skip (i := 21) hl rfl (by kernel_rfl) (by kernel_rfl) (by kernel_rfl) (by kernel_rfl) (by kernel_rfl) rfl ⟨_, _, rfl, rfl, rfl⟩ (fun _ _ _ h => h) hM ?_
      clear hl a; intro a hl
      refine d_skip (i := 22) hl rfl (by kernel_rfl) (by kernel_rfl) (by kernel_rfl) (by kernel_rfl) (by kernel_rfl) rfl ⟨_, _, rfl, rfl, rfl⟩ (fun _ _ _ h => h) hM ?_
      clear hl a; intro a hl
      refine d_skip (i := 23) hl rfl (by kernel_rfl) (by kernel_rfl) (by kernel_rfl) (by kernel_rfl) (by kernel_rfl) rfl ⟨_, _, rfl, rfl, rfl⟩ (fun _ _ _ h => h) hM ?_
      clear hl a; intro a hl
      refine d_skip (i := 24) hl rfl (by kernel_rfl) (by kernel_rfl) (by kernel_rfl) (by kernel_rfl) (by kernel_rfl) rfl ⟨_, _, rfl, rfl, rfl⟩ (fun _ _ _ h => h) hM ?_
      clear hl a; intro a hl
      refine d_skip (i := 25) hl rfl (by kernel_rfl) (by kernel_rfl) (by kernel_rfl) (by kernel_rfl) (by kernel_rfl) rfl ⟨_, _, rfl, rfl, rfl⟩ (fun _ _ _ h => h) hM ?_
      clear hl a; intro a hl
      refine d_skip (i := 26) hl rfl (by kernel_rfl) (by kernel_rfl) (by kernel_rfl) (by kernel_rfl) (by kernel_rfl) rfl ⟨_, _, rfl, rfl, rfl⟩ (fun _ _ _ h => h) hM ?_
      clear hl a; intro a hl
      refine d_take (i := 27) hl rfl (by kernel_rfl) (by kernel_rfl) (by kernel_rfl) (by kernel_rfl) (by kernel_rfl) rfl trivial (fun _ _ _ h => h) hM (fun w hC => r_pickT hl rfl rfl) rfl ?_
      clear hl a; intro a hl
      refine d_take (i := 28) hl rfl (by kernel_rfl) (by kernel_rfl) (by kernel_rfl) (by kernel_rfl) (by kernel_rfl) rfl trivial (fun _ _ _ h => h) hM (fun w hC => r_move hl rfl) rfl ?_
      clear hl a; intro a hl
      refine d_skip (i := 29) hl rfl (by kernel_rfl) (by kernel_rfl) (by kernel_rfl) (by kernel_rfl) (by kernel_rfl) rfl ⟨_, _, rfl, rfl, rfl⟩ (fun _ _ _ h => h) hM ?_
      clear hl a; intro a hl
      refine d_skip (i := 30) hl rfl (by kernel_rfl) (by kernel_rfl) (by kernel_rfl) (by kernel_rfl) (by kernel_rfl) rfl ⟨_, _, rfl, rfl, rfl⟩ (fun _ _ _ h => h) hM ?_
      clear hl a; intro a hl
      refine d_skip (i := 31) hl rfl (by kernel_rfl) (by kernel_rfl) (by kernel_rfl) (by kernel_rfl) (by kernel_rfl) rfl ⟨_, _, rfl, rfl, rfl⟩ (fun _ _ _ h => h) hM ?_
      clear hl a; intro a hl
      refine d_skip (i := 32) hl rfl (by kernel_rfl) (by kernel_rfl) (by kernel_rfl) (by kernel_rfl) (by kernel_rfl) rfl ⟨_, _, rfl, rfl, rfl⟩ (fun _ _ _ h => h) hM ?_
      clear hl a; intro a hl
      refine d_skip (i := 33) hl rfl (by kernel_rfl) (by kernel_rfl) (by kernel_rfl) (by kernel_rfl) (by kernel_rfl) rfl ⟨_, _, rfl, rfl, rfl⟩ (fun _ _ _ h => h) hM ?_
      clear hl a; intro a hl
      refine d_skip (i := 34) hl rfl (by kernel_rfl) (by kernel_rfl) (by kernel_rfl) (by kernel_rfl) (by kernel_rfl) rfl ⟨_, _, rfl, rfl, rfl⟩ (fun _ _ _ h => h) hM ?_
      clear hl a; intro a hl
      refine d_skip (i := 35) hl rfl (by kernel_rfl) (by kernel_rfl) (by kernel_rfl) (by kernel_rfl) (by kernel_rfl) rfl ⟨_, _, rfl, rfl, rfl⟩ (fun _ _ _ h => h) hM ?_
      clear hl a; intro a hl
      refine d_skip (i := 36) hl rfl (by kernel_rfl) (by kernel_rfl) (by kernel_rfl) (by kernel_rfl) (by kernel_rfl) rfl ⟨_, _, rfl, rfl, rfl⟩ (fun _ _ _ h => h) hM ?_
      clear hl a; intro a hl
      refine d_takeL (i := 37) hl rfl (by kernel_rfl) (by kernel_rfl) (by kernel_rfl) (by kernel_rfl) (by kernel_rfl) rfl trivial (fun _ _ _ h => h) (fun w => r_pickT hl rfl rfl) rfl ?_
      clear hl a; intro a hl
      refine d_done (by kernel_rfl) ?_
      try clear hM
      have hl2 := hl.add (t := 0) (hl.add (t := 3) (hl.add (t := 45) (hl.nil) rfl) rfl) rfl; clear hl; have hl := hl2; clear hl2
      refine then_normal ?_
      refine c_condT hl rfl ?_
      have hf := dl_n (g := g) (l := l) (m := q) (fun ⟨q1, q2, q3, q4, q5⟩ => by first | omega | (simp_all; done))
      refine c_seq ?_
      refine c_region ?_
      refine wl (wl_val hl rfl trivial (r_assign hl rfl) ?_)
      clear hl a; intro a hl
      refine w_nil ?_
      have hl2 := hl.add (t := 4) (hl.nil) rfl; clear hl; have hl := hl2; clear hl2
      refine then_normal ?_
      refine wp_ret ?_
      refine then_ret ?_
      refine f_ret1 (F' := (mb, C (MdV.c m) 82) :: (m.d.E ++ (m.qE ++ (m.rE ++ Z)))) hl hh rfl rfl (by repeat (first | exact keeps_nil | apply keeps_cons (by repeat (first | exact find_head | apply find_tail | apply find_skip)) (by first  | rfl) | exact keeps_self | exact keeps_left | apply keeps_app | apply keeps_mv | apply keeps_skip)) ?_
      exact MdS.nil (by rw [hf]; exact hI.o) (MdO.same (m' := m) (by rw [hf]; exact hm) rfl)
    · intro hg2; clear hl; intro hl
      try simp only [decide_eq_true_eq, decide_eq_false_iff_not, Bool.not_eq_true', Bool.not_eq_false', Bool.not_eq_true, Bool.not_eq_false, Bool.and_eq_true, Bool.or_eq_true, Bool.and_eq_false_iff, Bool.or_eq_false_iff, Bool.not_not, ne_eq, Int.not_lt, Int.not_le, Decidable.not_not, beq_iff_eq, bne_iff_ne] at hg2
      refine d_take (i := 14) hl rfl (by kernel_rfl) (by kernel_rfl) (by kernel_rfl) (by kernel_rfl) (by kernel_rfl) rfl ⟨_, _, rfl, rfl, rfl⟩ (fun _ _ _ h => h) hM (fun w hC => r_field hl rfl fld38_1) rfl ?_
      clear hl a; intro a hl
      refine d_take (i := 15) hl rfl (by kernel_rfl) (by kernel_rfl) (by kernel_rfl) (by kernel_rfl) (by kernel_rfl) rfl ⟨_, _, rfl, rfl, rfl⟩ (fun _ _ _ h => h) hM (fun w hC => r_loadC hl rfl one5 hC (by repeat (first | exact find_head | apply find_tail | apply find_skip)) (by first | exact mdc_ep _ | exact mdc_a _ | exact mdc_n _ | exact mdc_i _ | exact mdc_ph _ | exact mdc_fid _ | exact mdc_vd _ | exact mdc_up _ | exact mdc_q _ | exact mdc_rf _ | exact mdc_tk _ | exact mdc_au _ | exact mdc_fl _ | exact mdc_fu _ | exact mdc_kp _ | exact duc_ep _ | exact duc_a _ | exact duc_n _ | exact duc_i _ | exact duc_ph _ | exact duc_fid _ | exact duc_vd _ | rfl)) rfl ?_
      clear hl a; intro a hl
      refine d_take (i := 16) hl rfl (by kernel_rfl) (by kernel_rfl) (by kernel_rfl) (by kernel_rfl) (by kernel_rfl) rfl ⟨_, _, rfl, rfl, rfl⟩ (fun _ _ _ h => h) hM (fun w hC => r_geq hl rfl rfl) rfl ?_
      clear hl a; intro a hl
      refine d_take (i := 17) hl rfl (by kernel_rfl) (by kernel_rfl) (by kernel_rfl) (by kernel_rfl) (by kernel_rfl) rfl trivial (fun _ _ _ h => h) hM (fun w hC => r_pickF hl rfl rfl) rfl ?_
      clear hl a; intro a hl
      refine d_take (i := 18) hl rfl (by kernel_rfl) (by kernel_rfl) (by kernel_rfl) (by kernel_rfl) (by kernel_rfl) rfl trivial (fun _ _ _ h => h) hM (fun w hC => r_move hl rfl) rfl ?_
      clear hl a; intro a hl
      refine sl_split (t := 26) hl rfl ?_ ?_
      · intro hg3; clear hl; intro hl
        try simp only [decide_eq_true_eq, decide_eq_false_iff_not, Bool.not_eq_true', Bool.not_eq_false', Bool.not_eq_true, Bool.not_eq_false, Bool.and_eq_true, Bool.or_eq_true, Bool.and_eq_false_iff, Bool.or_eq_false_iff, Bool.not_not, ne_eq, Int.not_lt, Int.not_le, Decidable.not_not, beq_iff_eq, bne_iff_ne] at hg3
        refine d_skip (i := 19) hl rfl (by kernel_rfl) (by kernel_rfl) (by kernel_rfl) (by kernel_rfl) (by kernel_rfl) rfl ⟨_, _, rfl, rfl, rfl⟩ (fun _ _ _ h => h) hM ?_
        clear hl a; intro a hl
        refine d_skip (i := 20) hl rfl (by kernel_rfl) (by kernel_rfl) (by kernel_rfl) (by kernel_rfl) (by kernel_rfl) rfl ⟨_, _, rfl, rfl, rfl⟩ (fun _ _ _ h => h) hM ?_
        clear hl a; intro a hl
        refine d_skip (i := 21) hl rfl (by kernel_rfl) (by kernel_rfl) (by kernel_rfl) (by kernel_rfl) (by kernel_rfl) rfl ⟨_, _, rfl, rfl, rfl⟩ (fun _ _ _ h => h) hM ?_
        clear hl a; intro a hl
        refine d_skip (i := 22) hl rfl (by kernel_rfl) (by kernel_rfl) (by kernel_rfl) (by kernel_rfl) (by kernel_rfl) rfl ⟨_, _, rfl, rfl, rfl⟩ (fun _ _ _ h => h) hM ?_
        clear hl a; intro a hl
        refine d_skip (i := 23) hl rfl (by kernel_rfl) (by kernel_rfl) (by kernel_rfl) (by kernel_rfl) (by kernel_rfl) rfl ⟨_, _, rfl, rfl, rfl⟩ (fun _ _ _ h => h) hM ?_
        clear hl a; intro a hl
        refine d_skip (i := 24) hl rfl (by kernel_rfl) (by kernel_rfl) (by kernel_rfl) (by kernel_rfl) (by kernel_rfl) rfl ⟨_, _, rfl, rfl, rfl⟩ (fun _ _ _ h => h) hM ?_
        clear hl a; intro a hl
        refine d_skip (i := 25) hl rfl (by kernel_rfl) (by kernel_rfl) (by kernel_rfl) (by kernel_rfl) (by kernel_rfl) rfl ⟨_, _, rfl, rfl, rfl⟩ (fun _ _ _ h => h) hM ?_
        clear hl a; intro a hl
        refine d_skip (i := 26) hl rfl (by kernel_rfl) (by kernel_rfl) (by kernel_rfl) (by kernel_rfl) (by kernel_rfl) rfl ⟨_, _, rfl, rfl, rfl⟩ (fun _ _ _ h => h) hM ?_
        clear hl a; intro a hl
        refine d_take (i := 27) hl rfl (by kernel_rfl) (by kernel_rfl) (by kernel_rfl) (by kernel_rfl) (by kernel_rfl) rfl trivial (fun _ _ _ h => h) hM (fun w hC => r_pickT hl rfl rfl) rfl ?_
        clear hl a; intro a hl
        refine d_take (i := 28) hl rfl (by kernel_rfl) (by kernel_rfl) (by kernel_rfl) (by kernel_rfl) (by kernel_rfl) rfl trivial (fun _ _ _ h => h) hM (fun w hC => r_move hl rfl) rfl ?_
        clear hl a; intro a hl
        refine d_skip (i := 29) hl rfl (by kernel_rfl) (by kernel_rfl) (by kernel_rfl) (by kernel_rfl) (by kernel_rfl) rfl ⟨_, _, rfl, rfl, rfl⟩ (fun _ _ _ h => h) hM ?_
        clear hl a; intro a hl
        refine d_skip (i := 30) hl rfl (by kernel_rfl) (by kernel_rfl) (by kernel_rfl) (by kernel_rfl) (by kernel_rfl) rfl ⟨_, _, rfl, rfl, rfl⟩ (fun _ _ _ h => h) hM ?_
        clear hl a; intro a hl
        refine d_skip (i := 31) hl rfl (by kernel_rfl) (by kernel_rfl) (by kernel_rfl) (by kernel_rfl) (by kernel_rfl) rfl ⟨_, _, rfl, rfl, rfl⟩ (fun _ _ _ h => h) hM ?_
        clear hl a; intro a hl
        refine d_skip (i := 32) hl rfl (by kernel_rfl) (by kernel_rfl) (by kernel_rfl) (by kernel_rfl) (by kernel_rfl) rfl ⟨_, _, rfl, rfl, rfl⟩ (fun _ _ _ h => h) hM ?_
        clear hl a; intro a hl
        refine d_skip (i := 33) hl rfl (by kernel_rfl) (by kernel_rfl) (by kernel_rfl) (by kernel_rfl) (by kernel_rfl) rfl ⟨_, _, rfl, rfl, rfl⟩ (fun _ _ _ h => h) hM ?_
        clear hl a; intro a hl
        refine d_skip (i := 34) hl rfl (by kernel_rfl) (by kernel_rfl) (by kernel_rfl) (by kernel_rfl) (by kernel_rfl) rfl ⟨_, _, rfl, rfl, rfl⟩ (fun _ _ _ h => h) hM ?_
        clear hl a; intro a hl
        refine d_skip (i := 35) hl rfl (by kernel_rfl) (by kernel_rfl) (by kernel_rfl) (by kernel_rfl) (by kernel_rfl) rfl ⟨_, _, rfl, rfl, rfl⟩ (fun _ _ _ h => h) hM ?_
        clear hl a; intro a hl
        refine d_skip (i := 36) hl rfl (by kernel_rfl) (by kernel_rfl) (by kernel_rfl) (by kernel_rfl) (by kernel_rfl) rfl ⟨_, _, rfl, rfl, rfl⟩ (fun _ _ _ h => h) hM ?_
        clear hl a; intro a hl
        refine d_takeL (i := 37) hl rfl (by kernel_rfl) (by kernel_rfl) (by kernel_rfl) (by kernel_rfl) (by kernel_rfl) rfl trivial (fun _ _ _ h => h) (fun w => r_pickT hl rfl rfl) rfl ?_
        clear hl a; intro a hl
        refine d_done (by kernel_rfl) ?_
        try clear hM
        have hl2 := hl.add (t := 0) (hl.add (t := 3) (hl.add (t := 45) (hl.nil) rfl) rfl) rfl; clear hl; have hl := hl2; clear hl2
        refine then_normal ?_
        refine c_condT hl rfl ?_
        have hf := dl_n (g := g) (l := l) (m := q) (fun ⟨q1, q2, q3, q4, q5⟩ => by first | omega | (simp_all; done))
        refine c_seq ?_
        refine c_region ?_
        refine wl (wl_val hl rfl trivial (r_assign hl rfl) ?_)
        clear hl a; intro a hl
        refine w_nil ?_
        have hl2 := hl.add (t := 4) (hl.nil) rfl; clear hl; have hl := hl2; clear hl2
        refine then_normal ?_
        refine wp_ret ?_
        refine then_ret ?_
        refine f_ret1 (F' := (mb, C (MdV.c m) 82) :: (m.d.E ++ (m.qE ++ (m.rE ++ Z)))) hl hh rfl rfl (by repeat (first | exact keeps_nil | apply keeps_cons (by repeat (first | exact find_head | apply find_tail | apply find_skip)) (by first  | rfl) | exact keeps_self | exact keeps_left | apply keeps_app | apply keeps_mv | apply keeps_skip)) ?_
        exact MdS.nil (by rw [hf]; exact hI.o) (MdO.same (m' := m) (by rw [hf]; exact hm) rfl)
      · intro hg3; clear hl; intro hl
        try simp only [decide_eq_true_eq, decide_eq_false_iff_not, Bool.not_eq_true', Bool.not_eq_false', Bool.not_eq_true, Bool.not_eq_false, Bool.and_eq_true, Bool.or_eq_true, Bool.and_eq_false_iff, Bool.or_eq_false_iff, Bool.not_not, ne_eq, Int.not_lt, Int.not_le, Decidable.not_not, beq_iff_eq, bne_iff_ne] at hg3
        refine d_take (i := 19) hl rfl (by kernel_rfl) (by kernel_rfl) (by kernel_rfl) (by kernel_rfl) (by kernel_rfl) rfl ⟨_, _, rfl, rfl, rfl⟩ (fun _ _ _ h => h) hM (fun w hC => r_field hl rfl fld38_2) rfl ?_
        clear hl a; intro a hl
        refine d_take (i := 20) hl rfl (by kernel_rfl) (by kernel_rfl) (by kernel_rfl) (by kernel_rfl) (by kernel_rfl) rfl ⟨_, _, rfl, rfl, rfl⟩ (fun _ _ _ h => h) hM (fun w hC => r_loadC hl rfl one36 hC (by repeat (first | exact find_head | apply find_tail | apply find_skip)) (by first | exact mdc_ep _ | exact mdc_a _ | exact mdc_n _ | exact mdc_i _ | exact mdc_ph _ | exact mdc_fid _ | exact mdc_vd _ | exact mdc_up _ | exact mdc_q _ | exact mdc_rf _ | exact mdc_tk _ | exact mdc_au _ | exact mdc_fl _ | exact mdc_fu _ | exact mdc_kp _ | exact duc_ep _ | exact duc_a _ | exact duc_n _ | exact duc_i _ | exact duc_ph _ | exact duc_fid _ | exact duc_vd _ | rfl)) rfl ?_
        clear hl a; intro a hl
        refine d_take (i := 21) hl rfl (by kernel_rfl) (by kernel_rfl) (by kernel_rfl) (by kernel_rfl) (by kernel_rfl) rfl ⟨_, _, rfl, rfl, rfl⟩ (fun _ _ _ h => h) hM (fun w hC => r_move hl rfl) rfl ?_
        clear hl a; intro a hl
        refine d_take (i := 22) hl rfl (by kernel_rfl) (by kernel_rfl) (by kernel_rfl) (by kernel_rfl) (by kernel_rfl) rfl ⟨_, _, rfl, rfl, rfl⟩ (fun _ _ _ h => h) hM (fun w hC => r_nilCheck hl rfl) rfl ?_
        clear hl a; intro a hl
        refine d_take (i := 23) hl rfl (by kernel_rfl) (by kernel_rfl) (by kernel_rfl) (by kernel_rfl) (by kernel_rfl) rfl ⟨_, _, rfl, rfl, rfl⟩ (fun _ _ _ h => h) hM (fun w hC => r_field hl rfl fld82_0) rfl ?_
        clear hl a; intro a hl
        refine d_take (i := 24) hl rfl (by kernel_rfl) (by kernel_rfl) (by kernel_rfl) (by kernel_rfl) (by kernel_rfl) rfl ⟨_, _, rfl, rfl, rfl⟩ (fun _ _ _ h => h) hM (fun w hC => r_field hl rfl fld78_0) rfl ?_
        clear hl a; intro a hl
        refine d_take (i := 25) hl rfl (by kernel_rfl) (by kernel_rfl) (by kernel_rfl) (by kernel_rfl) (by kernel_rfl) rfl ⟨_, _, rfl, rfl, rfl⟩ (fun _ _ _ h => h) hM (fun w hC => r_loadC hl rfl one36 hC (by repeat (first | exact find_head | apply find_tail | apply find_skip)) (by first | exact mdc_ep _ | exact mdc_a _ | exact mdc_n _ | exact mdc_i _ | exact mdc_ph _ | exact mdc_fid _ | exact mdc_vd _ | exact mdc_up _ | exact mdc_q _ | exact mdc_rf _ | exact mdc_tk _ | exact mdc_au _ | exact mdc_fl _ | exact mdc_fu _ | exact mdc_kp _ | exact duc_ep _ | exact duc_a _ | exact duc_n _ | exact duc_i _ | exact duc_ph _ | exact duc_fid _ | exact duc_vd _ | rfl)) rfl ?_
        clear hl a; intro a hl
        refine d_take (i := 26) hl rfl (by kernel_rfl) (by kernel_rfl) (by kernel_rfl) (by kernel_rfl) (by kernel_rfl) rfl ⟨_, _, rfl, rfl, rfl⟩ (fun _ _ _ h => h) hM (fun w hC => r_neq hl rfl rfl) rfl ?_
        clear hl a; intro a hl
        refine d_take (i := 27) hl rfl (by kernel_rfl) (by kernel_rfl) (by kernel_rfl) (by kernel_rfl) (by kernel_rfl) rfl trivial (fun _ _ _ h => h) hM (fun w hC => r_pickF hl rfl rfl) rfl ?_
        clear hl a; intro a hl
        refine d_take (i := 28) hl rfl (by kernel_rfl) (by kernel_rfl) (by kernel_rfl) (by kernel_rfl) (by kernel_rfl) rfl trivial (fun _ _ _ h => h) hM (fun w hC => r_move hl rfl) rfl ?_
        clear hl a; intro a hl
        refine sl_split (t := 36) hl rfl ?_ ?_
        · intro hg4; clear hl; intro hl
          try simp only [decide_eq_true_eq, decide_eq_false_iff_not, Bool.not_eq_true', Bool.not_eq_false', Bool.not_eq_true, Bool.not_eq_false, Bool.and_eq_true, Bool.or_eq_true, Bool.and_eq_false_iff, Bool.or_eq_false_iff, Bool.not_not, ne_eq, Int.not_lt, Int.not_le, Decidable.not_not, beq_iff_eq, bne_iff_ne] at hg4
          refine d_skip (i := 29) hl rfl (by kernel_rfl) (by kernel_rfl) (by kernel_rfl) (by kernel_rfl) (by kernel_rfl) rfl ⟨_, _, rfl, rfl, rfl⟩ (fun _ _ _ h => h) hM ?_
          clear hl a; intro a hl
          refine d_skip (i := 30) hl rfl (by kernel_rfl) (by kernel_rfl) (by kernel_rfl) (by kernel_rfl) (by kernel_rfl) rfl ⟨_, _, rfl, rfl, rfl⟩ (fun _ _ _ h => h) hM ?_
          clear hl a; intro a hl
          refine d_skip (i := 31) hl rfl (by kernel_rfl) (by kernel_rfl) (by kernel_rfl) (by kernel_rfl) (by kernel_rfl) rfl ⟨_, _, rfl, rfl, rfl⟩ (fun _ _ _ h => h) hM ?_
          clear hl a; intro a hl
          refine d_skip (i := 32) hl rfl (by kernel_rfl) (by kernel_rfl) (by kernel_rfl) (by kernel_rfl) (by kernel_rfl) rfl ⟨_, _, rfl, rfl, rfl⟩ (fun _ _ _ h => h) hM ?_
          clear hl a; intro a hl
          refine d_skip (i := 33) hl rfl (by kernel_rfl) (by kernel_rfl) (by kernel_rfl) (by kernel_rfl) (by kernel_rfl) rfl ⟨_, _, rfl, rfl, rfl⟩ (fun _ _ _ h => h) hM ?_
          clear hl a; intro a hl
          refine d_skip (i := 34) hl rfl (by kernel_rfl) (by kernel_rfl) (by kernel_rfl) (by kernel_rfl) (by kernel_rfl) rfl ⟨_, _, rfl, rfl, rfl⟩ (fun _ _ _ h => h) hM ?_
          clear hl a; intro a hl
          refine d_skip (i := 35) hl rfl (by kernel_rfl) (by kernel_rfl) (by kernel_rfl) (by kernel_rfl) (by kernel_rfl) rfl ⟨_, _, rfl, rfl, rfl⟩ (fun _ _ _ h => h) hM ?_
          clear hl a; intro a hl
          refine d_skip (i := 36) hl rfl (by kernel_rfl) (by kernel_rfl) (by kernel_rfl) (by kernel_rfl) (by kernel_rfl) rfl ⟨_, _, rfl, rfl, rfl⟩ (fun _ _ _ h => h) hM ?_
          clear hl a; intro a hl
          refine d_takeL (i := 37) hl rfl (by kernel_rfl) (by kernel_rfl) (by kernel_rfl) (by kernel_rfl) (by kernel_rfl) rfl trivial (fun _ _ _ h => h) (fun w => r_pickT hl rfl rfl) rfl ?_
          clear hl a; intro a hl
          refine d_done (by kernel_rfl) ?_
          try clear hM
          have hl2 := hl.add (t := 0) (hl.add (t := 3) (hl.add (t := 45) (hl.nil) rfl) rfl) rfl; clear hl; have hl := hl2; clear hl2
          refine then_normal ?_
          refine c_condT hl rfl ?_
          have hf := dl_n (g := g) (l := l) (m := q) (fun ⟨q1, q2, q3, q4, q5⟩ => by first | omega | (simp_all; done))
          refine c_seq ?_
          refine c_region ?_
          refine wl (wl_val hl rfl trivial (r_assign hl rfl) ?_)
          clear hl a; intro a hl
          refine w_nil ?_
          have hl2 := hl.add (t := 4) (hl.nil) rfl; clear hl; have hl := hl2; clear hl2
          refine then_normal ?_
          refine wp_ret ?_
          refine then_ret ?_
          refine f_ret1 (F' := (mb, C (MdV.c m) 82) :: (m.d.E ++ (m.qE ++ (m.rE ++ Z)))) hl hh rfl rfl (by repeat (first | exact keeps_nil | apply keeps_cons (by repeat (first | exact find_head | apply find_tail | apply find_skip)) (by first  | rfl) | exact keeps_self | exact keeps_left | apply keeps_app | apply keeps_mv | apply keeps_skip)) ?_
          exact MdS.nil (by rw [hf]; exact hI.o) (MdO.same (m' := m) (by rw [hf]; exact hm) rfl)
        · intro hg4; clear hl; intro hl
          try simp only [decide_eq_true_eq, decide_eq_false_iff_not, Bool.not_eq_true', Bool.not_eq_false', Bool.not_eq_true, Bool.not_eq_false, Bool.and_eq_true, Bool.or_eq_true, Bool.and_eq_false_iff, Bool.or_eq_false_iff, Bool.not_not, ne_eq, Int.not_lt, Int.not_le, Decidable.not_not, beq_iff_eq, bne_iff_ne] at hg4
          refine d_take (i := 29) hl rfl (by kernel_rfl) (by kernel_rfl) (by kernel_rfl) (by kernel_rfl) (by kernel_rfl) rfl ⟨_, _, rfl, rfl, rfl⟩ (fun _ _ _ h => h) hM (fun w hC => r_field hl rfl fld38_3) rfl ?_
          clear hl a; intro a hl
          refine d_take (i := 30) hl rfl (by kernel_rfl) (by kernel_rfl) (by kernel_rfl) (by kernel_rfl) (by kernel_rfl) rfl ⟨_, _, rfl, rfl, rfl⟩ (fun _ _ _ h => h) hM (fun w hC => r_loadC hl rfl one36 hC (by repeat (first | exact find_head | apply find_tail | apply find_skip)) (by first | exact mdc_ep _ | exact mdc_a _ | exact mdc_n _ | exact mdc_i _ | exact mdc_ph _ | exact mdc_fid _ | exact mdc_vd _ | exact mdc_up _ | exact mdc_q _ | exact mdc_rf _ | exact mdc_tk _ | exact mdc_au _ | exact mdc_fl _ | exact mdc_fu _ | exact mdc_kp _ | exact duc_ep _ | exact duc_a _ | exact duc_n _ | exact duc_i _ | exact duc_ph _ | exact duc_fid _ | exact duc_vd _ | rfl)) rfl ?_
          clear hl a; intro a hl
          refine d_take (i := 31) hl rfl (by kernel_rfl) (by kernel_rfl) (by kernel_rfl) (by kernel_rfl) (by kernel_rfl) rfl ⟨_, _, rfl, rfl, rfl⟩ (fun _ _ _ h => h) hM (fun w hC => r_move hl rfl) rfl ?_
          clear hl a; intro a hl
          refine d_take (i := 32) hl rfl (by kernel_rfl) (by kernel_rfl) (by kernel_rfl) (by kernel_rfl) (by kernel_rfl) rfl ⟨_, _, rfl, rfl, rfl⟩ (fun _ _ _ h => h) hM (fun w hC => r_nilCheck hl rfl) rfl ?_
          clear hl a; intro a hl
          refine d_take (i := 33) hl rfl (by kernel_rfl) (by kernel_rfl) (by kernel_rfl) (by kernel_rfl) (by kernel_rfl) rfl ⟨_, _, rfl, rfl, rfl⟩ (fun _ _ _ h => h) hM (fun w hC => r_field hl rfl fld82_0) rfl ?_
          clear hl a; intro a hl
          refine d_take (i := 34) hl rfl (by kernel_rfl) (by kernel_rfl) (by kernel_rfl) (by kernel_rfl) (by kernel_rfl) rfl ⟨_, _, rfl, rfl, rfl⟩ (fun _ _ _ h => h) hM (fun w hC => r_field hl rfl fld78_5) rfl ?_
          clear hl a; intro a hl
          refine d_take (i := 35) hl rfl (by kernel_rfl) (by kernel_rfl) (by kernel_rfl) (by kernel_rfl) (by kernel_rfl) rfl ⟨_, _, rfl, rfl, rfl⟩ (fun _ _ _ h => h) hM (fun w hC => r_loadC hl rfl one36 hC (by repeat (first | exact find_head | apply find_tail | apply find_skip)) (by first | exact mdc_ep _ | exact mdc_a _ | exact mdc_n _ | exact mdc_i _ | exact mdc_ph _ | exact mdc_fid _ | exact mdc_vd _ | exact mdc_up _ | exact mdc_q _ | exact mdc_rf _ | exact mdc_tk _ | exact mdc_au _ | exact mdc_fl _ | exact mdc_fu _ | exact mdc_kp _ | exact duc_ep _ | exact duc_a _ | exact duc_n _ | exact duc_i _ | exact duc_ph _ | exact duc_fid _ | exact duc_vd _ | rfl)) rfl ?_
          clear hl a; intro a hl
          refine d_takeL (i := 36) hl rfl (by kernel_rfl) (by kernel_rfl) (by kernel_rfl) (by kernel_rfl) (by kernel_rfl) rfl ⟨_, _, rfl, rfl, rfl⟩ (fun _ _ _ h => h) (fun w => r_neq hl rfl rfl) rfl ?_
          clear hl a; intro a hl
          refine d_takeL (i := 37) hl rfl (by kernel_rfl) (by kernel_rfl) (by kernel_rfl) (by kernel_rfl) (by kernel_rfl) rfl trivial (fun _ _ _ h => h) (fun w => r_pickF hl rfl rfl) rfl ?_
          clear hl a; intro a hl
          refine d_done (by kernel_rfl) ?_
          try clear hM
          have hl2 := hl.add (t := 0) (hl.add (t := 3) (hl.add (t := 45) (hl.nil) rfl) rfl) rfl; clear hl; have hl := hl2; clear hl2
          refine then_normal ?_
          refine c_cond hl rfl ?_ ?_
          · intro hc0
            try simp only [decide_eq_true_eq, decide_eq_false_iff_not, Bool.not_eq_true', Bool.not_eq_false', Bool.not_eq_true, Bool.not_eq_false, Bool.and_eq_true, Bool.or_eq_true, Bool.and_eq_false_iff, Bool.or_eq_false_iff, Bool.not_not, ne_eq, Int.not_lt, Int.not_le, Decidable.not_not, beq_iff_eq, bne_iff_ne] at hc0
            have hf := dl_n (g := g) (l := l) (m := q) (fun ⟨q1, q2, q3, q4, q5⟩ => by first | omega | (simp_all; done))
            refine c_seq ?_
            refine c_region ?_
            refine wl (wl_val hl rfl trivial (r_assign hl rfl) ?_)
            clear hl a; intro a hl
            refine w_nil ?_
            have hl2 := hl.add (t := 4) (hl.nil) rfl; clear hl; have hl := hl2; clear hl2
            refine then_normal ?_
            refine wp_ret ?_
            refine then_ret ?_
            refine f_ret1 (F' := (mb, C (MdV.c m) 82) :: (m.d.E ++ (m.qE ++ (m.rE ++ Z)))) hl hh rfl rfl (by repeat (first | exact keeps_nil | apply keeps_cons (by repeat (first | exact find_head | apply find_tail | apply find_skip)) (by first  | rfl) | exact keeps_self | exact keeps_left | apply keeps_app | apply keeps_mv | apply keeps_skip)) ?_
            exact MdS.nil (by rw [hf]; exact hI.o) (MdO.same (m' := m) (by rw [hf]; exact hm) rfl)
          · intro hc0
            try simp only [decide_eq_true_eq, decide_eq_false_iff_not, Bool.not_eq_true', Bool.not_eq_false', Bool.not_eq_true, Bool.not_eq_false, Bool.and_eq_true, Bool.or_eq_true, Bool.and_eq_false_iff, Bool.or_eq_false_iff, Bool.not_not, ne_eq, Int.not_lt, Int.not_le, Decidable.not_not, beq_iff_eq, bne_iff_ne] at hc0
            have hhd : Heed g q := ⟨hI.on, by omega, by omega, by omega, by omega⟩
            obtain ⟨d, hqd⟩ := Int.eq_ofNat_of_zero_le hqd0.1
            refine wp_skip ?_
            refine then_normal ?_
            refine c_seq ?_
            refine c_seq ?_
            refine c_region ?_
            refine wl (wl_val hl rfl trivial (r_move hl rfl) ?_)
            clear hl a; intro a hl
            refine wl (wl_val hl rfl trivial (r_nilCheck hl rfl) ?_)
            clear hl a; intro a hl
            refine wl (wl_val hl rfl trivial (r_field hl rfl fld82_0) ?_)
            clear hl a; intro a hl
            refine wl (wl_val hl rfl trivial (r_field hl rfl fld78_4) ?_)
            clear hl a; intro a hl
            refine wl (w_load hl hh rfl trivial one76 rfl (by repeat (first | exact find_head | apply find_tail | apply find_skip)) (by first | exact mdc_ep _ | exact mdc_a _ | exact mdc_n _ | exact mdc_i _ | exact mdc_ph _ | exact mdc_fid _ | exact mdc_vd _ | exact mdc_up _ | exact mdc_q _ | exact mdc_rf _ | exact mdc_tk _ | exact mdc_au _ | exact mdc_fl _ | exact mdc_fu _ | exact mdc_kp _ | exact duc_ep _ | exact duc_a _ | exact duc_n _ | exact duc_i _ | exact duc_ph _ | exact duc_fid _ | exact duc_vd _ | rfl) ?_)
            clear hl a; intro a hl
            refine wl (wl_val hl rfl trivial (r_eql hl rfl rfl) ?_)
            clear hl a; intro a hl
            refine w_nil ?_
            have hl2 := hl.add (t := 0) (hl.add (t := 3) (hl.add (t := 51) (hl.nil) rfl) rfl) rfl; clear hl; have hl := hl2; clear hl2
            refine then_normal ?_
            refine c_cond hl rfl ?_ ?_
            · intro hc1
              try simp only [decide_eq_true_eq, decide_eq_false_iff_not, Bool.not_eq_true', Bool.not_eq_false', Bool.not_eq_true, Bool.not_eq_false, Bool.and_eq_true, Bool.or_eq_true, Bool.and_eq_false_iff, Bool.or_eq_false_iff, Bool.not_not, ne_eq, Int.not_lt, Int.not_le, Decidable.not_not, beq_iff_eq, bne_iff_ne] at hc1
              have hp1 : g.st.ph = 1 := by omega
              refine c_seq ?_
              refine c_seq ?_
              refine c_region ?_
              refine wl (wl_val hl rfl trivial (r_field hl rfl fld38_0) ?_)
              clear hl a; intro a hl
              refine wl (w_load hl hh rfl trivial one35 rfl (by repeat (first | exact find_head | apply find_tail | apply find_skip)) (by first | exact mdc_ep _ | exact mdc_a _ | exact mdc_n _ | exact mdc_i _ | exact mdc_ph _ | exact mdc_fid _ | exact mdc_vd _ | exact mdc_up _ | exact mdc_q _ | exact mdc_rf _ | exact mdc_tk _ | exact mdc_au _ | exact mdc_fl _ | exact mdc_fu _ | exact mdc_kp _ | exact duc_ep _ | exact duc_a _ | exact duc_n _ | exact duc_i _ | exact duc_ph _ | exact duc_fid _ | exact duc_vd _ | rfl) ?_)
              clear hl a; intro a hl
              refine wl (wl_val hl rfl trivial (r_neq hl rfl rfl) ?_)
              clear hl a; intro a hl
              refine w_nil ?_
              have hl2 := hl.add (t := 0) (hl.add (t := 3) (hl.add (t := 54) (hl.nil) rfl) rfl) rfl; clear hl; have hl := hl2; clear hl2
              refine then_normal ?_
              refine c_cond hl rfl ?_ ?_
              · intro hc2
                try simp only [decide_eq_true_eq, decide_eq_false_iff_not, Bool.not_eq_true', Bool.not_eq_false', Bool.not_eq_true, Bool.not_eq_false, Bool.and_eq_true, Bool.or_eq_true, Bool.and_eq_false_iff, Bool.or_eq_false_iff, Bool.not_not, ne_eq, Int.not_lt, Int.not_le, Decidable.not_not, beq_iff_eq, bne_iff_ne] at hc2
                have hf := dl_x (l := l) hhd (fun h => by omega) (fun h => by omega) (fun h => by omega) (fun h => by omega)
                refine c_seq ?_
                refine c_region ?_
                refine wl (wl_val hl rfl trivial (r_assign hl rfl) ?_)
                clear hl a; intro a hl
                refine w_nil ?_
                have hl2 := hl.add (t := 4) (hl.nil) rfl; clear hl; have hl := hl2; clear hl2
                refine then_normal ?_
                refine wp_ret ?_
                refine then_ret ?_
                refine then_ret ?_
                refine f_ret1 (F' := (mb, C (MdV.c m) 82) :: (m.d.E ++ (m.qE ++ (m.rE ++ Z)))) hl hh rfl rfl (by repeat (first | exact keeps_nil | apply keeps_cons (by repeat (first | exact find_head | apply find_tail | apply find_skip)) (by first  | rfl) | exact keeps_self | exact keeps_left | apply keeps_app | apply keeps_mv | apply keeps_skip)) ?_
                exact MdS.nil (by rw [hf]; exact hI.o) (MdO.same (m' := m) (by rw [hf]; exact hm) rfl)
              · intro hc2
                try simp only [decide_eq_true_eq, decide_eq_false_iff_not, Bool.not_eq_true', Bool.not_eq_false', Bool.not_eq_true, Bool.not_eq_false, Bool.and_eq_true, Bool.or_eq_true, Bool.and_eq_false_iff, Bool.or_eq_false_iff, Bool.not_not, ne_eq, Int.not_lt, Int.not_le, Decidable.not_not, beq_iff_eq, bne_iff_ne] at hc2
                have hk4 : q.k = 4 ∧ g.st.ph = 1 := ⟨by omega, hp1⟩
                refine wp_skip ?_
                refine then_normal ?_
                refine c_seq ?_
                refine c_seq ?_
                refine c_region ?_
                refine wl (wl_val hl rfl trivial (r_field hl rfl fld38_4) ?_)
                clear hl a; intro a hl
                refine wl (w_load hl hh rfl trivial one4 rfl (by repeat (first | exact find_head | apply find_tail | apply find_skip)) (by first | exact mdc_ep _ | exact mdc_a _ | exact mdc_n _ | exact mdc_i _ | exact mdc_ph _ | exact mdc_fid _ | exact mdc_vd _ | exact mdc_up _ | exact mdc_q _ | exact mdc_rf _ | exact mdc_tk _ | exact mdc_au _ | exact mdc_fl _ | exact mdc_fu _ | exact mdc_kp _ | exact duc_ep _ | exact duc_a _ | exact duc_n _ | exact duc_i _ | exact duc_ph _ | exact duc_fid _ | exact duc_vd _ | rfl) ?_)
                clear hl a; intro a hl
                refine wl (wl_val hl rfl trivial (r_not hl rfl) ?_)
                clear hl a; intro a hl
                refine w_nil ?_
                have hl2 := hl.add (t := 0) (hl.add (t := 3) (hl.add (t := 57) (hl.nil) rfl) rfl) rfl; clear hl; have hl := hl2; clear hl2
                refine then_normal ?_
                refine c_cond hl rfl ?_ ?_
                · intro hc3
                  try simp only [decide_eq_true_eq, decide_eq_false_iff_not, Bool.not_eq_true', Bool.not_eq_false', Bool.not_eq_true, Bool.not_eq_false, Bool.and_eq_true, Bool.or_eq_true, Bool.and_eq_false_iff, Bool.or_eq_false_iff, Bool.not_not, ne_eq, Int.not_lt, Int.not_le, Decidable.not_not, beq_iff_eq, bne_iff_ne] at hc3
                  have hf := dl_4n (l := l) hhd hk4 (by first | assumption | (simp_all; done))
                  refine c_seq ?_
                  refine c_region ?_
                  refine wl (wl_val hl rfl trivial (r_move hl rfl) ?_)
                  clear hl a; intro a hl
                  refine wl (w_call hl hh rfl trivial rfl cal120 rfl (mdec_spec Z mb m g l hm hI.on hI.o hsd hdn false) (by repeat (first | exact keeps_nil | apply keeps_cons (by repeat (first | exact find_head | apply find_tail | apply find_skip)) (by first  | rfl) | exact keeps_self | exact keeps_left | apply keeps_app | apply keeps_mv | apply keeps_skip)) trivial ?_)
                  clear hl hh a w; intro vc Fc a w hR hl hh
                  try simp only [List.cons_append, List.nil_append, List.append_assoc, List.append_nil] at hh
                  refine wl (wl_val hl rfl trivial (r_assign hl rfl) ?_)
                  clear hl a; intro a hl
                  refine w_nil ?_
                  have hl2 := hl.add (t := 4) (hl.nil) rfl; clear hl; have hl := hl2; clear hl2
                  refine then_normal ?_
                  refine wp_ret ?_
                  refine then_ret ?_
                  refine then_ret ?_
                  refine f_ret1 (F' := Fc) hl hh rfl rfl (by repeat (first | exact keeps_nil | apply keeps_cons (by repeat (first | exact find_head | apply find_tail | apply find_skip)) (by first  | rfl) | exact keeps_self | exact keeps_left | apply keeps_app | apply keeps_mv | apply keeps_skip)) ?_
                  rw [hf]
                  exact hR
                · intro hc3
                  try simp only [decide_eq_true_eq, decide_eq_false_iff_not, Bool.not_eq_true', Bool.not_eq_false', Bool.not_eq_true, Bool.not_eq_false, Bool.and_eq_true, Bool.or_eq_true, Bool.and_eq_false_iff, Bool.or_eq_false_iff, Bool.not_not, ne_eq, Int.not_lt, Int.not_le, Decidable.not_not, beq_iff_eq, bne_iff_ne] at hc3
                  have hqy : q.y = true := by first | assumption | (simp_all; done)
                  refine wp_skip ?_
                  refine then_normal ?_
                  refine c_seq ?_
                  refine c_draw [(mb, C m.c 82), (k3, C [.int .u8 q.k, .int .u8 q.d, .int .u32 q.e, .int .u32 q.b, .bool q.y, .int .u32 q.r, .int .u32 q.s, .string q.t] 38)] [5, 6] mixed hh ?_
                  clear hh w; intro w hh
                  have hM : Mem [(mb, C m.c 82), (k3, C [.int .u8 q.k, .int .u8 q.d, .int .u32 q.e, .int .u32 q.b, .bool q.y, .int .u32 q.r, .int .u32 q.s, .string q.t] 38)] w := (memK hh (by repeat (first | exact keeps_nil | apply keeps_cons (by repeat (first | exact find_head | apply find_tail | apply find_skip)) (by first  | rfl) | exact keeps_self | exact keeps_left | apply keeps_app | apply keeps_mv | apply keeps_skip)))
                  refine d_take (i := 0) hl rfl (by kernel_rfl) (by kernel_rfl) (by kernel_rfl) (by kernel_rfl) (by kernel_rfl) rfl trivial (fun _ _ _ h => h) hM (fun w hC => r_move hl rfl) rfl ?_
                  clear hl a; intro a hl
                  refine d_take (i := 1) hl rfl (by kernel_rfl) (by kernel_rfl) (by kernel_rfl) (by kernel_rfl) (by kernel_rfl) rfl trivial (fun _ _ _ h => h) hM (fun w hC => r_field hl rfl fld38_1) rfl ?_
                  clear hl a; intro a hl
                  refine d_take (i := 2) hl rfl (by kernel_rfl) (by kernel_rfl) (by kernel_rfl) (by kernel_rfl) (by kernel_rfl) rfl trivial (fun _ _ _ h => h) hM (fun w hC => r_loadC hl rfl one5 hC (by repeat (first | exact find_head | apply find_tail | apply find_skip)) (by first | exact mdc_ep _ | exact mdc_a _ | exact mdc_n _ | exact mdc_i _ | exact mdc_ph _ | exact mdc_fid _ | exact mdc_vd _ | exact mdc_up _ | exact mdc_q _ | exact mdc_rf _ | exact mdc_tk _ | exact mdc_au _ | exact mdc_fl _ | exact mdc_fu _ | exact mdc_kp _ | exact duc_ep _ | exact duc_a _ | exact duc_n _ | exact duc_i _ | exact duc_ph _ | exact duc_fid _ | exact duc_vd _ | rfl)) rfl ?_
                  clear hl a; intro a hl
                  rw [hqd] at hl
                  refine d_take (i := 3) hl rfl (by kernel_rfl) (by kernel_rfl) (by kernel_rfl) (by kernel_rfl) (by kernel_rfl) rfl trivial (fun _ _ _ h => h) hM (fun w hC => r_nilCheck hl rfl) rfl ?_
                  clear hl a; intro a hl
                  refine d_take (i := 4) hl rfl (by kernel_rfl) (by kernel_rfl) (by kernel_rfl) (by kernel_rfl) (by kernel_rfl) rfl trivial (fun _ _ _ h => h) hM (fun w hC => r_field hl rfl fld82_4) rfl ?_
                  clear hl a; intro a hl
                  refine d_takeL (i := 5) hl rfl (by kernel_rfl) (by kernel_rfl) (by kernel_rfl) (by kernel_rfl) (by kernel_rfl) rfl trivial (fun _ _ _ h => h) (fun w => r_indexA hl rfl rfl arr80 (by omega) (by omega) (by first | (simp only [Int.reduceToNat]; rfl) | exact toNat_add1 _ | exact toNat_add2 _ _ | exact toNat_emod _ _ | exact Int.toNat_natCast _ | rfl)) rfl ?_
                  clear hl a; intro a hl
                  refine d_one (i := 6) (by kernel_rfl) rfl ?_
                  try clear hM
                  refine id (w_store hl hh trivial one4 rfl rfl (by repeat (first | exact find_head | apply find_tail | apply find_skip)) (by first | (simp; done) | (simp; omega) | (rw [mdc_len]; omega) | (rw [mdc_len]; simp; done) | (rw [duc_len]; omega) | (rw [duc_len]; simp; done)) (by first | rfl | assumption | (apply Row.one; assumption)) (by first | exact mdc_sup _ _ | exact mdc_stk _ _ | exact mdc_sau _ _ | exact mdc_sfl _ _ | exact mdc_sfu _ _ | exact mdc_skp _ _ | exact mdc_sy1 _ (by omega) _ | exact mdc_sd1 _ (by omega) _ | exact duc_sa _ _ (s1.vs ++ [⟨s1.fid, s1.fn⟩]) _ E2 | exact duc_sn _ _ (s1.ws ++ [⟨s1.fid, s1.fn⟩]) _ E3 | exact duc_sph _ _ | exact duc_sfid _ _ | (simp only [setL, List.getElem?_cons_zero, List.getElem?_cons_succ, Value.cells, List.take_zero, List.take_succ_cons, List.take_nil, List.drop_zero, List.drop_succ_cons, List.drop_nil, List.length_cons, List.length_nil, List.cons_append, List.nil_append, List.append_nil, Nat.zero_add, Nat.add_zero, Nat.reduceAdd, Nat.reduceBEq, Nat.reduceEqDiff, Nat.ble, BEq.rfl, Bool.and_true, Bool.and_self, cond_true, beq_self_eq_true]; rfl)) ?_)
                  clear hh w; intro w hh
                  refine d_step (fun h => absurd h (by decide)) ?_
                  refine d_done (by kernel_rfl) ?_
                  try clear hM
                  have hl2 := hl.add (t := 0) (hl.nil) rfl; clear hl; have hl := hl2; clear hl2
                  have hmy : MdR Z { m with yf := upM m.yf d true } { g with ys := orB g.ys (sh1 q.d) } l := ⟨hm.dok, hm.d, hm.up, hm.qr, hm.qo, hm.qp, hm.r, by rw [hqd]; exact up_or (by omega) hm.ys, hm.dn, hm.tk, hm.au, hm.fl, hm.fu, hm.kp, hm.fb⟩
                  have hab := all_bits (orB_bd g.ys (sh1 q.d)) hmy.ys
                  refine then_normal ?_
                  refine c_seq ?_
                  refine c_seq ?_
                  refine c_region ?_
                  refine wl (wl_val hl rfl trivial (r_move hl rfl) ?_)
                  clear hl a; intro a hl
                  refine wl (wl_val hl rfl trivial (r_nilCheck hl rfl) ?_)
                  clear hl a; intro a hl
                  refine wl (wl_val hl rfl trivial (r_field hl rfl fld82_4) ?_)
                  clear hl a; intro a hl
                  refine wl (w_loadA hl hh rfl trivial agg80 rfl (by repeat (first | exact find_head | apply find_tail | apply find_skip)) (by first | exact mdc_ly _ | exact mdc_ld _) (by rfl) ?_)
                  clear hl a; intro a hl
                  refine wl (w_call hl hh rfl trivial rfl cal122 rfl (all_spec _) (by repeat (first | exact keeps_nil | apply keeps_cons (by repeat (first | exact find_head | apply find_tail | apply find_skip)) (by first  | rfl) | exact keeps_self | exact keeps_left | apply keeps_app | apply keeps_mv | apply keeps_skip)) trivial ?_)
                  clear hl hh a w; intro vc Fc a w hR hl hh
                  obtain ⟨rfl, rfl⟩ := hR
                  try simp only [List.cons_append, List.nil_append, List.append_assoc, List.append_nil] at hh
                  refine w_nil ?_
                  have hl2 := hl.add (t := 0) (hl.add (t := 70) (hl.nil) rfl) rfl; clear hl; have hl := hl2; clear hl2
                  refine then_normal ?_
                  refine c_cond hl rfl ?_ ?_
                  · intro hc4
                    try simp only [decide_eq_true_eq, decide_eq_false_iff_not, Bool.not_eq_true', Bool.not_eq_false', Bool.not_eq_true, Bool.not_eq_false, Bool.and_eq_true, Bool.or_eq_true, Bool.and_eq_false_iff, Bool.or_eq_false_iff, Bool.not_not, ne_eq, Int.not_lt, Int.not_le, Decidable.not_not, beq_iff_eq, bne_iff_ne] at hc4
                    have hf := dl_4y (l := l) hhd hk4 hqy (hab.1 hc4)
                    refine c_seq ?_
                    refine c_region ?_
                    refine wl (wl_val hl rfl trivial (r_move hl rfl) ?_)
                    clear hl a; intro a hl
                    refine wl (w_call hl hh rfl trivial rfl cal120 rfl (mdec_spec Z mb { m with yf := upM m.yf d true } { g with ys := orB g.ys (sh1 q.d) } l hmy hI.on hI.o hsd hdn true) (by repeat (first | exact keeps_nil | apply keeps_cons (by repeat (first | exact find_head | apply find_tail | apply find_skip)) (by first  | rfl) | exact keeps_self | exact keeps_left | apply keeps_app | apply keeps_mv | apply keeps_skip)) trivial ?_)
                    clear hl hh a w; intro vc Fc a w hR hl hh
                    try simp only [List.cons_append, List.nil_append, List.append_assoc, List.append_nil] at hh
                    refine wl (wl_val hl rfl trivial (r_assign hl rfl) ?_)
                    clear hl a; intro a hl
                    refine w_nil ?_
                    have hl2 := hl.add (t := 4) (hl.nil) rfl; clear hl; have hl := hl2; clear hl2
                    refine then_normal ?_
                    refine wp_ret ?_
                    refine then_ret ?_
                    refine then_ret ?_
                    refine f_ret1 (F' := Fc) hl hh rfl rfl (by repeat (first | exact keeps_nil | apply keeps_cons (by repeat (first | exact find_head | apply find_tail | apply find_skip)) (by first  | rfl) | exact keeps_self | exact keeps_left | apply keeps_app | apply keeps_mv | apply keeps_skip)) ?_
                    rw [hf]
                    exact hR
                  · intro hc4
                    try simp only [decide_eq_true_eq, decide_eq_false_iff_not, Bool.not_eq_true', Bool.not_eq_false', Bool.not_eq_true, Bool.not_eq_false, Bool.and_eq_true, Bool.or_eq_true, Bool.and_eq_false_iff, Bool.or_eq_false_iff, Bool.not_not, ne_eq, Int.not_lt, Int.not_le, Decidable.not_not, beq_iff_eq, bne_iff_ne] at hc4
                    have hf := dl_4w (l := l) hhd hk4 hqy (fun e => by rw [hab.2 e] at hc4; cases hc4)
                    refine wp_skip ?_
                    refine then_normal ?_
                    refine c_seq ?_
                    refine c_region ?_
                    refine wl (wl_val hl rfl trivial (r_assign hl rfl) ?_)
                    clear hl a; intro a hl
                    refine w_nil ?_
                    have hl2 := hl.add (t := 4) (hl.nil) rfl; clear hl; have hl := hl2; clear hl2
                    refine then_normal ?_
                    refine wp_ret ?_
                    refine then_ret ?_
                    refine f_ret1 (F' := (mb, C (MdV.c { m with yf := upM m.yf d true }) 82) :: (m.d.E ++ (m.qE ++ (m.rE ++ Z)))) hl hh rfl rfl (by repeat (first | exact keeps_nil | apply keeps_cons (by repeat (first | exact find_head | apply find_tail | apply find_skip)) (by first  | rfl) | exact keeps_self | exact keeps_left | apply keeps_app | apply keeps_mv | apply keeps_skip)) ?_
                    exact MdS.nil (by rw [hf]; exact hI.o) (MdO.same (m' := { m with yf := upM m.yf d true }) (by rw [hf]; exact hmy) rfl)
            · intro hc1
              try simp only [decide_eq_true_eq, decide_eq_false_iff_not, Bool.not_eq_true', Bool.not_eq_false', Bool.not_eq_true, Bool.not_eq_false, Bool.and_eq_true, Bool.or_eq_true, Bool.and_eq_false_iff, Bool.or_eq_false_iff, Bool.not_not, ne_eq, Int.not_lt, Int.not_le, Decidable.not_not, beq_iff_eq, bne_iff_ne] at hc1
              have hp23 : g.st.ph = 2 ∨ g.st.ph = 3 := by omega
              refine wp_skip ?_
              refine then_normal ?_
              refine c_seq ?_
              refine c_region ?_
              refine wl (wl_val hl rfl trivial (r_field hl rfl fld38_0) ?_)
              clear hl a; intro a hl
              refine wl (w_load hl hh rfl trivial one35 rfl (by repeat (first | exact find_head | apply find_tail | apply find_skip)) (by first | exact mdc_ep _ | exact mdc_a _ | exact mdc_n _ | exact mdc_i _ | exact mdc_ph _ | exact mdc_fid _ | exact mdc_vd _ | exact mdc_up _ | exact mdc_q _ | exact mdc_rf _ | exact mdc_tk _ | exact mdc_au _ | exact mdc_fl _ | exact mdc_fu _ | exact mdc_kp _ | exact duc_ep _ | exact duc_a _ | exact duc_n _ | exact duc_i _ | exact duc_ph _ | exact duc_fid _ | exact duc_vd _ | rfl) ?_)
              clear hl a; intro a hl
              refine wl (wl_val hl rfl trivial (r_eql hl rfl rfl) ?_)
              clear hl a; intro a hl
              refine wl (wl_val hl rfl trivial (r_assign hl rfl) ?_)
              clear hl a; intro a hl
              refine w_nil ?_
              have hl2 := hl.add (t := 0) (hl.add (t := 3) (hl.add (t := 5) (hl.nil) rfl) rfl) rfl; clear hl; have hl := hl2; clear hl2
              refine then_normal ?_
              refine c_seq ?_
              refine c_seq ?_
              refine c_region ?_
              refine wl (wl_val hl rfl trivial (r_move hl rfl) ?_)
              clear hl a; intro a hl
              refine wl (wl_val hl rfl trivial (r_nilCheck hl rfl) ?_)
              clear hl a; intro a hl
              refine wl (wl_val hl rfl trivial (r_field hl rfl fld82_7) ?_)
              clear hl a; intro a hl
              refine wl (w_load hl hh rfl trivial one4 rfl (by repeat (first | exact find_head | apply find_tail | apply find_skip)) (by first | exact mdc_ep _ | exact mdc_a _ | exact mdc_n _ | exact mdc_i _ | exact mdc_ph _ | exact mdc_fid _ | exact mdc_vd _ | exact mdc_up _ | exact mdc_q _ | exact mdc_rf _ | exact mdc_tk _ | exact mdc_au _ | exact mdc_fl _ | exact mdc_fu _ | exact mdc_kp _ | exact duc_ep _ | exact duc_a _ | exact duc_n _ | exact duc_i _ | exact duc_ph _ | exact duc_fid _ | exact duc_vd _ | rfl) ?_)
              clear hl a; intro a hl
              refine w_nil ?_
              have hl2 := hl.add (t := 0) (hl.add (t := 3) (hl.add (t := 5) (hl.add (t := 79) (hl.nil) rfl) rfl) rfl) rfl; clear hl; have hl := hl2; clear hl2
              refine then_normal ?_
              refine c_cond hl rfl ?_ ?_
              · intro hc5
                try simp only [decide_eq_true_eq, decide_eq_false_iff_not, Bool.not_eq_true', Bool.not_eq_false', Bool.not_eq_true, Bool.not_eq_false, Bool.and_eq_true, Bool.or_eq_true, Bool.and_eq_false_iff, Bool.or_eq_false_iff, Bool.not_not, ne_eq, Int.not_lt, Int.not_le, Decidable.not_not, beq_iff_eq, bne_iff_ne] at hc5
                refine c_seq ?_
                refine c_draw [(mb, C m.c 82), (k3, C [.int .u8 q.k, .int .u8 q.d, .int .u32 q.e, .int .u32 q.b, .bool q.y, .int .u32 q.r, .int .u32 q.s, .string q.t] 38)] [7, 8] mixed hh ?_
                clear hh w; intro w hh
                have hM : Mem [(mb, C m.c 82), (k3, C [.int .u8 q.k, .int .u8 q.d, .int .u32 q.e, .int .u32 q.b, .bool q.y, .int .u32 q.r, .int .u32 q.s, .string q.t] 38)] w := (memK hh (by repeat (first | exact keeps_nil | apply keeps_cons (by repeat (first | exact find_head | apply find_tail | apply find_skip)) (by first  | rfl) | exact keeps_self | exact keeps_left | apply keeps_app | apply keeps_mv | apply keeps_skip)))
                refine d_take (i := 0) hl rfl (by kernel_rfl) (by kernel_rfl) (by kernel_rfl) (by kernel_rfl) (by kernel_rfl) rfl trivial (fun _ _ _ h => h) hM (fun w hC => r_field hl rfl fld38_5) rfl ?_
                clear hl a; intro a hl
                refine d_take (i := 1) hl rfl (by kernel_rfl) (by kernel_rfl) (by kernel_rfl) (by kernel_rfl) (by kernel_rfl) rfl trivial (fun _ _ _ h => h) hM (fun w hC => r_loadC hl rfl one36 hC (by repeat (first | exact find_head | apply find_tail | apply find_skip)) (by first | exact mdc_ep _ | exact mdc_a _ | exact mdc_n _ | exact mdc_i _ | exact mdc_ph _ | exact mdc_fid _ | exact mdc_vd _ | exact mdc_up _ | exact mdc_q _ | exact mdc_rf _ | exact mdc_tk _ | exact mdc_au _ | exact mdc_fl _ | exact mdc_fu _ | exact mdc_kp _ | exact duc_ep _ | exact duc_a _ | exact duc_n _ | exact duc_i _ | exact duc_ph _ | exact duc_fid _ | exact duc_vd _ | rfl)) rfl ?_
                clear hl a; intro a hl
                refine d_take (i := 2) hl rfl (by kernel_rfl) (by kernel_rfl) (by kernel_rfl) (by kernel_rfl) (by kernel_rfl) rfl trivial (fun _ _ _ h => h) hM (fun w hC => r_move hl rfl) rfl ?_
                clear hl a; intro a hl
                refine d_take (i := 3) hl rfl (by kernel_rfl) (by kernel_rfl) (by kernel_rfl) (by kernel_rfl) (by kernel_rfl) rfl trivial (fun _ _ _ h => h) hM (fun w hC => r_nilCheck hl rfl) rfl ?_
                clear hl a; intro a hl
                refine d_take (i := 4) hl rfl (by kernel_rfl) (by kernel_rfl) (by kernel_rfl) (by kernel_rfl) (by kernel_rfl) rfl trivial (fun _ _ _ h => h) hM (fun w hC => r_field hl rfl fld82_0) rfl ?_
                clear hl a; intro a hl
                refine d_take (i := 5) hl rfl (by kernel_rfl) (by kernel_rfl) (by kernel_rfl) (by kernel_rfl) (by kernel_rfl) rfl trivial (fun _ _ _ h => h) hM (fun w hC => r_field hl rfl fld78_5) rfl ?_
                clear hl a; intro a hl
                refine d_take (i := 6) hl rfl (by kernel_rfl) (by kernel_rfl) (by kernel_rfl) (by kernel_rfl) (by kernel_rfl) rfl trivial (fun _ _ _ h => h) hM (fun w hC => r_loadC hl rfl one36 hC (by repeat (first | exact find_head | apply find_tail | apply find_skip)) (by first | exact mdc_ep _ | exact mdc_a _ | exact mdc_n _ | exact mdc_i _ | exact mdc_ph _ | exact mdc_fid _ | exact mdc_vd _ | exact mdc_up _ | exact mdc_q _ | exact mdc_rf _ | exact mdc_tk _ | exact mdc_au _ | exact mdc_fl _ | exact mdc_fu _ | exact mdc_kp _ | exact duc_ep _ | exact duc_a _ | exact duc_n _ | exact duc_i _ | exact duc_ph _ | exact duc_fid _ | exact duc_vd _ | rfl)) rfl ?_
                clear hl a; intro a hl
                refine d_takeL (i := 7) hl rfl (by kernel_rfl) (by kernel_rfl) (by kernel_rfl) (by kernel_rfl) (by kernel_rfl) rfl trivial (fun _ _ _ h => h) (fun w => r_eql hl rfl rfl) rfl ?_
                clear hl a; intro a hl
                refine d_takeL (i := 8) hl rfl (by kernel_rfl) (by kernel_rfl) (by kernel_rfl) (by kernel_rfl) (by kernel_rfl) rfl trivial (fun _ _ _ h => h) (fun w => r_assign hl rfl) rfl ?_
                clear hl a; intro a hl
                refine d_done (by kernel_rfl) ?_
                try clear hM
                have hl2 := hl.add (t := 0) (hl.add (t := 3) (hl.add (t := 6) (hl.nil) rfl) rfl) rfl; clear hl; have hl := hl2; clear hl2
                refine then_normal ?_
                refine c_region ?_
                refine wl (wl_val hl rfl trivial (r_field hl rfl fld38_0) ?_)
                clear hl a; intro a hl
                refine wl (w_load hl hh rfl trivial one35 rfl (by repeat (first | exact find_head | apply find_tail | apply find_skip)) (by first | exact mdc_ep _ | exact mdc_a _ | exact mdc_n _ | exact mdc_i _ | exact mdc_ph _ | exact mdc_fid _ | exact mdc_vd _ | exact mdc_up _ | exact mdc_q _ | exact mdc_rf _ | exact mdc_tk _ | exact mdc_au _ | exact mdc_fl _ | exact mdc_fu _ | exact mdc_kp _ | exact duc_ep _ | exact duc_a _ | exact duc_n _ | exact duc_i _ | exact duc_ph _ | exact duc_fid _ | exact duc_vd _ | rfl) ?_)
                clear hl a; intro a hl
                refine wl (wl_val hl rfl trivial (r_eql hl rfl rfl) ?_)
                clear hl a; intro a hl
                refine wl (wl_val hl rfl trivial (r_move hl rfl) ?_)
                clear hl a; intro a hl
                refine sl_split (t := 91) hl rfl ?_ ?_
                · intro hg5; clear hl; intro hl
                  try simp only [decide_eq_true_eq, decide_eq_false_iff_not, Bool.not_eq_true', Bool.not_eq_false', Bool.not_eq_true, Bool.not_eq_false, Bool.and_eq_true, Bool.or_eq_true, Bool.and_eq_false_iff, Bool.or_eq_false_iff, Bool.not_not, ne_eq, Int.not_lt, Int.not_le, Decidable.not_not, beq_iff_eq, bne_iff_ne] at hg5
                  refine wl (wl_val hl rfl ⟨_, _, rfl, rfl, rfl⟩ (r_field hl rfl fld38_6) ?_)
                  clear hl a; intro a hl
                  refine wl (w_load hl hh rfl ⟨_, _, rfl, rfl, rfl⟩ one36 rfl (by repeat (first | exact find_head | apply find_tail | apply find_skip)) (by first | exact mdc_ep _ | exact mdc_a _ | exact mdc_n _ | exact mdc_i _ | exact mdc_ph _ | exact mdc_fid _ | exact mdc_vd _ | exact mdc_up _ | exact mdc_q _ | exact mdc_rf _ | exact mdc_tk _ | exact mdc_au _ | exact mdc_fl _ | exact mdc_fu _ | exact mdc_kp _ | exact duc_ep _ | exact duc_a _ | exact duc_n _ | exact duc_i _ | exact duc_ph _ | exact duc_fid _ | exact duc_vd _ | rfl) ?_)
                  clear hl a; intro a hl
                  refine wl (wl_val hl rfl ⟨_, _, rfl, rfl, rfl⟩ (r_eql hl rfl rfl) ?_)
                  clear hl a; intro a hl
                  refine wl (wl_val hl rfl trivial (r_pickT hl rfl rfl) ?_)
                  clear hl a; intro a hl
                  refine wl (wl_val hl rfl trivial (r_move hl rfl) ?_)
                  clear hl a; intro a hl
                  refine sl_split (t := 96) hl rfl ?_ ?_
                  · intro hg6; clear hl; intro hl
                    try simp only [decide_eq_true_eq, decide_eq_false_iff_not, Bool.not_eq_true', Bool.not_eq_false', Bool.not_eq_true, Bool.not_eq_false, Bool.and_eq_true, Bool.or_eq_true, Bool.and_eq_false_iff, Bool.or_eq_false_iff, Bool.not_not, ne_eq, Int.not_lt, Int.not_le, Decidable.not_not, beq_iff_eq, bne_iff_ne] at hg6
                    refine wl (wl_val hl rfl ⟨_, _, rfl, rfl, rfl⟩ (r_move hl rfl) ?_)
                    clear hl a; intro a hl
                    refine wl (wl_val hl rfl ⟨_, _, rfl, rfl, rfl⟩ (r_move hl rfl) ?_)
                    clear hl a; intro a hl
                    refine wl (wl_val hl rfl ⟨_, _, rfl, rfl, rfl⟩ (r_nilCheck hl rfl) ?_)
                    clear hl a; intro a hl
                    refine wl (wl_val hl rfl ⟨_, _, rfl, rfl, rfl⟩ (r_field hl rfl fld82_0) ?_)
                    clear hl a; intro a hl
                    refine wl (wl_val hl rfl ⟨_, _, rfl, rfl, rfl⟩ (r_field hl rfl fld78_4) ?_)
                    clear hl a; intro a hl
                    refine wl (w_load hl hh rfl ⟨_, _, rfl, rfl, rfl⟩ one76 rfl (by repeat (first | exact find_head | apply find_tail | apply find_skip)) (by first | exact mdc_ep _ | exact mdc_a _ | exact mdc_n _ | exact mdc_i _ | exact mdc_ph _ | exact mdc_fid _ | exact mdc_vd _ | exact mdc_up _ | exact mdc_q _ | exact mdc_rf _ | exact mdc_tk _ | exact mdc_au _ | exact mdc_fl _ | exact mdc_fu _ | exact mdc_kp _ | exact duc_ep _ | exact duc_a _ | exact duc_n _ | exact duc_i _ | exact duc_ph _ | exact duc_fid _ | exact duc_vd _ | rfl) ?_)
                    clear hl a; intro a hl
                    refine wl (wl_val hl rfl ⟨_, _, rfl, rfl, rfl⟩ (r_eql hl rfl rfl) ?_)
                    clear hl a; intro a hl
                    refine wl (wl_val hl rfl ⟨_, _, rfl, rfl, rfl⟩ (r_eql_bool hl rfl rfl Tryz.underlying4) ?_)
                    clear hl a; intro a hl
                    refine wl (wl_val hl rfl trivial (r_pickT hl rfl rfl) ?_)
                    clear hl a; intro a hl
                    refine wl (wl_val hl rfl trivial (r_assign hl rfl) ?_)
                    clear hl a; intro a hl
                    refine w_nil ?_
                    have hl2 := hl.add (t := 0) (hl.add (t := 3) (hl.add (t := 5) (hl.nil) rfl) rfl) rfl; clear hl; have hl := hl2; clear hl2
                    refine then_normal ?_
                    refine c_seq ?_
                    refine c_seq ?_
                    refine c_region ?_
                    refine wl (wl_val hl rfl trivial (r_move hl rfl) ?_)
                    clear hl a; intro a hl
                    refine wl (wl_val hl rfl trivial (r_not hl rfl) ?_)
                    clear hl a; intro a hl
                    refine w_nil ?_
                    have hl2 := hl.add (t := 0) (hl.add (t := 3) (hl.add (t := 107) (hl.nil) rfl) rfl) rfl; clear hl; have hl := hl2; clear hl2
                    refine then_normal ?_
                    refine c_cond hl rfl ?_ ?_
                    · intro hc6
                      try simp only [decide_eq_true_eq, decide_eq_false_iff_not, Bool.not_eq_true', Bool.not_eq_false', Bool.not_eq_true, Bool.not_eq_false, Bool.and_eq_true, Bool.or_eq_true, Bool.and_eq_false_iff, Bool.or_eq_false_iff, Bool.not_not, ne_eq, Int.not_lt, Int.not_le, Decidable.not_not, beq_iff_eq, bne_iff_ne] at hc6
                      have hst5 : stl g q = false := by unfold stl; rw [← hm.au, ← hph, ← hfi]; simp_all
                      have hf := dl_sn (l := l) hhd hp23 hst5
                      refine c_seq ?_
                      refine c_region ?_
                      refine wl (wl_val hl rfl trivial (r_assign hl rfl) ?_)
                      clear hl a; intro a hl
                      refine w_nil ?_
                      have hl2 := hl.add (t := 4) (hl.nil) rfl; clear hl; have hl := hl2; clear hl2
                      refine then_normal ?_
                      refine wp_ret ?_
                      refine then_ret ?_
                      refine f_ret1 (F' := (mb, C (MdV.c m) 82) :: (m.d.E ++ (m.qE ++ (m.rE ++ Z)))) hl hh rfl rfl (by repeat (first | exact keeps_nil | apply keeps_cons (by repeat (first | exact find_head | apply find_tail | apply find_skip)) (by first  | rfl) | exact keeps_self | exact keeps_left | apply keeps_app | apply keeps_mv | apply keeps_skip)) ?_
                      exact MdS.nil (by rw [hf]; exact hI.o) (MdO.same (m' := m) (by rw [hf]; exact hm) rfl)
                    · intro hc6
                      try simp only [decide_eq_true_eq, decide_eq_false_iff_not, Bool.not_eq_true', Bool.not_eq_false', Bool.not_eq_true, Bool.not_eq_false, Bool.and_eq_true, Bool.or_eq_true, Bool.and_eq_false_iff, Bool.or_eq_false_iff, Bool.not_not, ne_eq, Int.not_lt, Int.not_le, Decidable.not_not, beq_iff_eq, bne_iff_ne] at hc6
                      have hst5 : stl g q = true := by unfold stl; rw [← hm.au, ← hph, ← hfi]; simp_all
                      refine wp_skip ?_
                      refine then_normal ?_
                      refine c_seq ?_
                      refine c_draw [(mb, C m.c 82), (k3, C [.int .u8 q.k, .int .u8 q.d, .int .u32 q.e, .int .u32 q.b, .bool q.y, .int .u32 q.r, .int .u32 q.s, .string q.t] 38)] [5, 6] mixed hh ?_
                      clear hh w; intro w hh
                      have hM : Mem [(mb, C m.c 82), (k3, C [.int .u8 q.k, .int .u8 q.d, .int .u32 q.e, .int .u32 q.b, .bool q.y, .int .u32 q.r, .int .u32 q.s, .string q.t] 38)] w := (memK hh (by repeat (first | exact keeps_nil | apply keeps_cons (by repeat (first | exact find_head | apply find_tail | apply find_skip)) (by first  | rfl) | exact keeps_self | exact keeps_left | apply keeps_app | apply keeps_mv | apply keeps_skip)))
                      refine d_take (i := 0) hl rfl (by kernel_rfl) (by kernel_rfl) (by kernel_rfl) (by kernel_rfl) (by kernel_rfl) rfl trivial (fun _ _ _ h => h) hM (fun w hC => r_move hl rfl) rfl ?_
                      clear hl a; intro a hl
                      refine d_take (i := 1) hl rfl (by kernel_rfl) (by kernel_rfl) (by kernel_rfl) (by kernel_rfl) (by kernel_rfl) rfl trivial (fun _ _ _ h => h) hM (fun w hC => r_field hl rfl fld38_1) rfl ?_
                      clear hl a; intro a hl
                      refine d_take (i := 2) hl rfl (by kernel_rfl) (by kernel_rfl) (by kernel_rfl) (by kernel_rfl) (by kernel_rfl) rfl trivial (fun _ _ _ h => h) hM (fun w hC => r_loadC hl rfl one5 hC (by repeat (first | exact find_head | apply find_tail | apply find_skip)) (by first | exact mdc_ep _ | exact mdc_a _ | exact mdc_n _ | exact mdc_i _ | exact mdc_ph _ | exact mdc_fid _ | exact mdc_vd _ | exact mdc_up _ | exact mdc_q _ | exact mdc_rf _ | exact mdc_tk _ | exact mdc_au _ | exact mdc_fl _ | exact mdc_fu _ | exact mdc_kp _ | exact duc_ep _ | exact duc_a _ | exact duc_n _ | exact duc_i _ | exact duc_ph _ | exact duc_fid _ | exact duc_vd _ | rfl)) rfl ?_
                      clear hl a; intro a hl
                      rw [hqd] at hl
                      refine d_take (i := 3) hl rfl (by kernel_rfl) (by kernel_rfl) (by kernel_rfl) (by kernel_rfl) (by kernel_rfl) rfl trivial (fun _ _ _ h => h) hM (fun w hC => r_nilCheck hl rfl) rfl ?_
                      clear hl a; intro a hl
                      refine d_take (i := 4) hl rfl (by kernel_rfl) (by kernel_rfl) (by kernel_rfl) (by kernel_rfl) (by kernel_rfl) rfl trivial (fun _ _ _ h => h) hM (fun w hC => r_field hl rfl fld82_5) rfl ?_
                      clear hl a; intro a hl
                      refine d_takeL (i := 5) hl rfl (by kernel_rfl) (by kernel_rfl) (by kernel_rfl) (by kernel_rfl) (by kernel_rfl) rfl trivial (fun _ _ _ h => h) (fun w => r_indexA hl rfl rfl arr80 (by omega) (by omega) (by first | (simp only [Int.reduceToNat]; rfl) | exact toNat_add1 _ | exact toNat_add2 _ _ | exact toNat_emod _ _ | exact Int.toNat_natCast _ | rfl)) rfl ?_
                      clear hl a; intro a hl
                      refine d_one (i := 6) (by kernel_rfl) rfl ?_
                      try clear hM
                      refine id (w_store hl hh trivial one4 rfl rfl (by repeat (first | exact find_head | apply find_tail | apply find_skip)) (by first | (simp; done) | (simp; omega) | (rw [mdc_len]; omega) | (rw [mdc_len]; simp; done) | (rw [duc_len]; omega) | (rw [duc_len]; simp; done)) (by first | rfl | assumption | (apply Row.one; assumption)) (by first | exact mdc_sup _ _ | exact mdc_stk _ _ | exact mdc_sau _ _ | exact mdc_sfl _ _ | exact mdc_sfu _ _ | exact mdc_skp _ _ | exact mdc_sy1 _ (by omega) _ | exact mdc_sd1 _ (by omega) _ | exact duc_sa _ _ (s1.vs ++ [⟨s1.fid, s1.fn⟩]) _ E2 | exact duc_sn _ _ (s1.ws ++ [⟨s1.fid, s1.fn⟩]) _ E3 | exact duc_sph _ _ | exact duc_sfid _ _ | (simp only [setL, List.getElem?_cons_zero, List.getElem?_cons_succ, Value.cells, List.take_zero, List.take_succ_cons, List.take_nil, List.drop_zero, List.drop_succ_cons, List.drop_nil, List.length_cons, List.length_nil, List.cons_append, List.nil_append, List.append_nil, Nat.zero_add, Nat.add_zero, Nat.reduceAdd, Nat.reduceBEq, Nat.reduceEqDiff, Nat.ble, BEq.rfl, Bool.and_true, Bool.and_self, cond_true, beq_self_eq_true]; rfl)) ?_)
                      clear hh w; intro w hh
                      refine d_step (fun h => absurd h (by decide)) ?_
                      refine d_done (by kernel_rfl) ?_
                      try clear hM
                      have hl2 := hl.add (t := 0) (hl.nil) rfl; clear hl; have hl := hl2; clear hl2
                      have hmd : MdR Z { m with df := upM m.df d true } { g with dn := orB g.dn (sh1 q.d) } l := ⟨hm.dok, hm.d, hm.up, hm.qr, hm.qo, hm.qp, hm.r, hm.ys, by rw [hqd]; exact up_or (by omega) hm.dn, hm.tk, hm.au, hm.fl, hm.fu, hm.kp, hm.fb⟩
                      have hab := all_bits (orB_bd g.dn (sh1 q.d)) hmd.dn
                      refine then_normal ?_
                      refine c_seq ?_
                      refine c_seq ?_
                      refine c_region ?_
                      refine wl (wl_val hl rfl trivial (r_move hl rfl) ?_)
                      clear hl a; intro a hl
                      refine wl (wl_val hl rfl trivial (r_nilCheck hl rfl) ?_)
                      clear hl a; intro a hl
                      refine wl (wl_val hl rfl trivial (r_field hl rfl fld82_5) ?_)
                      clear hl a; intro a hl
                      refine wl (w_loadA hl hh rfl trivial agg80 rfl (by repeat (first | exact find_head | apply find_tail | apply find_skip)) (by first | exact mdc_ly _ | exact mdc_ld _) (by rfl) ?_)
                      clear hl a; intro a hl
                      refine wl (w_call hl hh rfl trivial rfl cal122 rfl (all_spec _) (by repeat (first | exact keeps_nil | apply keeps_cons (by repeat (first | exact find_head | apply find_tail | apply find_skip)) (by first  | rfl) | exact keeps_self | exact keeps_left | apply keeps_app | apply keeps_mv | apply keeps_skip)) trivial ?_)
                      clear hl hh a w; intro vc Fc a w hR hl hh
                      obtain ⟨rfl, rfl⟩ := hR
                      try simp only [List.cons_append, List.nil_append, List.append_assoc, List.append_nil] at hh
                      refine wl (wl_val hl rfl trivial (r_not hl rfl) ?_)
                      clear hl a; intro a hl
                      refine w_nil ?_
                      have hl2 := hl.add (t := 0) (hl.add (t := 119) (hl.nil) rfl) rfl; clear hl; have hl := hl2; clear hl2
                      refine then_normal ?_
                      refine c_cond hl rfl ?_ ?_
                      · intro hc7
                        try simp only [decide_eq_true_eq, decide_eq_false_iff_not, Bool.not_eq_true', Bool.not_eq_false', Bool.not_eq_true, Bool.not_eq_false, Bool.and_eq_true, Bool.or_eq_true, Bool.and_eq_false_iff, Bool.or_eq_false_iff, Bool.not_not, ne_eq, Int.not_lt, Int.not_le, Decidable.not_not, beq_iff_eq, bne_iff_ne] at hc7
                        have hf := (dl_sy (l := l) hhd hp23 hst5).trans (cn_n (fun e => by rw [hab.2 e] at hc7; cases hc7))
                        refine c_seq ?_
                        refine c_region ?_
                        refine wl (wl_val hl rfl trivial (r_assign hl rfl) ?_)
                        clear hl a; intro a hl
                        refine w_nil ?_
                        have hl2 := hl.add (t := 4) (hl.nil) rfl; clear hl; have hl := hl2; clear hl2
                        refine then_normal ?_
                        refine wp_ret ?_
                        refine then_ret ?_
                        refine f_ret1 (F' := (mb, C (MdV.c { m with df := upM m.df d true }) 82) :: (m.d.E ++ (m.qE ++ (m.rE ++ Z)))) hl hh rfl rfl (by repeat (first | exact keeps_nil | apply keeps_cons (by repeat (first | exact find_head | apply find_tail | apply find_skip)) (by first  | rfl) | exact keeps_self | exact keeps_left | apply keeps_app | apply keeps_mv | apply keeps_skip)) ?_
                        exact MdS.nil (by rw [hf]; exact hI.o) (MdO.same (m' := { m with df := upM m.df d true }) (by rw [hf]; exact hmd) rfl)
                      · intro hc7
                        try simp only [decide_eq_true_eq, decide_eq_false_iff_not, Bool.not_eq_true', Bool.not_eq_false', Bool.not_eq_true, Bool.not_eq_false, Bool.and_eq_true, Bool.or_eq_true, Bool.and_eq_false_iff, Bool.or_eq_false_iff, Bool.not_not, ne_eq, Int.not_lt, Int.not_le, Decidable.not_not, beq_iff_eq, bne_iff_ne] at hc7
                        have hall := hab.1 hc7
                        refine wp_skip ?_
                        refine then_normal ?_
                        refine c_seq ?_
                        refine c_region ?_
                        refine wl (wl_val hl rfl trivial (r_move hl rfl) ?_)
                        clear hl a; intro a hl
                        refine wl (wl_val hl rfl trivial (r_nilCheck hl rfl) ?_)
                        clear hl a; intro a hl
                        refine wl (wl_val hl rfl trivial (r_field hl rfl fld82_0) ?_)
                        clear hl a; intro a hl
                        refine wl (w_loadA hl hh rfl trivial agg78 rfl (by repeat (first | exact find_head | apply find_tail | apply find_skip)) (by first | exact duc_all _ | exact mdc_d _) (by exact duc_len _) ?_)
                        clear hl a; intro a hl
                        refine wl (w_call hl hh rfl trivial rfl cal115 rfl (copy_spec Z m.d hm.dok) (by repeat (first | exact keeps_nil | apply keeps_cons (by repeat (first | exact find_head | apply find_tail | apply find_skip)) (by first  | rfl) | exact keeps_self | exact keeps_left | apply keeps_app | apply keeps_mv | apply keeps_skip)) trivial ?_)
                        clear hl hh a w; intro vc Fc a w hR hl hh
                        obtain ⟨s1, hs1, hps1, rfl, rfl⟩ := hR
                        try simp only [List.cons_append, List.nil_append, List.append_assoc, List.append_nil] at hh
                        rw [DuV.E_eq s1] at hh
                        try simp only [List.append_assoc, List.cons_append, List.nil_append] at hh
                        have hs9 : s1.pl = g.st := hps1.trans hst
                        have hph1 : s1.ph = g.st.ph := congrArg StP.ph hs9
                        have hvl1 : s1.vs.length < 70000000000 := by have h9 := congrArg (fun q => q.vs.length) hs9; simp only [DuV.pl, List.length_map] at h9; omega
                        have hwl1 : s1.ws.length < 70000000000 := by rw [hs1.e]; exact hvl1
                        refine wl (w_alloc hl hh rfl trivial zero78 rfl ?_)
                        clear hl hh a w; intro k7 a w hl hh
                        refine wl (w_storeA hl hh trivial agg78 rfl rfl (by repeat (first | exact find_head | apply find_tail | apply find_skip)) (by exact duc_len _) (by first | exact Nat.le_refl 71 | (rw [mdc_len]; omega)) (by exact duc_one _) (by first | exact setL_all (show 71 = _ from (duc_len _).symm) | exact mdc_sd _ _) ?_)
                        clear hh w; intro w hh
                        refine w_nil ?_
                        have hl2 := hl.add (t := 0) (hl.add (t := 7) (hl.nil) rfl) rfl; clear hl; have hl := hl2; clear hl2
                        refine then_normal ?_
                        refine c_seq ?_
                        refine c_seq ?_
                        refine c_region ?_
                        refine wl (wl_val hl rfl trivial (r_field hl rfl fld78_4) ?_)
                        clear hl a; intro a hl
                        refine wl (w_load hl hh rfl trivial one76 rfl (by repeat (first | exact find_head | apply find_tail | apply find_skip)) (by first | exact mdc_ep _ | exact mdc_a _ | exact mdc_n _ | exact mdc_i _ | exact mdc_ph _ | exact mdc_fid _ | exact mdc_vd _ | exact mdc_up _ | exact mdc_q _ | exact mdc_rf _ | exact mdc_tk _ | exact mdc_au _ | exact mdc_fl _ | exact mdc_fu _ | exact mdc_kp _ | exact duc_ep _ | exact duc_a _ | exact duc_n _ | exact duc_i _ | exact duc_ph _ | exact duc_fid _ | exact duc_vd _ | rfl) ?_)
                        clear hl a; intro a hl
                        refine wl (wl_val hl rfl trivial (r_eql hl rfl rfl) ?_)
                        clear hl a; intro a hl
                        refine w_nil ?_
                        have hl2 := hl.add (t := 0) (hl.add (t := 7) (hl.add (t := 127) (hl.nil) rfl) rfl) rfl; clear hl; have hl := hl2; clear hl2
                        refine then_normal ?_
                        refine c_cond hl rfl ?_ ?_
                        · intro hc8
                          try simp only [decide_eq_true_eq, decide_eq_false_iff_not, Bool.not_eq_true', Bool.not_eq_false', Bool.not_eq_true, Bool.not_eq_false, Bool.and_eq_true, Bool.or_eq_true, Bool.and_eq_false_iff, Bool.or_eq_false_iff, Bool.not_not, ne_eq, Int.not_lt, Int.not_le, Decidable.not_not, beq_iff_eq, bne_iff_ne] at hc8
                          refine c_seq ?_
                          refine c_region ?_
                          refine wl (wl_val hl rfl trivial (r_field hl rfl fld78_1) ?_)
                          clear hl a; intro a hl
                          refine wl (w_load hl hh rfl trivial one72 rfl (by repeat (first | exact find_head | apply find_tail | apply find_skip)) (by first | exact mdc_ep _ | exact mdc_a _ | exact mdc_n _ | exact mdc_i _ | exact mdc_ph _ | exact mdc_fid _ | exact mdc_vd _ | exact mdc_up _ | exact mdc_q _ | exact mdc_rf _ | exact mdc_tk _ | exact mdc_au _ | exact mdc_fl _ | exact mdc_fu _ | exact mdc_kp _ | exact duc_ep _ | exact duc_a _ | exact duc_n _ | exact duc_i _ | exact duc_ph _ | exact duc_fid _ | exact duc_vd _ | rfl) ?_)
                          clear hl a; intro a hl
                          refine wl (wl_val hl rfl trivial (r_field hl rfl fld78_5) ?_)
                          clear hl a; intro a hl
                          refine wl (w_load hl hh rfl trivial one36 rfl (by repeat (first | exact find_head | apply find_tail | apply find_skip)) (by first | exact mdc_ep _ | exact mdc_a _ | exact mdc_n _ | exact mdc_i _ | exact mdc_ph _ | exact mdc_fid _ | exact mdc_vd _ | exact mdc_up _ | exact mdc_q _ | exact mdc_rf _ | exact mdc_tk _ | exact mdc_au _ | exact mdc_fl _ | exact mdc_fu _ | exact mdc_kp _ | exact duc_ep _ | exact duc_a _ | exact duc_n _ | exact duc_i _ | exact duc_ph _ | exact duc_fid _ | exact duc_vd _ | rfl) ?_)
                          clear hl a; intro a hl
                          refine wl (w_buildSlice hl hh rfl trivial app72 zero36 rfl rfl rfl rfl rfl (by simp only [fillL, arrPl, List.range_succ, List.range_zero, List.map_cons, List.map_nil, List.map_append, List.nil_append, List.replicate_succ, List.replicate_zero, List.flatten_cons, List.flatten_nil, Nat.zero_mul, Nat.mul_one, Nat.one_mul, Nat.reduceMul, setL, List.getElem?_cons_zero, List.getElem?_cons_succ, Value.cells, List.take_zero, List.take_succ_cons, List.take_nil, List.drop_zero, List.drop_succ_cons, List.drop_nil, List.length_cons, List.length_nil, List.cons_append, List.nil_append, List.append_nil, Nat.zero_add, Nat.add_zero, Nat.reduceAdd, Nat.reduceBEq, Nat.reduceEqDiff, Nat.ble, BEq.rfl, Bool.and_true, Bool.and_self, cond_true, beq_self_eq_true]; rfl) ?_)
                          clear hl hh a w; intro k132 a w hl hh
                          refine wl (w_append (news := (idc (⟨s1.fid, s1.fn⟩ : Vr))) hl hh rfl trivial app72 rfl rfl rfl hs1.a (by repeat (first | exact keeps_nil | apply keeps_cons (by repeat (first | exact find_head | apply find_tail | apply find_skip)) (by first  | rfl) | exact keeps_self | exact keeps_left | apply keeps_app | apply keeps_mv | apply keeps_skip)) (hh.mem _ _ (Find.mem (by repeat (first | exact find_head | apply find_tail | apply find_skip)))) rfl rfl (idc_one _) (by omega) (by omega) (by omega) (by decide) ?_)
                          clear hl hh a w; intro rv2 E2 a w hR2 hl hh
                          have hh3 := hh.comm; clear hh; have hh := hh3; clear hh3
                          try simp only [List.cons_append, List.nil_append, List.append_assoc, List.append_nil] at hh
                          obtain ⟨p6, c6, hv6⟩ := row_val hR2
                          rw [hv6] at hl hR2
                          rw [show s1.vs.length + 1 = (s1.vs ++ [(⟨s1.fid, s1.fn⟩ : Vr)]).length by simp] at hl hR2
                          rw [show fl idc s1.vs ++ idc (⟨s1.fid, s1.fn⟩ : Vr) = fl idc (s1.vs ++ [⟨s1.fid, s1.fn⟩]) by rw [fl_app, fl_sing]] at hR2
                          refine wl (wl_val hl rfl trivial (r_field hl rfl fld78_1) ?_)
                          clear hl a; intro a hl
                          refine wl (w_store hl hh trivial one72 rfl rfl (by repeat (first | exact find_head | apply find_tail | apply find_skip)) (by first | (simp; done) | (simp; omega) | (rw [mdc_len]; omega) | (rw [mdc_len]; simp; done) | (rw [duc_len]; omega) | (rw [duc_len]; simp; done)) (by first | rfl | assumption | (apply Row.one; assumption)) (by first | exact mdc_sup _ _ | exact mdc_stk _ _ | exact mdc_sau _ _ | exact mdc_sfl _ _ | exact mdc_sfu _ _ | exact mdc_skp _ _ | exact mdc_sy1 _ (by omega) _ | exact mdc_sd1 _ (by omega) _ | exact duc_sa _ _ (s1.vs ++ [⟨s1.fid, s1.fn⟩]) _ E2 | exact duc_sn _ _ (s1.ws ++ [⟨s1.fid, s1.fn⟩]) _ E3 | exact duc_sph _ _ | exact duc_sfid _ _ | (simp only [setL, List.getElem?_cons_zero, List.getElem?_cons_succ, Value.cells, List.take_zero, List.take_succ_cons, List.take_nil, List.drop_zero, List.drop_succ_cons, List.drop_nil, List.length_cons, List.length_nil, List.cons_append, List.nil_append, List.append_nil, Nat.zero_add, Nat.add_zero, Nat.reduceAdd, Nat.reduceBEq, Nat.reduceEqDiff, Nat.ble, BEq.rfl, Bool.and_true, Bool.and_self, cond_true, beq_self_eq_true]; rfl)) ?_)
                          clear hh w; intro w hh
                          refine w_nil ?_
                          have hl2 := hl.add (t := 0) (hl.add (t := 7) (hl.nil) rfl) rfl; clear hl; have hl := hl2; clear hl2
                          refine then_normal ?_
                          refine c_region ?_
                          refine wl (wl_val hl rfl trivial (r_field hl rfl fld78_2) ?_)
                          clear hl a; intro a hl
                          refine wl (w_load hl hh rfl trivial one73 rfl (by repeat (first | exact find_head | apply find_tail | apply find_skip)) (by first | exact mdc_ep _ | exact mdc_a _ | exact mdc_n _ | exact mdc_i _ | exact mdc_ph _ | exact mdc_fid _ | exact mdc_vd _ | exact mdc_up _ | exact mdc_q _ | exact mdc_rf _ | exact mdc_tk _ | exact mdc_au _ | exact mdc_fl _ | exact mdc_fu _ | exact mdc_kp _ | exact duc_ep _ | exact duc_a _ | exact duc_n _ | exact duc_i _ | exact duc_ph _ | exact duc_fid _ | exact duc_vd _ | rfl) ?_)
                          clear hl a; intro a hl
                          refine wl (wl_val hl rfl trivial (r_field hl rfl fld78_6) ?_)
                          clear hl a; intro a hl
                          refine wl (w_loadA hl hh rfl trivial agg66 rfl (by repeat (first | exact find_head | apply find_tail | apply find_skip)) (by exact duc_nx _) (by exact ntk_len _) ?_)
                          clear hl a; intro a hl
                          refine wl (w_buildSlice hl hh rfl trivial app73 zero66 rfl rfl rfl rfl rfl (fill1 rfl (ntk_len _)) ?_)
                          clear hl hh a w; intro k139 a w hl hh
                          refine wl (w_append (news := (ntc (⟨s1.fid, s1.fn⟩ : Vr))) hl hh rfl trivial app73 rfl rfl rfl hs1.n (by repeat (first | exact keeps_nil | apply keeps_cons (by repeat (first | exact find_head | apply find_tail | apply find_skip)) (by first  | rfl) | exact keeps_self | exact keeps_left | apply keeps_app | apply keeps_mv | apply keeps_skip)) (hh.mem _ _ (Find.mem (by repeat (first | exact find_head | apply find_tail | apply find_skip)))) (by rw [List.drop_zero]; exact List.take_length) (ntc_len _) (ntc_one _) (by omega) (by omega) (by omega) (by decide) ?_)
                          clear hl hh a w; intro rv3 E3 a w hR3 hl hh
                          have hh3 := hh.comm; clear hh; have hh := hh3; clear hh3
                          try simp only [List.cons_append, List.nil_append, List.append_assoc, List.append_nil] at hh
                          obtain ⟨p7, c7, hv7⟩ := row_val hR3
                          rw [hv7] at hl hR3
                          rw [show s1.ws.length + 1 = (s1.ws ++ [(⟨s1.fid, s1.fn⟩ : Vr)]).length by simp] at hl hR3
                          rw [show fl ntc s1.ws ++ ntc (⟨s1.fid, s1.fn⟩ : Vr) = fl ntc (s1.ws ++ [⟨s1.fid, s1.fn⟩]) by rw [fl_app, fl_sing]] at hR3
                          refine wl (wl_val hl rfl trivial (r_field hl rfl fld78_2) ?_)
                          clear hl a; intro a hl
                          refine wl (w_store hl hh trivial one73 rfl rfl (by repeat (first | exact find_head | apply find_tail | apply find_skip)) (by first | (simp; done) | (simp; omega) | (rw [mdc_len]; omega) | (rw [mdc_len]; simp; done) | (rw [duc_len]; omega) | (rw [duc_len]; simp; done)) (by first | rfl | assumption | (apply Row.one; assumption)) (by first | exact mdc_sup _ _ | exact mdc_stk _ _ | exact mdc_sau _ _ | exact mdc_sfl _ _ | exact mdc_sfu _ _ | exact mdc_skp _ _ | exact mdc_sy1 _ (by omega) _ | exact mdc_sd1 _ (by omega) _ | exact duc_sa _ _ (s1.vs ++ [⟨s1.fid, s1.fn⟩]) _ E2 | exact duc_sn _ _ (s1.ws ++ [⟨s1.fid, s1.fn⟩]) _ E3 | exact duc_sph _ _ | exact duc_sfid _ _ | (simp only [setL, List.getElem?_cons_zero, List.getElem?_cons_succ, Value.cells, List.take_zero, List.take_succ_cons, List.take_nil, List.drop_zero, List.drop_succ_cons, List.drop_nil, List.length_cons, List.length_nil, List.cons_append, List.nil_append, List.append_nil, Nat.zero_add, Nat.add_zero, Nat.reduceAdd, Nat.reduceBEq, Nat.reduceEqDiff, Nat.ble, BEq.rfl, Bool.and_true, Bool.and_self, cond_true, beq_self_eq_true]; rfl)) ?_)
                          clear hh w; intro w hh
                          refine w_nil ?_
                          have hl2 := hl.add (t := 0) (hl.add (t := 7) (hl.nil) rfl) rfl; clear hl; have hl := hl2; clear hl2
                          obtain ⟨sv, A9, B9, hsv, hA9, hB9⟩ : ∃ (sv : DuV) (A9 B9 : List (Nat × Obj)), sv = { s1 with vs := s1.vs ++ [⟨s1.fid, s1.fn⟩], ap := p6, ac := c6, aE := E2, ws := s1.ws ++ [⟨s1.fid, s1.fn⟩], np := p7, nc := c7, nE := E3 } ∧ A9 = E2 ∧ B9 = E3 := ⟨_, _, _, rfl, rfl, rfl⟩
                          rw [show DuV.c { s1 with vs := s1.vs ++ [⟨s1.fid, s1.fn⟩], ap := p6, ac := c6, aE := E2, ws := s1.ws ++ [⟨s1.fid, s1.fn⟩], np := p7, nc := c7, nE := E3 } = sv.c by rw [hsv], ← hA9, ← hB9] at hh
                          have hsvE : sv.aE = A9 ∧ sv.nE = B9 ∧ sv.iE = s1.iE ∧ sv.vb = s1.vb ∧ sv.vd = s1.vd := by rw [hsv, hA9, hB9]; exact ⟨rfl, rfl, rfl, rfl, rfl⟩
                          have hsvo : sv.ok Z := by rw [hsv]; exact du_clsok hs1 hvl1 hR2 hR3
                          have hso : DuV.ok Z { sv with ph := 0, fid := 0, fn := nt0 } := du_fliok hsvo (by omega) (by omega) (nt0_ok Z)
                          have hpl : DuV.pl { sv with ph := 0, fid := 0, fn := nt0 } = clsP g.st := by rw [hsv]; exact du_cls2 hs9 hc8 _ _ _ _ _ _ _
                          refine then_normal ?_
                          refine c_seq ?_
                          refine c_region ?_
                          refine wl (wl_val hl rfl trivial (r_build (cs := nt0.k) hl rfl zero66 bld66 (by rw [← nk0z]; rfl)) ?_)
                          clear hl a; intro a hl
                          refine wl (wl_val hl rfl trivial (r_field hl rfl fld78_4) ?_)
                          clear hl a; intro a hl
                          refine wl (w_store hl hh trivial one76 rfl rfl (by repeat (first | exact find_head | apply find_tail | apply find_skip)) (by first | (simp; done) | (simp; omega) | (rw [mdc_len]; omega) | (rw [mdc_len]; simp; done) | (rw [duc_len]; omega) | (rw [duc_len]; simp; done)) (by first | rfl | assumption | (apply Row.one; assumption)) (by first | exact mdc_sup _ _ | exact mdc_stk _ _ | exact mdc_sau _ _ | exact mdc_sfl _ _ | exact mdc_sfu _ _ | exact mdc_skp _ _ | exact mdc_sy1 _ (by omega) _ | exact mdc_sd1 _ (by omega) _ | exact duc_sa _ _ (s1.vs ++ [⟨s1.fid, s1.fn⟩]) _ E2 | exact duc_sn _ _ (s1.ws ++ [⟨s1.fid, s1.fn⟩]) _ E3 | exact duc_sph _ _ | exact duc_sfid _ _ | (simp only [setL, List.getElem?_cons_zero, List.getElem?_cons_succ, Value.cells, List.take_zero, List.take_succ_cons, List.take_nil, List.drop_zero, List.drop_succ_cons, List.drop_nil, List.length_cons, List.length_nil, List.cons_append, List.nil_append, List.append_nil, Nat.zero_add, Nat.add_zero, Nat.reduceAdd, Nat.reduceBEq, Nat.reduceEqDiff, Nat.ble, BEq.rfl, Bool.and_true, Bool.and_self, cond_true, beq_self_eq_true]; rfl)) ?_)
                          clear hh w; intro w hh
                          refine wl (wl_val hl rfl trivial (r_field hl rfl fld78_5) ?_)
                          clear hl a; intro a hl
                          refine wl (w_store hl hh trivial one36 rfl rfl (by repeat (first | exact find_head | apply find_tail | apply find_skip)) (by first | (simp; done) | (simp; omega) | (rw [mdc_len]; omega) | (rw [mdc_len]; simp; done) | (rw [duc_len]; omega) | (rw [duc_len]; simp; done)) (by first | rfl | assumption | (apply Row.one; assumption)) (by first | exact mdc_sup _ _ | exact mdc_stk _ _ | exact mdc_sau _ _ | exact mdc_sfl _ _ | exact mdc_sfu _ _ | exact mdc_skp _ _ | exact mdc_sy1 _ (by omega) _ | exact mdc_sd1 _ (by omega) _ | exact duc_sa _ _ (s1.vs ++ [⟨s1.fid, s1.fn⟩]) _ E2 | exact duc_sn _ _ (s1.ws ++ [⟨s1.fid, s1.fn⟩]) _ E3 | exact duc_sph _ _ | exact duc_sfid _ _ | (simp only [setL, List.getElem?_cons_zero, List.getElem?_cons_succ, Value.cells, List.take_zero, List.take_succ_cons, List.take_nil, List.drop_zero, List.drop_succ_cons, List.drop_nil, List.length_cons, List.length_nil, List.cons_append, List.nil_append, List.append_nil, Nat.zero_add, Nat.add_zero, Nat.reduceAdd, Nat.reduceBEq, Nat.reduceEqDiff, Nat.ble, BEq.rfl, Bool.and_true, Bool.and_self, cond_true, beq_self_eq_true]; rfl)) ?_)
                          clear hh w; intro w hh
                          refine wl (wl_val hl rfl trivial (r_field hl rfl fld78_6) ?_)
                          clear hl a; intro a hl
                          refine wl (w_storeA hl hh trivial agg66 rfl rfl (by repeat (first | exact find_head | apply find_tail | apply find_skip)) (by exact ntk_len _) (by first | exact Nat.le_refl 64 | (rw [duc_len]; omega)) (by exact ntk_one _) (by first | exact duc_sfn _ _ | exact setL_all (show 64 = _ from (ntk_len _).symm)) ?_)
                          clear hh w; intro w hh
                          refine w_nil ?_
                          have hl2 := hl.add (t := 0) (hl.add (t := 7) (hl.nil) rfl) rfl; clear hl; have hl := hl2; clear hl2
                          refine then_normal ?_
                          refine c_seq ?_
                          refine c_seq ?_
                          refine c_region ?_
                          refine wl (wl_val hl rfl trivial (r_move hl rfl) ?_)
                          clear hl a; intro a hl
                          refine wl (w_loadA hl hh rfl trivial agg78 rfl (by repeat (first | exact find_head | apply find_tail | apply find_skip)) (by first | exact duc_all _ | exact mdc_d _) (by exact duc_len _) ?_)
                          clear hl a; intro a hl
                          refine wl (w_call hl hh rfl trivial rfl cal116 rfl (write3 mb { m with df := upM m.df d true } { sv with ph := 0, fid := 0, fn := nt0 } l hdn hm.fl hm.fu hm.kp hm.d hm.fb) (by repeat (first | exact keeps_nil | apply keeps_cons (by repeat (first | exact find_head | apply find_tail | apply find_skip)) (by first  | rfl) | exact keeps_self | exact keeps_left | apply keeps_app | apply keeps_mv | apply keeps_skip)) trivial ?_)
                          clear hl hh a w; intro vc Fc a w hR hl hh
                          rcases hR with ⟨f, hr, hf, rfl, rfl⟩ | ⟨hr, rfl, rfl⟩ | ⟨hr, rfl, rfl⟩
                          ·
                            try simp only [List.cons_append, List.nil_append, List.append_nil] at hh
                            try simp only [List.append_assoc, List.cons_append, List.nil_append] at hh
                            refine wl (wl_val hl rfl trivial (r_eql hl rfl rfl) ?_)
                            clear hl a; intro a hl
                            refine w_nil ?_
                            have hl2 := hl.add (t := 0) (hl.add (t := 149) (hl.nil) rfl) rfl; clear hl; have hl := hl2; clear hl2
                            refine then_normal ?_
                            refine c_condT hl rfl ?_
                            refine c_region ?_
                            refine wl (wl_val hl rfl trivial (r_move hl rfl) ?_)
                            clear hl a; intro a hl
                            refine wl (wl_val hl rfl trivial (r_nilCheck hl rfl) ?_)
                            clear hl a; intro a hl
                            refine wl (wl_val hl rfl trivial (r_field hl rfl fld82_7) ?_)
                            clear hl a; intro a hl
                            refine wl (w_store hl hh trivial one4 rfl rfl (by repeat (first | exact find_head | apply find_tail | apply find_skip)) (by first | (simp; done) | (simp; omega) | (rw [mdc_len]; omega) | (rw [mdc_len]; simp; done) | (rw [duc_len]; omega) | (rw [duc_len]; simp; done)) (by first | rfl | assumption | (apply Row.one; assumption)) (by first | exact mdc_sup _ _ | exact mdc_stk _ _ | exact mdc_sau _ _ | exact mdc_sfl _ _ | exact mdc_sfu _ _ | exact mdc_skp _ _ | exact mdc_sy1 _ (by omega) _ | exact mdc_sd1 _ (by omega) _ | exact duc_sa _ _ (s1.vs ++ [⟨s1.fid, s1.fn⟩]) _ E2 | exact duc_sn _ _ (s1.ws ++ [⟨s1.fid, s1.fn⟩]) _ E3 | exact duc_sph _ _ | exact duc_sfid _ _ | (simp only [setL, List.getElem?_cons_zero, List.getElem?_cons_succ, Value.cells, List.take_zero, List.take_succ_cons, List.take_nil, List.drop_zero, List.drop_succ_cons, List.drop_nil, List.length_cons, List.length_nil, List.cons_append, List.nil_append, List.append_nil, Nat.zero_add, Nat.add_zero, Nat.reduceAdd, Nat.reduceBEq, Nat.reduceEqDiff, Nat.ble, BEq.rfl, Bool.and_true, Bool.and_self, cond_true, beq_self_eq_true]; rfl)) ?_)
                            clear hh w; intro w hh
                            refine w_nil ?_
                            have hl2 := hl.nil; clear hl; have hl := hl2; clear hl2
                            refine then_normal ?_
                            refine c_seq ?_
                            refine c_region ?_
                            refine wl (wl_val hl rfl trivial (r_assign hl rfl) ?_)
                            clear hl a; intro a hl
                            refine w_nil ?_
                            have hl2 := hl.add (t := 4) (hl.nil) rfl; clear hl; have hl := hl2; clear hl2
                            refine then_normal ?_
                            refine wp_ret ?_
                            first
                            | (have hfe := (dl_sy (l := l) hhd hp23 hst5).trans (cn_0 hall hpl (by rw [hr])); rw [hr] at hfe; refine f_ret1 (F' := (mb, C (MdV.c { m with df := upM m.df d true, d := { sv with ph := 0, fid := 0, fn := nt0 }, fu := f, au := false }) 82) :: ((A9 ++ (B9 ++ (s1.iE ++ [(s1.vb, MO (kInt .u32) s1.vd)]))) ++ (m.qE ++ (m.rE ++ Z)))) hl hh rfl rfl (by repeat (first | exact keeps_nil | apply keeps_cons (by repeat (first | exact find_head | apply find_tail | apply find_skip)) (by first  | rfl) | exact keeps_self | exact keeps_left | apply keeps_app | apply keeps_mv | apply keeps_skip)) ?_; exact MdS.nil (by rw [hfe]; first | exact hI.o | rfl) (MdO.same (m' := { m with df := upM m.df d true, d := { sv with ph := 0, fid := 0, fn := nt0 }, fu := f, au := false }) (by rw [hfe]; exact ⟨hso, rfl, hm.up, hm.qr, hm.qo, hm.qp, hm.r, hm.ys, hmd.dn, hm.tk, rfl, hm.fl, rfl, hm.kp, hf⟩) (by unfold MF; rw [DuV.E_eq]; simp only [hsvE, List.append_assoc, List.cons_append, List.nil_append])))
                            | (have hfe := (dl_sy (l := l) hhd hp23 hst5).trans (cn_2 hall hpl (by rw [hr]; exact Nat.succ_ne_zero 1)); rw [hr] at hfe; refine f_ret1 (F' := (mb, C (MdV.c { m with df := upM m.df d true, d := { sv with ph := 0, fid := 0, fn := nt0 }, fu := 0, up := false }) 82) :: ((A9 ++ (B9 ++ (s1.iE ++ [(s1.vb, MO (kInt .u32) s1.vd)]))) ++ (m.qE ++ (m.rE ++ Z)))) hl hh rfl rfl (by repeat (first | exact keeps_nil | apply keeps_cons (by repeat (first | exact find_head | apply find_tail | apply find_skip)) (by first  | rfl) | exact keeps_self | exact keeps_left | apply keeps_app | apply keeps_mv | apply keeps_skip)) ?_; exact MdS.nil (by rw [hfe]; first | exact hI.o | rfl) (MdO.same (m' := { m with df := upM m.df d true, d := { sv with ph := 0, fid := 0, fn := nt0 }, fu := 0, up := false }) (by rw [hfe]; exact ⟨hso, rfl, rfl, hm.qr, hm.qo, hm.qp, hm.r, hm.ys, hmd.dn, hm.tk, hm.au, hm.fl, rfl, hm.kp, (by simp)⟩) (by unfold MF; rw [DuV.E_eq]; simp only [hsvE, List.append_assoc, List.cons_append, List.nil_append])))
                            | (have hfe := (dl_sy (l := l) hhd hp23 hst5).trans (cn_2 hall hpl (by rw [hr]; exact Nat.succ_ne_zero 1)); rw [hr] at hfe; refine f_ret1 (F' := (mb, C (MdV.c { m with df := upM m.df d true, fu := 0, up := false }) 82) :: (m.d.E ++ (m.qE ++ (m.rE ++ Z)))) hl hh rfl rfl (by repeat (first | exact keeps_nil | apply keeps_cons (by repeat (first | exact find_head | apply find_tail | apply find_skip)) (by first  | rfl) | exact keeps_self | exact keeps_left | apply keeps_app | apply keeps_mv | apply keeps_skip)) ?_; exact MdS.nil (by rw [hfe]; first | exact hI.o | rfl) (MdO.same (m' := { m with df := upM m.df d true, fu := 0, up := false }) (by rw [hfe]; exact ⟨hm.dok, hm.d, rfl, hm.qr, hm.qo, hm.qp, hm.r, hm.ys, hmd.dn, hm.tk, hm.au, hm.fl, rfl, hm.kp, (by simp)⟩) rfl))
                          ·
                            try simp only [List.cons_append, List.nil_append, List.append_nil] at hh
                            try simp only [List.append_assoc, List.cons_append, List.nil_append] at hh
                            refine wl (wl_val hl rfl trivial (r_eql hl rfl rfl) ?_)
                            clear hl a; intro a hl
                            refine w_nil ?_
                            have hl2 := hl.add (t := 0) (hl.add (t := 149) (hl.nil) rfl) rfl; clear hl; have hl := hl2; clear hl2
                            refine then_normal ?_
                            refine c_condF hl rfl ?_
                            refine wp_skip ?_
                            refine then_normal ?_
                            refine c_seq ?_
                            refine c_region ?_
                            refine wl (wl_val hl rfl trivial (r_assign hl rfl) ?_)
                            clear hl a; intro a hl
                            refine w_nil ?_
                            have hl2 := hl.add (t := 4) (hl.nil) rfl; clear hl; have hl := hl2; clear hl2
                            refine then_normal ?_
                            refine wp_ret ?_
                            first
                            | (have hfe := (dl_sy (l := l) hhd hp23 hst5).trans (cn_0 hall hpl (by rw [hr])); rw [hr] at hfe; refine f_ret1 (F' := (mb, C (MdV.c { m with df := upM m.df d true, d := { sv with ph := 0, fid := 0, fn := nt0 }, fu := f, au := false }) 82) :: ((A9 ++ (B9 ++ (s1.iE ++ [(s1.vb, MO (kInt .u32) s1.vd)]))) ++ (m.qE ++ (m.rE ++ Z)))) hl hh rfl rfl (by repeat (first | exact keeps_nil | apply keeps_cons (by repeat (first | exact find_head | apply find_tail | apply find_skip)) (by first  | rfl) | exact keeps_self | exact keeps_left | apply keeps_app | apply keeps_mv | apply keeps_skip)) ?_; exact MdS.nil (by rw [hfe]; first | exact hI.o | rfl) (MdO.same (m' := { m with df := upM m.df d true, d := { sv with ph := 0, fid := 0, fn := nt0 }, fu := f, au := false }) (by rw [hfe]; exact ⟨hso, rfl, hm.up, hm.qr, hm.qo, hm.qp, hm.r, hm.ys, hmd.dn, hm.tk, rfl, hm.fl, rfl, hm.kp, hf⟩) (by unfold MF; rw [DuV.E_eq]; simp only [hsvE, List.append_assoc, List.cons_append, List.nil_append])))
                            | (have hfe := (dl_sy (l := l) hhd hp23 hst5).trans (cn_2 hall hpl (by rw [hr]; exact Nat.succ_ne_zero 1)); rw [hr] at hfe; refine f_ret1 (F' := (mb, C (MdV.c { m with df := upM m.df d true, d := { sv with ph := 0, fid := 0, fn := nt0 }, fu := 0, up := false }) 82) :: ((A9 ++ (B9 ++ (s1.iE ++ [(s1.vb, MO (kInt .u32) s1.vd)]))) ++ (m.qE ++ (m.rE ++ Z)))) hl hh rfl rfl (by repeat (first | exact keeps_nil | apply keeps_cons (by repeat (first | exact find_head | apply find_tail | apply find_skip)) (by first  | rfl) | exact keeps_self | exact keeps_left | apply keeps_app | apply keeps_mv | apply keeps_skip)) ?_; exact MdS.nil (by rw [hfe]; first | exact hI.o | rfl) (MdO.same (m' := { m with df := upM m.df d true, d := { sv with ph := 0, fid := 0, fn := nt0 }, fu := 0, up := false }) (by rw [hfe]; exact ⟨hso, rfl, rfl, hm.qr, hm.qo, hm.qp, hm.r, hm.ys, hmd.dn, hm.tk, hm.au, hm.fl, rfl, hm.kp, (by simp)⟩) (by unfold MF; rw [DuV.E_eq]; simp only [hsvE, List.append_assoc, List.cons_append, List.nil_append])))
                            | (have hfe := (dl_sy (l := l) hhd hp23 hst5).trans (cn_2 hall hpl (by rw [hr]; exact Nat.succ_ne_zero 1)); rw [hr] at hfe; refine f_ret1 (F' := (mb, C (MdV.c { m with df := upM m.df d true, fu := 0, up := false }) 82) :: (m.d.E ++ (m.qE ++ (m.rE ++ Z)))) hl hh rfl rfl (by repeat (first | exact keeps_nil | apply keeps_cons (by repeat (first | exact find_head | apply find_tail | apply find_skip)) (by first  | rfl) | exact keeps_self | exact keeps_left | apply keeps_app | apply keeps_mv | apply keeps_skip)) ?_; exact MdS.nil (by rw [hfe]; first | exact hI.o | rfl) (MdO.same (m' := { m with df := upM m.df d true, fu := 0, up := false }) (by rw [hfe]; exact ⟨hm.dok, hm.d, rfl, hm.qr, hm.qo, hm.qp, hm.r, hm.ys, hmd.dn, hm.tk, hm.au, hm.fl, rfl, hm.kp, (by simp)⟩) rfl))
                          ·
                            try simp only [List.cons_append, List.nil_append, List.append_nil] at hh
                            try simp only [List.append_assoc, List.cons_append, List.nil_append] at hh
                            refine wl (wl_val hl rfl trivial (r_eql hl rfl rfl) ?_)
                            clear hl a; intro a hl
                            refine w_nil ?_
                            have hl2 := hl.add (t := 0) (hl.add (t := 149) (hl.nil) rfl) rfl; clear hl; have hl := hl2; clear hl2
                            refine then_normal ?_
                            refine c_condF hl rfl ?_
                            refine wp_skip ?_
                            refine then_normal ?_
                            refine c_seq ?_
                            refine c_region ?_
                            refine wl (wl_val hl rfl trivial (r_assign hl rfl) ?_)
                            clear hl a; intro a hl
                            refine w_nil ?_
                            have hl2 := hl.add (t := 4) (hl.nil) rfl; clear hl; have hl := hl2; clear hl2
                            refine then_normal ?_
                            refine wp_ret ?_
                            first
                            | (have hfe := (dl_sy (l := l) hhd hp23 hst5).trans (cn_0 hall hpl (by rw [hr])); rw [hr] at hfe; refine f_ret1 (F' := (mb, C (MdV.c { m with df := upM m.df d true, d := { sv with ph := 0, fid := 0, fn := nt0 }, fu := f, au := false }) 82) :: ((A9 ++ (B9 ++ (s1.iE ++ [(s1.vb, MO (kInt .u32) s1.vd)]))) ++ (m.qE ++ (m.rE ++ Z)))) hl hh rfl rfl (by repeat (first | exact keeps_nil | apply keeps_cons (by repeat (first | exact find_head | apply find_tail | apply find_skip)) (by first  | rfl) | exact keeps_self | exact keeps_left | apply keeps_app | apply keeps_mv | apply keeps_skip)) ?_; exact MdS.nil (by rw [hfe]; first | exact hI.o | rfl) (MdO.same (m' := { m with df := upM m.df d true, d := { sv with ph := 0, fid := 0, fn := nt0 }, fu := f, au := false }) (by rw [hfe]; exact ⟨hso, rfl, hm.up, hm.qr, hm.qo, hm.qp, hm.r, hm.ys, hmd.dn, hm.tk, rfl, hm.fl, rfl, hm.kp, hf⟩) (by unfold MF; rw [DuV.E_eq]; simp only [hsvE, List.append_assoc, List.cons_append, List.nil_append])))
                            | (have hfe := (dl_sy (l := l) hhd hp23 hst5).trans (cn_2 hall hpl (by rw [hr]; exact Nat.succ_ne_zero 1)); rw [hr] at hfe; refine f_ret1 (F' := (mb, C (MdV.c { m with df := upM m.df d true, d := { sv with ph := 0, fid := 0, fn := nt0 }, fu := 0, up := false }) 82) :: ((A9 ++ (B9 ++ (s1.iE ++ [(s1.vb, MO (kInt .u32) s1.vd)]))) ++ (m.qE ++ (m.rE ++ Z)))) hl hh rfl rfl (by repeat (first | exact keeps_nil | apply keeps_cons (by repeat (first | exact find_head | apply find_tail | apply find_skip)) (by first  | rfl) | exact keeps_self | exact keeps_left | apply keeps_app | apply keeps_mv | apply keeps_skip)) ?_; exact MdS.nil (by rw [hfe]; first | exact hI.o | rfl) (MdO.same (m' := { m with df := upM m.df d true, d := { sv with ph := 0, fid := 0, fn := nt0 }, fu := 0, up := false }) (by rw [hfe]; exact ⟨hso, rfl, rfl, hm.qr, hm.qo, hm.qp, hm.r, hm.ys, hmd.dn, hm.tk, hm.au, hm.fl, rfl, hm.kp, (by simp)⟩) (by unfold MF; rw [DuV.E_eq]; simp only [hsvE, List.append_assoc, List.cons_append, List.nil_append])))
                            | (have hfe := (dl_sy (l := l) hhd hp23 hst5).trans (cn_2 hall hpl (by rw [hr]; exact Nat.succ_ne_zero 1)); rw [hr] at hfe; refine f_ret1 (F' := (mb, C (MdV.c { m with df := upM m.df d true, fu := 0, up := false }) 82) :: (m.d.E ++ (m.qE ++ (m.rE ++ Z)))) hl hh rfl rfl (by repeat (first | exact keeps_nil | apply keeps_cons (by repeat (first | exact find_head | apply find_tail | apply find_skip)) (by first  | rfl) | exact keeps_self | exact keeps_left | apply keeps_app | apply keeps_mv | apply keeps_skip)) ?_; exact MdS.nil (by rw [hfe]; first | exact hI.o | rfl) (MdO.same (m' := { m with df := upM m.df d true, fu := 0, up := false }) (by rw [hfe]; exact ⟨hm.dok, hm.d, rfl, hm.qr, hm.qo, hm.qp, hm.r, hm.ys, hmd.dn, hm.tk, hm.au, hm.fl, rfl, hm.kp, (by simp)⟩) rfl))
                        · intro hc8
                          try simp only [decide_eq_true_eq, decide_eq_false_iff_not, Bool.not_eq_true', Bool.not_eq_false', Bool.not_eq_true, Bool.not_eq_false, Bool.and_eq_true, Bool.or_eq_true, Bool.and_eq_false_iff, Bool.or_eq_false_iff, Bool.not_not, ne_eq, Int.not_lt, Int.not_le, Decidable.not_not, beq_iff_eq, bne_iff_ne] at hc8
                          obtain ⟨sv, A9, B9, hsv, hA9, hB9⟩ : ∃ (sv : DuV) (A9 B9 : List (Nat × Obj)), sv = s1 ∧ A9 = s1.aE ∧ B9 = s1.nE := ⟨_, _, _, rfl, rfl, rfl⟩
                          rw [show DuV.c s1 = sv.c by rw [hsv], ← hA9, ← hB9] at hh
                          have hsvE : sv.aE = A9 ∧ sv.nE = B9 ∧ sv.iE = s1.iE ∧ sv.vb = s1.vb ∧ sv.vd = s1.vd := by rw [hsv, hA9, hB9]; exact ⟨rfl, rfl, rfl, rfl, rfl⟩
                          have hsvo : sv.ok Z := by rw [hsv]; exact hs1
                          have hso : DuV.ok Z { sv with ph := 0, fid := 0, fn := nt0 } := du_fliok hsvo (by omega) (by omega) (nt0_ok Z)
                          have hpl : DuV.pl { sv with ph := 0, fid := 0, fn := nt0 } = clsP g.st := by rw [hsv]; exact du_cls0 hs9 hc8
                          refine wp_skip ?_
                          refine then_normal ?_
                          refine c_seq ?_
                          refine c_region ?_
                          refine wl (wl_val hl rfl trivial (r_build (cs := nt0.k) hl rfl zero66 bld66 (by rw [← nk0z]; rfl)) ?_)
                          clear hl a; intro a hl
                          refine wl (wl_val hl rfl trivial (r_field hl rfl fld78_4) ?_)
                          clear hl a; intro a hl
                          refine wl (w_store hl hh trivial one76 rfl rfl (by repeat (first | exact find_head | apply find_tail | apply find_skip)) (by first | (simp; done) | (simp; omega) | (rw [mdc_len]; omega) | (rw [mdc_len]; simp; done) | (rw [duc_len]; omega) | (rw [duc_len]; simp; done)) (by first | rfl | assumption | (apply Row.one; assumption)) (by first | exact mdc_sup _ _ | exact mdc_stk _ _ | exact mdc_sau _ _ | exact mdc_sfl _ _ | exact mdc_sfu _ _ | exact mdc_skp _ _ | exact mdc_sy1 _ (by omega) _ | exact mdc_sd1 _ (by omega) _ | exact duc_sa _ _ (s1.vs ++ [⟨s1.fid, s1.fn⟩]) _ E2 | exact duc_sn _ _ (s1.ws ++ [⟨s1.fid, s1.fn⟩]) _ E3 | exact duc_sph _ _ | exact duc_sfid _ _ | (simp only [setL, List.getElem?_cons_zero, List.getElem?_cons_succ, Value.cells, List.take_zero, List.take_succ_cons, List.take_nil, List.drop_zero, List.drop_succ_cons, List.drop_nil, List.length_cons, List.length_nil, List.cons_append, List.nil_append, List.append_nil, Nat.zero_add, Nat.add_zero, Nat.reduceAdd, Nat.reduceBEq, Nat.reduceEqDiff, Nat.ble, BEq.rfl, Bool.and_true, Bool.and_self, cond_true, beq_self_eq_true]; rfl)) ?_)
                          clear hh w; intro w hh
                          refine wl (wl_val hl rfl trivial (r_field hl rfl fld78_5) ?_)
                          clear hl a; intro a hl
                          refine wl (w_store hl hh trivial one36 rfl rfl (by repeat (first | exact find_head | apply find_tail | apply find_skip)) (by first | (simp; done) | (simp; omega) | (rw [mdc_len]; omega) | (rw [mdc_len]; simp; done) | (rw [duc_len]; omega) | (rw [duc_len]; simp; done)) (by first | rfl | assumption | (apply Row.one; assumption)) (by first | exact mdc_sup _ _ | exact mdc_stk _ _ | exact mdc_sau _ _ | exact mdc_sfl _ _ | exact mdc_sfu _ _ | exact mdc_skp _ _ | exact mdc_sy1 _ (by omega) _ | exact mdc_sd1 _ (by omega) _ | exact duc_sa _ _ (s1.vs ++ [⟨s1.fid, s1.fn⟩]) _ E2 | exact duc_sn _ _ (s1.ws ++ [⟨s1.fid, s1.fn⟩]) _ E3 | exact duc_sph _ _ | exact duc_sfid _ _ | (simp only [setL, List.getElem?_cons_zero, List.getElem?_cons_succ, Value.cells, List.take_zero, List.take_succ_cons, List.take_nil, List.drop_zero, List.drop_succ_cons, List.drop_nil, List.length_cons, List.length_nil, List.cons_append, List.nil_append, List.append_nil, Nat.zero_add, Nat.add_zero, Nat.reduceAdd, Nat.reduceBEq, Nat.reduceEqDiff, Nat.ble, BEq.rfl, Bool.and_true, Bool.and_self, cond_true, beq_self_eq_true]; rfl)) ?_)
                          clear hh w; intro w hh
                          refine wl (wl_val hl rfl trivial (r_field hl rfl fld78_6) ?_)
                          clear hl a; intro a hl
                          refine wl (w_storeA hl hh trivial agg66 rfl rfl (by repeat (first | exact find_head | apply find_tail | apply find_skip)) (by exact ntk_len _) (by first | exact Nat.le_refl 64 | (rw [duc_len]; omega)) (by exact ntk_one _) (by first | exact duc_sfn _ _ | exact setL_all (show 64 = _ from (ntk_len _).symm)) ?_)
                          clear hh w; intro w hh
                          refine w_nil ?_
                          have hl2 := hl.add (t := 0) (hl.add (t := 7) (hl.nil) rfl) rfl; clear hl; have hl := hl2; clear hl2
                          refine then_normal ?_
                          refine c_seq ?_
                          refine c_seq ?_
                          refine c_region ?_
                          refine wl (wl_val hl rfl trivial (r_move hl rfl) ?_)
                          clear hl a; intro a hl
                          refine wl (w_loadA hl hh rfl trivial agg78 rfl (by repeat (first | exact find_head | apply find_tail | apply find_skip)) (by first | exact duc_all _ | exact mdc_d _) (by exact duc_len _) ?_)
                          clear hl a; intro a hl
                          refine wl (w_call hl hh rfl trivial rfl cal116 rfl (write3 mb { m with df := upM m.df d true } { sv with ph := 0, fid := 0, fn := nt0 } l hdn hm.fl hm.fu hm.kp hm.d hm.fb) (by repeat (first | exact keeps_nil | apply keeps_cons (by repeat (first | exact find_head | apply find_tail | apply find_skip)) (by first  | rfl) | exact keeps_self | exact keeps_left | apply keeps_app | apply keeps_mv | apply keeps_skip)) trivial ?_)
                          clear hl hh a w; intro vc Fc a w hR hl hh
                          rcases hR with ⟨f, hr, hf, rfl, rfl⟩ | ⟨hr, rfl, rfl⟩ | ⟨hr, rfl, rfl⟩
                          ·
                            try simp only [List.cons_append, List.nil_append, List.append_nil] at hh
                            try simp only [List.append_assoc, List.cons_append, List.nil_append] at hh
                            refine wl (wl_val hl rfl trivial (r_eql hl rfl rfl) ?_)
                            clear hl a; intro a hl
                            refine w_nil ?_
                            have hl2 := hl.add (t := 0) (hl.add (t := 149) (hl.nil) rfl) rfl; clear hl; have hl := hl2; clear hl2
                            refine then_normal ?_
                            refine c_condT hl rfl ?_
                            refine c_region ?_
                            refine wl (wl_val hl rfl trivial (r_move hl rfl) ?_)
                            clear hl a; intro a hl
                            refine wl (wl_val hl rfl trivial (r_nilCheck hl rfl) ?_)
                            clear hl a; intro a hl
                            refine wl (wl_val hl rfl trivial (r_field hl rfl fld82_7) ?_)
                            clear hl a; intro a hl
                            refine wl (w_store hl hh trivial one4 rfl rfl (by repeat (first | exact find_head | apply find_tail | apply find_skip)) (by first | (simp; done) | (simp; omega) | (rw [mdc_len]; omega) | (rw [mdc_len]; simp; done) | (rw [duc_len]; omega) | (rw [duc_len]; simp; done)) (by first | rfl | assumption | (apply Row.one; assumption)) (by first | exact mdc_sup _ _ | exact mdc_stk _ _ | exact mdc_sau _ _ | exact mdc_sfl _ _ | exact mdc_sfu _ _ | exact mdc_skp _ _ | exact mdc_sy1 _ (by omega) _ | exact mdc_sd1 _ (by omega) _ | exact duc_sa _ _ (s1.vs ++ [⟨s1.fid, s1.fn⟩]) _ E2 | exact duc_sn _ _ (s1.ws ++ [⟨s1.fid, s1.fn⟩]) _ E3 | exact duc_sph _ _ | exact duc_sfid _ _ | (simp only [setL, List.getElem?_cons_zero, List.getElem?_cons_succ, Value.cells, List.take_zero, List.take_succ_cons, List.take_nil, List.drop_zero, List.drop_succ_cons, List.drop_nil, List.length_cons, List.length_nil, List.cons_append, List.nil_append, List.append_nil, Nat.zero_add, Nat.add_zero, Nat.reduceAdd, Nat.reduceBEq, Nat.reduceEqDiff, Nat.ble, BEq.rfl, Bool.and_true, Bool.and_self, cond_true, beq_self_eq_true]; rfl)) ?_)
                            clear hh w; intro w hh
                            refine w_nil ?_
                            have hl2 := hl.nil; clear hl; have hl := hl2; clear hl2
                            refine then_normal ?_
                            refine c_seq ?_
                            refine c_region ?_
                            refine wl (wl_val hl rfl trivial (r_assign hl rfl) ?_)
                            clear hl a; intro a hl
                            refine w_nil ?_
                            have hl2 := hl.add (t := 4) (hl.nil) rfl; clear hl; have hl := hl2; clear hl2
                            refine then_normal ?_
                            refine wp_ret ?_
                            first
                            | (have hfe := (dl_sy (l := l) hhd hp23 hst5).trans (cn_0 hall hpl (by rw [hr])); rw [hr] at hfe; refine f_ret1 (F' := (mb, C (MdV.c { m with df := upM m.df d true, d := { sv with ph := 0, fid := 0, fn := nt0 }, fu := f, au := false }) 82) :: ((A9 ++ (B9 ++ (s1.iE ++ [(s1.vb, MO (kInt .u32) s1.vd)]))) ++ (m.qE ++ (m.rE ++ Z)))) hl hh rfl rfl (by repeat (first | exact keeps_nil | apply keeps_cons (by repeat (first | exact find_head | apply find_tail | apply find_skip)) (by first  | rfl) | exact keeps_self | exact keeps_left | apply keeps_app | apply keeps_mv | apply keeps_skip)) ?_; exact MdS.nil (by rw [hfe]; first | exact hI.o | rfl) (MdO.same (m' := { m with df := upM m.df d true, d := { sv with ph := 0, fid := 0, fn := nt0 }, fu := f, au := false }) (by rw [hfe]; exact ⟨hso, rfl, hm.up, hm.qr, hm.qo, hm.qp, hm.r, hm.ys, hmd.dn, hm.tk, rfl, hm.fl, rfl, hm.kp, hf⟩) (by unfold MF; rw [DuV.E_eq]; simp only [hsvE, List.append_assoc, List.cons_append, List.nil_append])))
                            | (have hfe := (dl_sy (l := l) hhd hp23 hst5).trans (cn_2 hall hpl (by rw [hr]; exact Nat.succ_ne_zero 1)); rw [hr] at hfe; refine f_ret1 (F' := (mb, C (MdV.c { m with df := upM m.df d true, d := { sv with ph := 0, fid := 0, fn := nt0 }, fu := 0, up := false }) 82) :: ((A9 ++ (B9 ++ (s1.iE ++ [(s1.vb, MO (kInt .u32) s1.vd)]))) ++ (m.qE ++ (m.rE ++ Z)))) hl hh rfl rfl (by repeat (first | exact keeps_nil | apply keeps_cons (by repeat (first | exact find_head | apply find_tail | apply find_skip)) (by first  | rfl) | exact keeps_self | exact keeps_left | apply keeps_app | apply keeps_mv | apply keeps_skip)) ?_; exact MdS.nil (by rw [hfe]; first | exact hI.o | rfl) (MdO.same (m' := { m with df := upM m.df d true, d := { sv with ph := 0, fid := 0, fn := nt0 }, fu := 0, up := false }) (by rw [hfe]; exact ⟨hso, rfl, rfl, hm.qr, hm.qo, hm.qp, hm.r, hm.ys, hmd.dn, hm.tk, hm.au, hm.fl, rfl, hm.kp, (by simp)⟩) (by unfold MF; rw [DuV.E_eq]; simp only [hsvE, List.append_assoc, List.cons_append, List.nil_append])))
                            | (have hfe := (dl_sy (l := l) hhd hp23 hst5).trans (cn_2 hall hpl (by rw [hr]; exact Nat.succ_ne_zero 1)); rw [hr] at hfe; refine f_ret1 (F' := (mb, C (MdV.c { m with df := upM m.df d true, fu := 0, up := false }) 82) :: (m.d.E ++ (m.qE ++ (m.rE ++ Z)))) hl hh rfl rfl (by repeat (first | exact keeps_nil | apply keeps_cons (by repeat (first | exact find_head | apply find_tail | apply find_skip)) (by first  | rfl) | exact keeps_self | exact keeps_left | apply keeps_app | apply keeps_mv | apply keeps_skip)) ?_; exact MdS.nil (by rw [hfe]; first | exact hI.o | rfl) (MdO.same (m' := { m with df := upM m.df d true, fu := 0, up := false }) (by rw [hfe]; exact ⟨hm.dok, hm.d, rfl, hm.qr, hm.qo, hm.qp, hm.r, hm.ys, hmd.dn, hm.tk, hm.au, hm.fl, rfl, hm.kp, (by simp)⟩) rfl))
                          ·
                            try simp only [List.cons_append, List.nil_append, List.append_nil] at hh
                            try simp only [List.append_assoc, List.cons_append, List.nil_append] at hh
                            refine wl (wl_val hl rfl trivial (r_eql hl rfl rfl) ?_)
                            clear hl a; intro a hl
                            refine w_nil ?_
                            have hl2 := hl.add (t := 0) (hl.add (t := 149) (hl.nil) rfl) rfl; clear hl; have hl := hl2; clear hl2
                            refine then_normal ?_
                            refine c_condF hl rfl ?_
                            refine wp_skip ?_
                            refine then_normal ?_
                            refine c_seq ?_
                            refine c_region ?_
                            refine wl (wl_val hl rfl trivial (r_assign hl rfl) ?_)
                            clear hl a; intro a hl
                            refine w_nil ?_
                            have hl2 := hl.add (t := 4) (hl.nil) rfl; clear hl; have hl := hl2; clear hl2
                            refine then_normal ?_
                            refine wp_ret ?_
                            first
                            | (have hfe := (dl_sy (l := l) hhd hp23 hst5).trans (cn_0 hall hpl (by rw [hr])); rw [hr] at hfe; refine f_ret1 (F' := (mb, C (MdV.c { m with df := upM m.df d true, d := { sv with ph := 0, fid := 0, fn := nt0 }, fu := f, au := false }) 82) :: ((A9 ++ (B9 ++ (s1.iE ++ [(s1.vb, MO (kInt .u32) s1.vd)]))) ++ (m.qE ++ (m.rE ++ Z)))) hl hh rfl rfl (by repeat (first | exact keeps_nil | apply keeps_cons (by repeat (first | exact find_head | apply find_tail | apply find_skip)) (by first  | rfl) | exact keeps_self | exact keeps_left | apply keeps_app | apply keeps_mv | apply keeps_skip)) ?_; exact MdS.nil (by rw [hfe]; first | exact hI.o | rfl) (MdO.same (m' := { m with df := upM m.df d true, d := { sv with ph := 0, fid := 0, fn := nt0 }, fu := f, au := false }) (by rw [hfe]; exact ⟨hso, rfl, hm.up, hm.qr, hm.qo, hm.qp, hm.r, hm.ys, hmd.dn, hm.tk, rfl, hm.fl, rfl, hm.kp, hf⟩) (by unfold MF; rw [DuV.E_eq]; simp only [hsvE, List.append_assoc, List.cons_append, List.nil_append])))
                            | (have hfe := (dl_sy (l := l) hhd hp23 hst5).trans (cn_2 hall hpl (by rw [hr]; exact Nat.succ_ne_zero 1)); rw [hr] at hfe; refine f_ret1 (F' := (mb, C (MdV.c { m with df := upM m.df d true, d := { sv with ph := 0, fid := 0, fn := nt0 }, fu := 0, up := false }) 82) :: ((A9 ++ (B9 ++ (s1.iE ++ [(s1.vb, MO (kInt .u32) s1.vd)]))) ++ (m.qE ++ (m.rE ++ Z)))) hl hh rfl rfl (by repeat (first | exact keeps_nil | apply keeps_cons (by repeat (first | exact find_head | apply find_tail | apply find_skip)) (by first  | rfl) | exact keeps_self | exact keeps_left | apply keeps_app | apply keeps_mv | apply keeps_skip)) ?_; exact MdS.nil (by rw [hfe]; first | exact hI.o | rfl) (MdO.same (m' := { m with df := upM m.df d true, d := { sv with ph := 0, fid := 0, fn := nt0 }, fu := 0, up := false }) (by rw [hfe]; exact ⟨hso, rfl, rfl, hm.qr, hm.qo, hm.qp, hm.r, hm.ys, hmd.dn, hm.tk, hm.au, hm.fl, rfl, hm.kp, (by simp)⟩) (by unfold MF; rw [DuV.E_eq]; simp only [hsvE, List.append_assoc, List.cons_append, List.nil_append])))
                            | (have hfe := (dl_sy (l := l) hhd hp23 hst5).trans (cn_2 hall hpl (by rw [hr]; exact Nat.succ_ne_zero 1)); rw [hr] at hfe; refine f_ret1 (F' := (mb, C (MdV.c { m with df := upM m.df d true, fu := 0, up := false }) 82) :: (m.d.E ++ (m.qE ++ (m.rE ++ Z)))) hl hh rfl rfl (by repeat (first | exact keeps_nil | apply keeps_cons (by repeat (first | exact find_head | apply find_tail | apply find_skip)) (by first  | rfl) | exact keeps_self | exact keeps_left | apply keeps_app | apply keeps_mv | apply keeps_skip)) ?_; exact MdS.nil (by rw [hfe]; first | exact hI.o | rfl) (MdO.same (m' := { m with df := upM m.df d true, fu := 0, up := false }) (by rw [hfe]; exact ⟨hm.dok, hm.d, rfl, hm.qr, hm.qo, hm.qp, hm.r, hm.ys, hmd.dn, hm.tk, hm.au, hm.fl, rfl, hm.kp, (by simp)⟩) rfl))
                          ·
                            try simp only [List.cons_append, List.nil_append, List.append_nil] at hh
                            try simp only [List.append_assoc, List.cons_append, List.nil_append] at hh
                            refine wl (wl_val hl rfl trivial (r_eql hl rfl rfl) ?_)
                            clear hl a; intro a hl
                            refine w_nil ?_
                            have hl2 := hl.add (t := 0) (hl.add (t := 149) (hl.nil) rfl) rfl; clear hl; have hl := hl2; clear hl2
                            refine then_normal ?_
                            refine c_condF hl rfl ?_
                            refine wp_skip ?_
                            refine then_normal ?_
                            refine c_seq ?_
                            refine c_region ?_
                            refine wl (wl_val hl rfl trivial (r_assign hl rfl) ?_)
                            clear hl a; intro a hl
                            refine w_nil ?_
                            have hl2 := hl.add (t := 4) (hl.nil) rfl; clear hl; have hl := hl2; clear hl2
                            refine then_normal ?_
                            refine wp_ret ?_
                            first
                            | (have hfe := (dl_sy (l := l) hhd hp23 hst5).trans (cn_0 hall hpl (by rw [hr])); rw [hr] at hfe; refine f_ret1 (F' := (mb, C (MdV.c { m with df := upM m.df d true, d := { sv with ph := 0, fid := 0, fn := nt0 }, fu := f, au := false }) 82) :: ((A9 ++ (B9 ++ (s1.iE ++ [(s1.vb, MO (kInt .u32) s1.vd)]))) ++ (m.qE ++ (m.rE ++ Z)))) hl hh rfl rfl (by repeat (first | exact keeps_nil | apply keeps_cons (by repeat (first | exact find_head | apply find_tail | apply find_skip)) (by first  | rfl) | exact keeps_self | exact keeps_left | apply keeps_app | apply keeps_mv | apply keeps_skip)) ?_; exact MdS.nil (by rw [hfe]; first | exact hI.o | rfl) (MdO.same (m' := { m with df := upM m.df d true, d := { sv with ph := 0, fid := 0, fn := nt0 }, fu := f, au := false }) (by rw [hfe]; exact ⟨hso, rfl, hm.up, hm.qr, hm.qo, hm.qp, hm.r, hm.ys, hmd.dn, hm.tk, rfl, hm.fl, rfl, hm.kp, hf⟩) (by unfold MF; rw [DuV.E_eq]; simp only [hsvE, List.append_assoc, List.cons_append, List.nil_append])))
                            | (have hfe := (dl_sy (l := l) hhd hp23 hst5).trans (cn_2 hall hpl (by rw [hr]; exact Nat.succ_ne_zero 1)); rw [hr] at hfe; refine f_ret1 (F' := (mb, C (MdV.c { m with df := upM m.df d true, d := { sv with ph := 0, fid := 0, fn := nt0 }, fu := 0, up := false }) 82) :: ((A9 ++ (B9 ++ (s1.iE ++ [(s1.vb, MO (kInt .u32) s1.vd)]))) ++ (m.qE ++ (m.rE ++ Z)))) hl hh rfl rfl (by repeat (first | exact keeps_nil | apply keeps_cons (by repeat (first | exact find_head | apply find_tail | apply find_skip)) (by first  | rfl) | exact keeps_self | exact keeps_left | apply keeps_app | apply keeps_mv | apply keeps_skip)) ?_; exact MdS.nil (by rw [hfe]; first | exact hI.o | rfl) (MdO.same (m' := { m with df := upM m.df d true, d := { sv with ph := 0, fid := 0, fn := nt0 }, fu := 0, up := false }) (by rw [hfe]; exact ⟨hso, rfl, rfl, hm.qr, hm.qo, hm.qp, hm.r, hm.ys, hmd.dn, hm.tk, hm.au, hm.fl, rfl, hm.kp, (by simp)⟩) (by unfold MF; rw [DuV.E_eq]; simp only [hsvE, List.append_assoc, List.cons_append, List.nil_append])))
                            | (have hfe := (dl_sy (l := l) hhd hp23 hst5).trans (cn_2 hall hpl (by rw [hr]; exact Nat.succ_ne_zero 1)); rw [hr] at hfe; refine f_ret1 (F' := (mb, C (MdV.c { m with df := upM m.df d true, fu := 0, up := false }) 82) :: (m.d.E ++ (m.qE ++ (m.rE ++ Z)))) hl hh rfl rfl (by repeat (first | exact keeps_nil | apply keeps_cons (by repeat (first | exact find_head | apply find_tail | apply find_skip)) (by first  | rfl) | exact keeps_self | exact keeps_left | apply keeps_app | apply keeps_mv | apply keeps_skip)) ?_; exact MdS.nil (by rw [hfe]; first | exact hI.o | rfl) (MdO.same (m' := { m with df := upM m.df d true, fu := 0, up := false }) (by rw [hfe]; exact ⟨hm.dok, hm.d, rfl, hm.qr, hm.qo, hm.qp, hm.r, hm.ys, hmd.dn, hm.tk, hm.au, hm.fl, rfl, hm.kp, (by simp)⟩) rfl))
                  · intro hg6; clear hl; intro hl
                    try simp only [decide_eq_true_eq, decide_eq_false_iff_not, Bool.not_eq_true', Bool.not_eq_false', Bool.not_eq_true, Bool.not_eq_false, Bool.and_eq_true, Bool.or_eq_true, Bool.and_eq_false_iff, Bool.or_eq_false_iff, Bool.not_not, ne_eq, Int.not_lt, Int.not_le, Decidable.not_not, beq_iff_eq, bne_iff_ne] at hg6
                    refine wl (wl_skip hl rfl ⟨_, _, rfl, rfl, rfl⟩ ?_)
                    clear hl a; intro a hl
                    refine wl (wl_skip hl rfl ⟨_, _, rfl, rfl, rfl⟩ ?_)
                    clear hl a; intro a hl
                    refine wl (wl_skip hl rfl ⟨_, _, rfl, rfl, rfl⟩ ?_)
                    clear hl a; intro a hl
                    refine wl (wl_skip hl rfl ⟨_, _, rfl, rfl, rfl⟩ ?_)
                    clear hl a; intro a hl
                    refine wl (wl_skip hl rfl ⟨_, _, rfl, rfl, rfl⟩ ?_)
                    clear hl a; intro a hl
                    refine wl (wl_skip hl rfl ⟨_, _, rfl, rfl, rfl⟩ ?_)
                    clear hl a; intro a hl
                    refine wl (wl_skip hl rfl ⟨_, _, rfl, rfl, rfl⟩ ?_)
                    clear hl a; intro a hl
                    refine wl (wl_skip hl rfl ⟨_, _, rfl, rfl, rfl⟩ ?_)
                    clear hl a; intro a hl
                    refine wl (wl_val hl rfl trivial (r_pickF hl rfl rfl) ?_)
                    clear hl a; intro a hl
                    refine wl (wl_val hl rfl trivial (r_assign hl rfl) ?_)
                    clear hl a; intro a hl
                    refine w_nil ?_
                    have hl2 := hl.add (t := 0) (hl.add (t := 3) (hl.add (t := 5) (hl.nil) rfl) rfl) rfl; clear hl; have hl := hl2; clear hl2
                    refine then_normal ?_
                    refine c_seq ?_
                    refine c_seq ?_
                    refine c_region ?_
                    refine wl (wl_val hl rfl trivial (r_move hl rfl) ?_)
                    clear hl a; intro a hl
                    refine wl (wl_val hl rfl trivial (r_not hl rfl) ?_)
                    clear hl a; intro a hl
                    refine w_nil ?_
                    have hl2 := hl.add (t := 0) (hl.add (t := 3) (hl.add (t := 107) (hl.nil) rfl) rfl) rfl; clear hl; have hl := hl2; clear hl2
                    refine then_normal ?_
                    refine c_condT hl rfl ?_
                    have hst5 : stl g q = false := by unfold stl; rw [← hm.au, ← hph, ← hfi]; simp_all
                    have hf := dl_sn (l := l) hhd hp23 hst5
                    refine c_seq ?_
                    refine c_region ?_
                    refine wl (wl_val hl rfl trivial (r_assign hl rfl) ?_)
                    clear hl a; intro a hl
                    refine w_nil ?_
                    have hl2 := hl.add (t := 4) (hl.nil) rfl; clear hl; have hl := hl2; clear hl2
                    refine then_normal ?_
                    refine wp_ret ?_
                    refine then_ret ?_
                    refine f_ret1 (F' := (mb, C (MdV.c m) 82) :: (m.d.E ++ (m.qE ++ (m.rE ++ Z)))) hl hh rfl rfl (by repeat (first | exact keeps_nil | apply keeps_cons (by repeat (first | exact find_head | apply find_tail | apply find_skip)) (by first  | rfl) | exact keeps_self | exact keeps_left | apply keeps_app | apply keeps_mv | apply keeps_skip)) ?_
                    exact MdS.nil (by rw [hf]; exact hI.o) (MdO.same (m' := m) (by rw [hf]; exact hm) rfl)
                · intro hg5; clear hl; intro hl
                  try simp only [decide_eq_true_eq, decide_eq_false_iff_not, Bool.not_eq_true', Bool.not_eq_false', Bool.not_eq_true, Bool.not_eq_false, Bool.and_eq_true, Bool.or_eq_true, Bool.and_eq_false_iff, Bool.or_eq_false_iff, Bool.not_not, ne_eq, Int.not_lt, Int.not_le, Decidable.not_not, beq_iff_eq, bne_iff_ne] at hg5
                  refine wl (wl_skip hl rfl ⟨_, _, rfl, rfl, rfl⟩ ?_)
                  clear hl a; intro a hl
                  refine wl (wl_skip hl rfl ⟨_, _, rfl, rfl, rfl⟩ ?_)
                  clear hl a; intro a hl
                  refine wl (wl_skip hl rfl ⟨_, _, rfl, rfl, rfl⟩ ?_)
                  clear hl a; intro a hl
                  refine wl (wl_val hl rfl trivial (r_pickF hl rfl rfl) ?_)
                  clear hl a; intro a hl
                  refine wl (wl_val hl rfl trivial (r_move hl rfl) ?_)
                  clear hl a; intro a hl
                  refine wl (wl_skip hl rfl ⟨_, _, rfl, rfl, rfl⟩ ?_)
                  clear hl a; intro a hl
                  refine wl (wl_skip hl rfl ⟨_, _, rfl, rfl, rfl⟩ ?_)
                  clear hl a; intro a hl
                  refine wl (wl_skip hl rfl ⟨_, _, rfl, rfl, rfl⟩ ?_)
                  clear hl a; intro a hl
                  refine wl (wl_skip hl rfl ⟨_, _, rfl, rfl, rfl⟩ ?_)
                  clear hl a; intro a hl
                  refine wl (wl_skip hl rfl ⟨_, _, rfl, rfl, rfl⟩ ?_)
                  clear hl a; intro a hl
                  refine wl (wl_skip hl rfl ⟨_, _, rfl, rfl, rfl⟩ ?_)
                  clear hl a; intro a hl
                  refine wl (wl_skip hl rfl ⟨_, _, rfl, rfl, rfl⟩ ?_)
                  clear hl a; intro a hl
                  refine wl (wl_skip hl rfl ⟨_, _, rfl, rfl, rfl⟩ ?_)
                  clear hl a; intro a hl
                  refine wl (wl_val hl rfl trivial (r_pickF hl rfl rfl) ?_)
                  clear hl a; intro a hl
                  refine wl (wl_val hl rfl trivial (r_assign hl rfl) ?_)
                  clear hl a; intro a hl
                  refine w_nil ?_
                  have hl2 := hl.add (t := 0) (hl.add (t := 3) (hl.add (t := 5) (hl.nil) rfl) rfl) rfl; clear hl; have hl := hl2; clear hl2
                  refine then_normal ?_
                  refine c_seq ?_
                  refine c_seq ?_
                  refine c_region ?_
                  refine wl (wl_val hl rfl trivial (r_move hl rfl) ?_)
                  clear hl a; intro a hl
                  refine wl (wl_val hl rfl trivial (r_not hl rfl) ?_)
                  clear hl a; intro a hl
                  refine w_nil ?_
                  have hl2 := hl.add (t := 0) (hl.add (t := 3) (hl.add (t := 107) (hl.nil) rfl) rfl) rfl; clear hl; have hl := hl2; clear hl2
                  refine then_normal ?_
                  refine c_condT hl rfl ?_
                  have hst5 : stl g q = false := by unfold stl; rw [← hm.au, ← hph, ← hfi]; simp_all
                  have hf := dl_sn (l := l) hhd hp23 hst5
                  refine c_seq ?_
                  refine c_region ?_
                  refine wl (wl_val hl rfl trivial (r_assign hl rfl) ?_)
                  clear hl a; intro a hl
                  refine w_nil ?_
                  have hl2 := hl.add (t := 4) (hl.nil) rfl; clear hl; have hl := hl2; clear hl2
                  refine then_normal ?_
                  refine wp_ret ?_
                  refine then_ret ?_
                  refine f_ret1 (F' := (mb, C (MdV.c m) 82) :: (m.d.E ++ (m.qE ++ (m.rE ++ Z)))) hl hh rfl rfl (by repeat (first | exact keeps_nil | apply keeps_cons (by repeat (first | exact find_head | apply find_tail | apply find_skip)) (by first  | rfl) | exact keeps_self | exact keeps_left | apply keeps_app | apply keeps_mv | apply keeps_skip)) ?_
                  exact MdS.nil (by rw [hf]; exact hI.o) (MdO.same (m' := m) (by rw [hf]; exact hm) rfl)
              · intro hc5
                try simp only [decide_eq_true_eq, decide_eq_false_iff_not, Bool.not_eq_true', Bool.not_eq_false', Bool.not_eq_true, Bool.not_eq_false, Bool.and_eq_true, Bool.or_eq_true, Bool.and_eq_false_iff, Bool.or_eq_false_iff, Bool.not_not, ne_eq, Int.not_lt, Int.not_le, Decidable.not_not, beq_iff_eq, bne_iff_ne] at hc5
                refine wp_skip ?_
                refine then_normal ?_
                refine c_seq ?_
                refine c_seq ?_
                refine c_region ?_
                refine wl (wl_val hl rfl trivial (r_move hl rfl) ?_)
                clear hl a; intro a hl
                refine wl (wl_val hl rfl trivial (r_not hl rfl) ?_)
                clear hl a; intro a hl
                refine w_nil ?_
                have hl2 := hl.add (t := 0) (hl.add (t := 3) (hl.add (t := 107) (hl.nil) rfl) rfl) rfl; clear hl; have hl := hl2; clear hl2
                refine then_normal ?_
                refine c_cond hl rfl ?_ ?_
                · intro hc6
                  try simp only [decide_eq_true_eq, decide_eq_false_iff_not, Bool.not_eq_true', Bool.not_eq_false', Bool.not_eq_true, Bool.not_eq_false, Bool.and_eq_true, Bool.or_eq_true, Bool.and_eq_false_iff, Bool.or_eq_false_iff, Bool.not_not, ne_eq, Int.not_lt, Int.not_le, Decidable.not_not, beq_iff_eq, bne_iff_ne] at hc6
                  have hst5 : stl g q = false := by unfold stl; rw [← hm.au, ← hph, ← hfi]; simp_all
                  have hf := dl_sn (l := l) hhd hp23 hst5
                  refine c_seq ?_
                  refine c_region ?_
                  refine wl (wl_val hl rfl trivial (r_assign hl rfl) ?_)
                  clear hl a; intro a hl
                  refine w_nil ?_
                  have hl2 := hl.add (t := 4) (hl.nil) rfl; clear hl; have hl := hl2; clear hl2
                  refine then_normal ?_
                  refine wp_ret ?_
                  refine then_ret ?_
                  refine f_ret1 (F' := (mb, C (MdV.c m) 82) :: (m.d.E ++ (m.qE ++ (m.rE ++ Z)))) hl hh rfl rfl (by repeat (first | exact keeps_nil | apply keeps_cons (by repeat (first | exact find_head | apply find_tail | apply find_skip)) (by first  | rfl) | exact keeps_self | exact keeps_left | apply keeps_app | apply keeps_mv | apply keeps_skip)) ?_
                  exact MdS.nil (by rw [hf]; exact hI.o) (MdO.same (m' := m) (by rw [hf]; exact hm) rfl)
                · intro hc6
                  try simp only [decide_eq_true_eq, decide_eq_false_iff_not, Bool.not_eq_true', Bool.not_eq_false', Bool.not_eq_true, Bool.not_eq_false, Bool.and_eq_true, Bool.or_eq_true, Bool.and_eq_false_iff, Bool.or_eq_false_iff, Bool.not_not, ne_eq, Int.not_lt, Int.not_le, Decidable.not_not, beq_iff_eq, bne_iff_ne] at hc6
                  have hst5 : stl g q = true := by unfold stl; rw [← hm.au, ← hph, ← hfi]; simp_all
                  refine wp_skip ?_
                  refine then_normal ?_
                  refine c_seq ?_
                  refine c_draw [(mb, C m.c 82), (k3, C [.int .u8 q.k, .int .u8 q.d, .int .u32 q.e, .int .u32 q.b, .bool q.y, .int .u32 q.r, .int .u32 q.s, .string q.t] 38)] [5, 6] mixed hh ?_
                  clear hh w; intro w hh
                  have hM : Mem [(mb, C m.c 82), (k3, C [.int .u8 q.k, .int .u8 q.d, .int .u32 q.e, .int .u32 q.b, .bool q.y, .int .u32 q.r, .int .u32 q.s, .string q.t] 38)] w := (memK hh (by repeat (first | exact keeps_nil | apply keeps_cons (by repeat (first | exact find_head | apply find_tail | apply find_skip)) (by first  | rfl) | exact keeps_self | exact keeps_left | apply keeps_app | apply keeps_mv | apply keeps_skip)))
                  refine d_take (i := 0) hl rfl (by kernel_rfl) (by kernel_rfl) (by kernel_rfl) (by kernel_rfl) (by kernel_rfl) rfl trivial (fun _ _ _ h => h) hM (fun w hC => r_move hl rfl) rfl ?_
                  clear hl a; intro a hl
                  refine d_take (i := 1) hl rfl (by kernel_rfl) (by kernel_rfl) (by kernel_rfl) (by kernel_rfl) (by kernel_rfl) rfl trivial (fun _ _ _ h => h) hM (fun w hC => r_field hl rfl fld38_1) rfl ?_
                  clear hl a; intro a hl
                  refine d_take (i := 2) hl rfl (by kernel_rfl) (by kernel_rfl) (by kernel_rfl) (by kernel_rfl) (by kernel_rfl) rfl trivial (fun _ _ _ h => h) hM (fun w hC => r_loadC hl rfl one5 hC (by repeat (first | exact find_head | apply find_tail | apply find_skip)) (by first | exact mdc_ep _ | exact mdc_a _ | exact mdc_n _ | exact mdc_i _ | exact mdc_ph _ | exact mdc_fid _ | exact mdc_vd _ | exact mdc_up _ | exact mdc_q _ | exact mdc_rf _ | exact mdc_tk _ | exact mdc_au _ | exact mdc_fl _ | exact mdc_fu _ | exact mdc_kp _ | exact duc_ep _ | exact duc_a _ | exact duc_n _ | exact duc_i _ | exact duc_ph _ | exact duc_fid _ | exact duc_vd _ | rfl)) rfl ?_
                  clear hl a; intro a hl
                  rw [hqd] at hl
                  refine d_take (i := 3) hl rfl (by kernel_rfl) (by kernel_rfl) (by kernel_rfl) (by kernel_rfl) (by kernel_rfl) rfl trivial (fun _ _ _ h => h) hM (fun w hC => r_nilCheck hl rfl) rfl ?_
                  clear hl a; intro a hl
                  refine d_take (i := 4) hl rfl (by kernel_rfl) (by kernel_rfl) (by kernel_rfl) (by kernel_rfl) (by kernel_rfl) rfl trivial (fun _ _ _ h => h) hM (fun w hC => r_field hl rfl fld82_5) rfl ?_
                  clear hl a; intro a hl
                  refine d_takeL (i := 5) hl rfl (by kernel_rfl) (by kernel_rfl) (by kernel_rfl) (by kernel_rfl) (by kernel_rfl) rfl trivial (fun _ _ _ h => h) (fun w => r_indexA hl rfl rfl arr80 (by omega) (by omega) (by first | (simp only [Int.reduceToNat]; rfl) | exact toNat_add1 _ | exact toNat_add2 _ _ | exact toNat_emod _ _ | exact Int.toNat_natCast _ | rfl)) rfl ?_
                  clear hl a; intro a hl
                  refine d_one (i := 6) (by kernel_rfl) rfl ?_
                  try clear hM
                  refine id (w_store hl hh trivial one4 rfl rfl (by repeat (first | exact find_head | apply find_tail | apply find_skip)) (by first | (simp; done) | (simp; omega) | (rw [mdc_len]; omega) | (rw [mdc_len]; simp; done) | (rw [duc_len]; omega) | (rw [duc_len]; simp; done)) (by first | rfl | assumption | (apply Row.one; assumption)) (by first | exact mdc_sup _ _ | exact mdc_stk _ _ | exact mdc_sau _ _ | exact mdc_sfl _ _ | exact mdc_sfu _ _ | exact mdc_skp _ _ | exact mdc_sy1 _ (by omega) _ | exact mdc_sd1 _ (by omega) _ | exact duc_sa _ _ (s1.vs ++ [⟨s1.fid, s1.fn⟩]) _ E2 | exact duc_sn _ _ (s1.ws ++ [⟨s1.fid, s1.fn⟩]) _ E3 | exact duc_sph _ _ | exact duc_sfid _ _ | (simp only [setL, List.getElem?_cons_zero, List.getElem?_cons_succ, Value.cells, List.take_zero, List.take_succ_cons, List.take_nil, List.drop_zero, List.drop_succ_cons, List.drop_nil, List.length_cons, List.length_nil, List.cons_append, List.nil_append, List.append_nil, Nat.zero_add, Nat.add_zero, Nat.reduceAdd, Nat.reduceBEq, Nat.reduceEqDiff, Nat.ble, BEq.rfl, Bool.and_true, Bool.and_self, cond_true, beq_self_eq_true]; rfl)) ?_)
                  clear hh w; intro w hh
                  refine d_step (fun h => absurd h (by decide)) ?_
                  refine d_done (by kernel_rfl) ?_
                  try clear hM
                  have hl2 := hl.add (t := 0) (hl.nil) rfl; clear hl; have hl := hl2; clear hl2
                  have hmd : MdR Z { m with df := upM m.df d true } { g with dn := orB g.dn (sh1 q.d) } l := ⟨hm.dok, hm.d, hm.up, hm.qr, hm.qo, hm.qp, hm.r, hm.ys, by rw [hqd]; exact up_or (by omega) hm.dn, hm.tk, hm.au, hm.fl, hm.fu, hm.kp, hm.fb⟩
                  have hab := all_bits (orB_bd g.dn (sh1 q.d)) hmd.dn
                  refine then_normal ?_
                  refine c_seq ?_
                  refine c_seq ?_
                  refine c_region ?_
                  refine wl (wl_val hl rfl trivial (r_move hl rfl) ?_)
                  clear hl a; intro a hl
                  refine wl (wl_val hl rfl trivial (r_nilCheck hl rfl) ?_)
                  clear hl a; intro a hl
                  refine wl (wl_val hl rfl trivial (r_field hl rfl fld82_5) ?_)
                  clear hl a; intro a hl
                  refine wl (w_loadA hl hh rfl trivial agg80 rfl (by repeat (first | exact find_head | apply find_tail | apply find_skip)) (by first | exact mdc_ly _ | exact mdc_ld _) (by rfl) ?_)
                  clear hl a; intro a hl
                  refine wl (w_call hl hh rfl trivial rfl cal122 rfl (all_spec _) (by repeat (first | exact keeps_nil | apply keeps_cons (by repeat (first | exact find_head | apply find_tail | apply find_skip)) (by first  | rfl) | exact keeps_self | exact keeps_left | apply keeps_app | apply keeps_mv | apply keeps_skip)) trivial ?_)
                  clear hl hh a w; intro vc Fc a w hR hl hh
                  obtain ⟨rfl, rfl⟩ := hR
                  try simp only [List.cons_append, List.nil_append, List.append_assoc, List.append_nil] at hh
                  refine wl (wl_val hl rfl trivial (r_not hl rfl) ?_)
                  clear hl a; intro a hl
                  refine w_nil ?_
                  have hl2 := hl.add (t := 0) (hl.add (t := 119) (hl.nil) rfl) rfl; clear hl; have hl := hl2; clear hl2
                  refine then_normal ?_
                  refine c_cond hl rfl ?_ ?_
                  · intro hc7
                    try simp only [decide_eq_true_eq, decide_eq_false_iff_not, Bool.not_eq_true', Bool.not_eq_false', Bool.not_eq_true, Bool.not_eq_false, Bool.and_eq_true, Bool.or_eq_true, Bool.and_eq_false_iff, Bool.or_eq_false_iff, Bool.not_not, ne_eq, Int.not_lt, Int.not_le, Decidable.not_not, beq_iff_eq, bne_iff_ne] at hc7
                    have hf := (dl_sy (l := l) hhd hp23 hst5).trans (cn_n (fun e => by rw [hab.2 e] at hc7; cases hc7))
                    refine c_seq ?_
                    refine c_region ?_
                    refine wl (wl_val hl rfl trivial (r_assign hl rfl) ?_)
                    clear hl a; intro a hl
                    refine w_nil ?_
                    have hl2 := hl.add (t := 4) (hl.nil) rfl; clear hl; have hl := hl2; clear hl2
                    refine then_normal ?_
                    refine wp_ret ?_
                    refine then_ret ?_
                    refine f_ret1 (F' := (mb, C (MdV.c { m with df := upM m.df d true }) 82) :: (m.d.E ++ (m.qE ++ (m.rE ++ Z)))) hl hh rfl rfl (by repeat (first | exact keeps_nil | apply keeps_cons (by repeat (first | exact find_head | apply find_tail | apply find_skip)) (by first  | rfl) | exact keeps_self | exact keeps_left | apply keeps_app | apply keeps_mv | apply keeps_skip)) ?_
                    exact MdS.nil (by rw [hf]; exact hI.o) (MdO.same (m' := { m with df := upM m.df d true }) (by rw [hf]; exact hmd) rfl)
                  · intro hc7
                    try simp only [decide_eq_true_eq, decide_eq_false_iff_not, Bool.not_eq_true', Bool.not_eq_false', Bool.not_eq_true, Bool.not_eq_false, Bool.and_eq_true, Bool.or_eq_true, Bool.and_eq_false_iff, Bool.or_eq_false_iff, Bool.not_not, ne_eq, Int.not_lt, Int.not_le, Decidable.not_not, beq_iff_eq, bne_iff_ne] at hc7
                    have hall := hab.1 hc7
                    refine wp_skip ?_
                    refine then_normal ?_
                    refine c_seq ?_
                    refine c_region ?_
                    refine wl (wl_val hl rfl trivial (r_move hl rfl) ?_)
                    clear hl a; intro a hl
                    refine wl (wl_val hl rfl trivial (r_nilCheck hl rfl) ?_)
                    clear hl a; intro a hl
                    refine wl (wl_val hl rfl trivial (r_field hl rfl fld82_0) ?_)
                    clear hl a; intro a hl
                    refine wl (w_loadA hl hh rfl trivial agg78 rfl (by repeat (first | exact find_head | apply find_tail | apply find_skip)) (by first | exact duc_all _ | exact mdc_d _) (by exact duc_len _) ?_)
                    clear hl a; intro a hl
                    refine wl (w_call hl hh rfl trivial rfl cal115 rfl (copy_spec Z m.d hm.dok) (by repeat (first | exact keeps_nil | apply keeps_cons (by repeat (first | exact find_head | apply find_tail | apply find_skip)) (by first  | rfl) | exact keeps_self | exact keeps_left | apply keeps_app | apply keeps_mv | apply keeps_skip)) trivial ?_)
                    clear hl hh a w; intro vc Fc a w hR hl hh
                    obtain ⟨s1, hs1, hps1, rfl, rfl⟩ := hR
                    try simp only [List.cons_append, List.nil_append, List.append_assoc, List.append_nil] at hh
                    rw [DuV.E_eq s1] at hh
                    try simp only [List.append_assoc, List.cons_append, List.nil_append] at hh
                    have hs9 : s1.pl = g.st := hps1.trans hst
                    have hph1 : s1.ph = g.st.ph := congrArg StP.ph hs9
                    have hvl1 : s1.vs.length < 70000000000 := by have h9 := congrArg (fun q => q.vs.length) hs9; simp only [DuV.pl, List.length_map] at h9; omega
                    have hwl1 : s1.ws.length < 70000000000 := by rw [hs1.e]; exact hvl1
                    refine wl (w_alloc hl hh rfl trivial zero78 rfl ?_)
                    clear hl hh a w; intro k7 a w hl hh
                    refine wl (w_storeA hl hh trivial agg78 rfl rfl (by repeat (first | exact find_head | apply find_tail | apply find_skip)) (by exact duc_len _) (by first | exact Nat.le_refl 71 | (rw [mdc_len]; omega)) (by exact duc_one _) (by first | exact setL_all (show 71 = _ from (duc_len _).symm) | exact mdc_sd _ _) ?_)
                    clear hh w; intro w hh
                    refine w_nil ?_
                    have hl2 := hl.add (t := 0) (hl.add (t := 7) (hl.nil) rfl) rfl; clear hl; have hl := hl2; clear hl2
                    refine then_normal ?_
                    refine c_seq ?_
                    refine c_seq ?_
                    refine c_region ?_
                    refine wl (wl_val hl rfl trivial (r_field hl rfl fld78_4) ?_)
                    clear hl a; intro a hl
                    refine wl (w_load hl hh rfl trivial one76 rfl (by repeat (first | exact find_head | apply find_tail | apply find_skip)) (by first | exact mdc_ep _ | exact mdc_a _ | exact mdc_n _ | exact mdc_i _ | exact mdc_ph _ | exact mdc_fid _ | exact mdc_vd _ | exact mdc_up _ | exact mdc_q _ | exact mdc_rf _ | exact mdc_tk _ | exact mdc_au _ | exact mdc_fl _ | exact mdc_fu _ | exact mdc_kp _ | exact duc_ep _ | exact duc_a _ | exact duc_n _ | exact duc_i _ | exact duc_ph _ | exact duc_fid _ | exact duc_vd _ | rfl) ?_)
                    clear hl a; intro a hl
                    refine wl (wl_val hl rfl trivial (r_eql hl rfl rfl) ?_)
                    clear hl a; intro a hl
                    refine w_nil ?_
                    have hl2 := hl.add (t := 0) (hl.add (t := 7) (hl.add (t := 127) (hl.nil) rfl) rfl) rfl; clear hl; have hl := hl2; clear hl2
                    refine then_normal ?_
                    refine c_cond hl rfl ?_ ?_
                    · intro hc8
                      try simp only [decide_eq_true_eq, decide_eq_false_iff_not, Bool.not_eq_true', Bool.not_eq_false', Bool.not_eq_true, Bool.not_eq_false, Bool.and_eq_true, Bool.or_eq_true, Bool.and_eq_false_iff, Bool.or_eq_false_iff, Bool.not_not, ne_eq, Int.not_lt, Int.not_le, Decidable.not_not, beq_iff_eq, bne_iff_ne] at hc8
                      refine c_seq ?_
                      refine c_region ?_
                      refine wl (wl_val hl rfl trivial (r_field hl rfl fld78_1) ?_)
                      clear hl a; intro a hl
                      refine wl (w_load hl hh rfl trivial one72 rfl (by repeat (first | exact find_head | apply find_tail | apply find_skip)) (by first | exact mdc_ep _ | exact mdc_a _ | exact mdc_n _ | exact mdc_i _ | exact mdc_ph _ | exact mdc_fid _ | exact mdc_vd _ | exact mdc_up _ | exact mdc_q _ | exact mdc_rf _ | exact mdc_tk _ | exact mdc_au _ | exact mdc_fl _ | exact mdc_fu _ | exact mdc_kp _ | exact duc_ep _ | exact duc_a _ | exact duc_n _ | exact duc_i _ | exact duc_ph _ | exact duc_fid _ | exact duc_vd _ | rfl) ?_)
                      clear hl a; intro a hl
                      refine wl (wl_val hl rfl trivial (r_field hl rfl fld78_5) ?_)
                      clear hl a; intro a hl
                      refine wl (w_load hl hh rfl trivial one36 rfl (by repeat (first | exact find_head | apply find_tail | apply find_skip)) (by first | exact mdc_ep _ | exact mdc_a _ | exact mdc_n _ | exact mdc_i _ | exact mdc_ph _ | exact mdc_fid _ | exact mdc_vd _ | exact mdc_up _ | exact mdc_q _ | exact mdc_rf _ | exact mdc_tk _ | exact mdc_au _ | exact mdc_fl _ | exact mdc_fu _ | exact mdc_kp _ | exact duc_ep _ | exact duc_a _ | exact duc_n _ | exact duc_i _ | exact duc_ph _ | exact duc_fid _ | exact duc_vd _ | rfl) ?_)
                      clear hl a; intro a hl
                      refine wl (w_buildSlice hl hh rfl trivial app72 zero36 rfl rfl rfl rfl rfl (by simp only [fillL, arrPl, List.range_succ, List.range_zero, List.map_cons, List.map_nil, List.map_append, List.nil_append, List.replicate_succ, List.replicate_zero, List.flatten_cons, List.flatten_nil, Nat.zero_mul, Nat.mul_one, Nat.one_mul, Nat.reduceMul, setL, List.getElem?_cons_zero, List.getElem?_cons_succ, Value.cells, List.take_zero, List.take_succ_cons, List.take_nil, List.drop_zero, List.drop_succ_cons, List.drop_nil, List.length_cons, List.length_nil, List.cons_append, List.nil_append, List.append_nil, Nat.zero_add, Nat.add_zero, Nat.reduceAdd, Nat.reduceBEq, Nat.reduceEqDiff, Nat.ble, BEq.rfl, Bool.and_true, Bool.and_self, cond_true, beq_self_eq_true]; rfl) ?_)
                      clear hl hh a w; intro k132 a w hl hh
                      refine wl (w_append (news := (idc (⟨s1.fid, s1.fn⟩ : Vr))) hl hh rfl trivial app72 rfl rfl rfl hs1.a (by repeat (first | exact keeps_nil | apply keeps_cons (by repeat (first | exact find_head | apply find_tail | apply find_skip)) (by first  | rfl) | exact keeps_self | exact keeps_left | apply keeps_app | apply keeps_mv | apply keeps_skip)) (hh.mem _ _ (Find.mem (by repeat (first | exact find_head | apply find_tail | apply find_skip)))) rfl rfl (idc_one _) (by omega) (by omega) (by omega) (by decide) ?_)
                      clear hl hh a w; intro rv2 E2 a w hR2 hl hh
                      have hh3 := hh.comm; clear hh; have hh := hh3; clear hh3
                      try simp only [List.cons_append, List.nil_append, List.append_assoc, List.append_nil] at hh
                      obtain ⟨p6, c6, hv6⟩ := row_val hR2
                      rw [hv6] at hl hR2
                      rw [show s1.vs.length + 1 = (s1.vs ++ [(⟨s1.fid, s1.fn⟩ : Vr)]).length by simp] at hl hR2
                      rw [show fl idc s1.vs ++ idc (⟨s1.fid, s1.fn⟩ : Vr) = fl idc (s1.vs ++ [⟨s1.fid, s1.fn⟩]) by rw [fl_app, fl_sing]] at hR2
                      refine wl (wl_val hl rfl trivial (r_field hl rfl fld78_1) ?_)
                      clear hl a; intro a hl
                      refine wl (w_store hl hh trivial one72 rfl rfl (by repeat (first | exact find_head | apply find_tail | apply find_skip)) (by first | (simp; done) | (simp; omega) | (rw [mdc_len]; omega) | (rw [mdc_len]; simp; done) | (rw [duc_len]; omega) | (rw [duc_len]; simp; done)) (by first | rfl | assumption | (apply Row.one; assumption)) (by first | exact mdc_sup _ _ | exact mdc_stk _ _ | exact mdc_sau _ _ | exact mdc_sfl _ _ | exact mdc_sfu _ _ | exact mdc_skp _ _ | exact mdc_sy1 _ (by omega) _ | exact mdc_sd1 _ (by omega) _ | exact duc_sa _ _ (s1.vs ++ [⟨s1.fid, s1.fn⟩]) _ E2 | exact duc_sn _ _ (s1.ws ++ [⟨s1.fid, s1.fn⟩]) _ E3 | exact duc_sph _ _ | exact duc_sfid _ _ | (simp only [setL, List.getElem?_cons_zero, List.getElem?_cons_succ, Value.cells, List.take_zero, List.take_succ_cons, List.take_nil, List.drop_zero, List.drop_succ_cons, List.drop_nil, List.length_cons, List.length_nil, List.cons_append, List.nil_append, List.append_nil, Nat.zero_add, Nat.add_zero, Nat.reduceAdd, Nat.reduceBEq, Nat.reduceEqDiff, Nat.ble, BEq.rfl, Bool.and_true, Bool.and_self, cond_true, beq_self_eq_true]; rfl)) ?_)
                      clear hh w; intro w hh
                      refine w_nil ?_
                      have hl2 := hl.add (t := 0) (hl.add (t := 7) (hl.nil) rfl) rfl; clear hl; have hl := hl2; clear hl2
                      refine then_normal ?_
                      refine c_region ?_
                      refine wl (wl_val hl rfl trivial (r_field hl rfl fld78_2) ?_)
                      clear hl a; intro a hl
                      refine wl (w_load hl hh rfl trivial one73 rfl (by repeat (first | exact find_head | apply find_tail | apply find_skip)) (by first | exact mdc_ep _ | exact mdc_a _ | exact mdc_n _ | exact mdc_i _ | exact mdc_ph _ | exact mdc_fid _ | exact mdc_vd _ | exact mdc_up _ | exact mdc_q _ | exact mdc_rf _ | exact mdc_tk _ | exact mdc_au _ | exact mdc_fl _ | exact mdc_fu _ | exact mdc_kp _ | exact duc_ep _ | exact duc_a _ | exact duc_n _ | exact duc_i _ | exact duc_ph _ | exact duc_fid _ | exact duc_vd _ | rfl) ?_)
                      clear hl a; intro a hl
                      refine wl (wl_val hl rfl trivial (r_field hl rfl fld78_6) ?_)
                      clear hl a; intro a hl
                      refine wl (w_loadA hl hh rfl trivial agg66 rfl (by repeat (first | exact find_head | apply find_tail | apply find_skip)) (by exact duc_nx _) (by exact ntk_len _) ?_)
                      clear hl a; intro a hl
                      refine wl (w_buildSlice hl hh rfl trivial app73 zero66 rfl rfl rfl rfl rfl (fill1 rfl (ntk_len _)) ?_)
                      clear hl hh a w; intro k139 a w hl hh
                      refine wl (w_append (news := (ntc (⟨s1.fid, s1.fn⟩ : Vr))) hl hh rfl trivial app73 rfl rfl rfl hs1.n (by repeat (first | exact keeps_nil | apply keeps_cons (by repeat (first | exact find_head | apply find_tail | apply find_skip)) (by first  | rfl) | exact keeps_self | exact keeps_left | apply keeps_app | apply keeps_mv | apply keeps_skip)) (hh.mem _ _ (Find.mem (by repeat (first | exact find_head | apply find_tail | apply find_skip)))) (by rw [List.drop_zero]; exact List.take_length) (ntc_len _) (ntc_one _) (by omega) (by omega) (by omega) (by decide) ?_)
                      clear hl hh a w; intro rv3 E3 a w hR3 hl hh
                      have hh3 := hh.comm; clear hh; have hh := hh3; clear hh3
                      try simp only [List.cons_append, List.nil_append, List.append_assoc, List.append_nil] at hh
                      obtain ⟨p7, c7, hv7⟩ := row_val hR3
                      rw [hv7] at hl hR3
                      rw [show s1.ws.length + 1 = (s1.ws ++ [(⟨s1.fid, s1.fn⟩ : Vr)]).length by simp] at hl hR3
                      rw [show fl ntc s1.ws ++ ntc (⟨s1.fid, s1.fn⟩ : Vr) = fl ntc (s1.ws ++ [⟨s1.fid, s1.fn⟩]) by rw [fl_app, fl_sing]] at hR3
                      refine wl (wl_val hl rfl trivial (r_field hl rfl fld78_2) ?_)
                      clear hl a; intro a hl
                      refine wl (w_store hl hh trivial one73 rfl rfl (by repeat (first | exact find_head | apply find_tail | apply find_skip)) (by first | (simp; done) | (simp; omega) | (rw [mdc_len]; omega) | (rw [mdc_len]; simp; done) | (rw [duc_len]; omega) | (rw [duc_len]; simp; done)) (by first | rfl | assumption | (apply Row.one; assumption)) (by first | exact mdc_sup _ _ | exact mdc_stk _ _ | exact mdc_sau _ _ | exact mdc_sfl _ _ | exact mdc_sfu _ _ | exact mdc_skp _ _ | exact mdc_sy1 _ (by omega) _ | exact mdc_sd1 _ (by omega) _ | exact duc_sa _ _ (s1.vs ++ [⟨s1.fid, s1.fn⟩]) _ E2 | exact duc_sn _ _ (s1.ws ++ [⟨s1.fid, s1.fn⟩]) _ E3 | exact duc_sph _ _ | exact duc_sfid _ _ | (simp only [setL, List.getElem?_cons_zero, List.getElem?_cons_succ, Value.cells, List.take_zero, List.take_succ_cons, List.take_nil, List.drop_zero, List.drop_succ_cons, List.drop_nil, List.length_cons, List.length_nil, List.cons_append, List.nil_append, List.append_nil, Nat.zero_add, Nat.add_zero, Nat.reduceAdd, Nat.reduceBEq, Nat.reduceEqDiff, Nat.ble, BEq.rfl, Bool.and_true, Bool.and_self, cond_true, beq_self_eq_true]; rfl)) ?_)
                      clear hh w; intro w hh
                      refine w_nil ?_
                      have hl2 := hl.add (t := 0) (hl.add (t := 7) (hl.nil) rfl) rfl; clear hl; have hl := hl2; clear hl2
                      obtain ⟨sv, A9, B9, hsv, hA9, hB9⟩ : ∃ (sv : DuV) (A9 B9 : List (Nat × Obj)), sv = { s1 with vs := s1.vs ++ [⟨s1.fid, s1.fn⟩], ap := p6, ac := c6, aE := E2, ws := s1.ws ++ [⟨s1.fid, s1.fn⟩], np := p7, nc := c7, nE := E3 } ∧ A9 = E2 ∧ B9 = E3 := ⟨_, _, _, rfl, rfl, rfl⟩
                      rw [show DuV.c { s1 with vs := s1.vs ++ [⟨s1.fid, s1.fn⟩], ap := p6, ac := c6, aE := E2, ws := s1.ws ++ [⟨s1.fid, s1.fn⟩], np := p7, nc := c7, nE := E3 } = sv.c by rw [hsv], ← hA9, ← hB9] at hh
                      have hsvE : sv.aE = A9 ∧ sv.nE = B9 ∧ sv.iE = s1.iE ∧ sv.vb = s1.vb ∧ sv.vd = s1.vd := by rw [hsv, hA9, hB9]; exact ⟨rfl, rfl, rfl, rfl, rfl⟩
                      have hsvo : sv.ok Z := by rw [hsv]; exact du_clsok hs1 hvl1 hR2 hR3
                      have hso : DuV.ok Z { sv with ph := 0, fid := 0, fn := nt0 } := du_fliok hsvo (by omega) (by omega) (nt0_ok Z)
                      have hpl : DuV.pl { sv with ph := 0, fid := 0, fn := nt0 } = clsP g.st := by rw [hsv]; exact du_cls2 hs9 hc8 _ _ _ _ _ _ _
                      refine then_normal ?_
                      refine c_seq ?_
                      refine c_region ?_
                      refine wl (wl_val hl rfl trivial (r_build (cs := nt0.k) hl rfl zero66 bld66 (by rw [← nk0z]; rfl)) ?_)
                      clear hl a; intro a hl
                      refine wl (wl_val hl rfl trivial (r_field hl rfl fld78_4) ?_)
                      clear hl a; intro a hl
                      refine wl (w_store hl hh trivial one76 rfl rfl (by repeat (first | exact find_head | apply find_tail | apply find_skip)) (by first | (simp; done) | (simp; omega) | (rw [mdc_len]; omega) | (rw [mdc_len]; simp; done) | (rw [duc_len]; omega) | (rw [duc_len]; simp; done)) (by first | rfl | assumption | (apply Row.one; assumption)) (by first | exact mdc_sup _ _ | exact mdc_stk _ _ | exact mdc_sau _ _ | exact mdc_sfl _ _ | exact mdc_sfu _ _ | exact mdc_skp _ _ | exact mdc_sy1 _ (by omega) _ | exact mdc_sd1 _ (by omega) _ | exact duc_sa _ _ (s1.vs ++ [⟨s1.fid, s1.fn⟩]) _ E2 | exact duc_sn _ _ (s1.ws ++ [⟨s1.fid, s1.fn⟩]) _ E3 | exact duc_sph _ _ | exact duc_sfid _ _ | (simp only [setL, List.getElem?_cons_zero, List.getElem?_cons_succ, Value.cells, List.take_zero, List.take_succ_cons, List.take_nil, List.drop_zero, List.drop_succ_cons, List.drop_nil, List.length_cons, List.length_nil, List.cons_append, List.nil_append, List.append_nil, Nat.zero_add, Nat.add_zero, Nat.reduceAdd, Nat.reduceBEq, Nat.reduceEqDiff, Nat.ble, BEq.rfl, Bool.and_true, Bool.and_self, cond_true, beq_self_eq_true]; rfl)) ?_)
                      clear hh w; intro w hh
                      refine wl (wl_val hl rfl trivial (r_field hl rfl fld78_5) ?_)
                      clear hl a; intro a hl
                      refine wl (w_store hl hh trivial one36 rfl rfl (by repeat (first | exact find_head | apply find_tail | apply find_skip)) (by first | (simp; done) | (simp; omega) | (rw [mdc_len]; omega) | (rw [mdc_len]; simp; done) | (rw [duc_len]; omega) | (rw [duc_len]; simp; done)) (by first | rfl | assumption | (apply Row.one; assumption)) (by first | exact mdc_sup _ _ | exact mdc_stk _ _ | exact mdc_sau _ _ | exact mdc_sfl _ _ | exact mdc_sfu _ _ | exact mdc_skp _ _ | exact mdc_sy1 _ (by omega) _ | exact mdc_sd1 _ (by omega) _ | exact duc_sa _ _ (s1.vs ++ [⟨s1.fid, s1.fn⟩]) _ E2 | exact duc_sn _ _ (s1.ws ++ [⟨s1.fid, s1.fn⟩]) _ E3 | exact duc_sph _ _ | exact duc_sfid _ _ | (simp only [setL, List.getElem?_cons_zero, List.getElem?_cons_succ, Value.cells, List.take_zero, List.take_succ_cons, List.take_nil, List.drop_zero, List.drop_succ_cons, List.drop_nil, List.length_cons, List.length_nil, List.cons_append, List.nil_append, List.append_nil, Nat.zero_add, Nat.add_zero, Nat.reduceAdd, Nat.reduceBEq, Nat.reduceEqDiff, Nat.ble, BEq.rfl, Bool.and_true, Bool.and_self, cond_true, beq_self_eq_true]; rfl)) ?_)
                      clear hh w; intro w hh
                      refine wl (wl_val hl rfl trivial (r_field hl rfl fld78_6) ?_)
                      clear hl a; intro a hl
                      refine wl (w_storeA hl hh trivial agg66 rfl rfl (by repeat (first | exact find_head | apply find_tail | apply find_skip)) (by exact ntk_len _) (by first | exact Nat.le_refl 64 | (rw [duc_len]; omega)) (by exact ntk_one _) (by first | exact duc_sfn _ _ | exact setL_all (show 64 = _ from (ntk_len _).symm)) ?_)
                      clear hh w; intro w hh
                      refine w_nil ?_
                      have hl2 := hl.add (t := 0) (hl.add (t := 7) (hl.nil) rfl) rfl; clear hl; have hl := hl2; clear hl2
                      refine then_normal ?_
                      refine c_seq ?_
                      refine c_seq ?_
                      refine c_region ?_
                      refine wl (wl_val hl rfl trivial (r_move hl rfl) ?_)
                      clear hl a; intro a hl
                      refine wl (w_loadA hl hh rfl trivial agg78 rfl (by repeat (first | exact find_head | apply find_tail | apply find_skip)) (by first | exact duc_all _ | exact mdc_d _) (by exact duc_len _) ?_)
                      clear hl a; intro a hl
                      refine wl (w_call hl hh rfl trivial rfl cal116 rfl (write3 mb { m with df := upM m.df d true } { sv with ph := 0, fid := 0, fn := nt0 } l hdn hm.fl hm.fu hm.kp hm.d hm.fb) (by repeat (first | exact keeps_nil | apply keeps_cons (by repeat (first | exact find_head | apply find_tail | apply find_skip)) (by first  | rfl) | exact keeps_self | exact keeps_left | apply keeps_app | apply keeps_mv | apply keeps_skip)) trivial ?_)
                      clear hl hh a w; intro vc Fc a w hR hl hh
                      rcases hR with ⟨f, hr, hf, rfl, rfl⟩ | ⟨hr, rfl, rfl⟩ | ⟨hr, rfl, rfl⟩
                      ·
                        try simp only [List.cons_append, List.nil_append, List.append_nil] at hh
                        try simp only [List.append_assoc, List.cons_append, List.nil_append] at hh
                        refine wl (wl_val hl rfl trivial (r_eql hl rfl rfl) ?_)
                        clear hl a; intro a hl
                        refine w_nil ?_
                        have hl2 := hl.add (t := 0) (hl.add (t := 149) (hl.nil) rfl) rfl; clear hl; have hl := hl2; clear hl2
                        refine then_normal ?_
                        refine c_condT hl rfl ?_
                        refine c_region ?_
                        refine wl (wl_val hl rfl trivial (r_move hl rfl) ?_)
                        clear hl a; intro a hl
                        refine wl (wl_val hl rfl trivial (r_nilCheck hl rfl) ?_)
                        clear hl a; intro a hl
                        refine wl (wl_val hl rfl trivial (r_field hl rfl fld82_7) ?_)
                        clear hl a; intro a hl
                        refine wl (w_store hl hh trivial one4 rfl rfl (by repeat (first | exact find_head | apply find_tail | apply find_skip)) (by first | (simp; done) | (simp; omega) | (rw [mdc_len]; omega) | (rw [mdc_len]; simp; done) | (rw [duc_len]; omega) | (rw [duc_len]; simp; done)) (by first | rfl | assumption | (apply Row.one; assumption)) (by first | exact mdc_sup _ _ | exact mdc_stk _ _ | exact mdc_sau _ _ | exact mdc_sfl _ _ | exact mdc_sfu _ _ | exact mdc_skp _ _ | exact mdc_sy1 _ (by omega) _ | exact mdc_sd1 _ (by omega) _ | exact duc_sa _ _ (s1.vs ++ [⟨s1.fid, s1.fn⟩]) _ E2 | exact duc_sn _ _ (s1.ws ++ [⟨s1.fid, s1.fn⟩]) _ E3 | exact duc_sph _ _ | exact duc_sfid _ _ | (simp only [setL, List.getElem?_cons_zero, List.getElem?_cons_succ, Value.cells, List.take_zero, List.take_succ_cons, List.take_nil, List.drop_zero, List.drop_succ_cons, List.drop_nil, List.length_cons, List.length_nil, List.cons_append, List.nil_append, List.append_nil, Nat.zero_add, Nat.add_zero, Nat.reduceAdd, Nat.reduceBEq, Nat.reduceEqDiff, Nat.ble, BEq.rfl, Bool.and_true, Bool.and_self, cond_true, beq_self_eq_true]; rfl)) ?_)
                        clear hh w; intro w hh
                        refine w_nil ?_
                        have hl2 := hl.nil; clear hl; have hl := hl2; clear hl2
                        refine then_normal ?_
                        refine c_seq ?_
                        refine c_region ?_
                        refine wl (wl_val hl rfl trivial (r_assign hl rfl) ?_)
                        clear hl a; intro a hl
                        refine w_nil ?_
                        have hl2 := hl.add (t := 4) (hl.nil) rfl; clear hl; have hl := hl2; clear hl2
                        refine then_normal ?_
                        refine wp_ret ?_
                        first
                        | (have hfe := (dl_sy (l := l) hhd hp23 hst5).trans (cn_0 hall hpl (by rw [hr])); rw [hr] at hfe; refine f_ret1 (F' := (mb, C (MdV.c { m with df := upM m.df d true, d := { sv with ph := 0, fid := 0, fn := nt0 }, fu := f, au := false }) 82) :: ((A9 ++ (B9 ++ (s1.iE ++ [(s1.vb, MO (kInt .u32) s1.vd)]))) ++ (m.qE ++ (m.rE ++ Z)))) hl hh rfl rfl (by repeat (first | exact keeps_nil | apply keeps_cons (by repeat (first | exact find_head | apply find_tail | apply find_skip)) (by first  | rfl) | exact keeps_self | exact keeps_left | apply keeps_app | apply keeps_mv | apply keeps_skip)) ?_; exact MdS.nil (by rw [hfe]; first | exact hI.o | rfl) (MdO.same (m' := { m with df := upM m.df d true, d := { sv with ph := 0, fid := 0, fn := nt0 }, fu := f, au := false }) (by rw [hfe]; exact ⟨hso, rfl, hm.up, hm.qr, hm.qo, hm.qp, hm.r, hm.ys, hmd.dn, hm.tk, rfl, hm.fl, rfl, hm.kp, hf⟩) (by unfold MF; rw [DuV.E_eq]; simp only [hsvE, List.append_assoc, List.cons_append, List.nil_append])))
                        | (have hfe := (dl_sy (l := l) hhd hp23 hst5).trans (cn_2 hall hpl (by rw [hr]; exact Nat.succ_ne_zero 1)); rw [hr] at hfe; refine f_ret1 (F' := (mb, C (MdV.c { m with df := upM m.df d true, d := { sv with ph := 0, fid := 0, fn := nt0 }, fu := 0, up := false }) 82) :: ((A9 ++ (B9 ++ (s1.iE ++ [(s1.vb, MO (kInt .u32) s1.vd)]))) ++ (m.qE ++ (m.rE ++ Z)))) hl hh rfl rfl (by repeat (first | exact keeps_nil | apply keeps_cons (by repeat (first | exact find_head | apply find_tail | apply find_skip)) (by first  | rfl) | exact keeps_self | exact keeps_left | apply keeps_app | apply keeps_mv | apply keeps_skip)) ?_; exact MdS.nil (by rw [hfe]; first | exact hI.o | rfl) (MdO.same (m' := { m with df := upM m.df d true, d := { sv with ph := 0, fid := 0, fn := nt0 }, fu := 0, up := false }) (by rw [hfe]; exact ⟨hso, rfl, rfl, hm.qr, hm.qo, hm.qp, hm.r, hm.ys, hmd.dn, hm.tk, hm.au, hm.fl, rfl, hm.kp, (by simp)⟩) (by unfold MF; rw [DuV.E_eq]; simp only [hsvE, List.append_assoc, List.cons_append, List.nil_append])))
                        | (have hfe := (dl_sy (l := l) hhd hp23 hst5).trans (cn_2 hall hpl (by rw [hr]; exact Nat.succ_ne_zero 1)); rw [hr] at hfe; refine f_ret1 (F' := (mb, C (MdV.c { m with df := upM m.df d true, fu := 0, up := false }) 82) :: (m.d.E ++ (m.qE ++ (m.rE ++ Z)))) hl hh rfl rfl (by repeat (first | exact keeps_nil | apply keeps_cons (by repeat (first | exact find_head | apply find_tail | apply find_skip)) (by first  | rfl) | exact keeps_self | exact keeps_left | apply keeps_app | apply keeps_mv | apply keeps_skip)) ?_; exact MdS.nil (by rw [hfe]; first | exact hI.o | rfl) (MdO.same (m' := { m with df := upM m.df d true, fu := 0, up := false }) (by rw [hfe]; exact ⟨hm.dok, hm.d, rfl, hm.qr, hm.qo, hm.qp, hm.r, hm.ys, hmd.dn, hm.tk, hm.au, hm.fl, rfl, hm.kp, (by simp)⟩) rfl))
                      ·
                        try simp only [List.cons_append, List.nil_append, List.append_nil] at hh
                        try simp only [List.append_assoc, List.cons_append, List.nil_append] at hh
                        refine wl (wl_val hl rfl trivial (r_eql hl rfl rfl) ?_)
                        clear hl a; intro a hl
                        refine w_nil ?_
                        have hl2 := hl.add (t := 0) (hl.add (t := 149) (hl.nil) rfl) rfl; clear hl; have hl := hl2; clear hl2
                        refine then_normal ?_
                        refine c_condF hl rfl ?_
                        refine wp_skip ?_
                        refine then_normal ?_
                        refine c_seq ?_
                        refine c_region ?_
                        refine wl (wl_val hl rfl trivial (r_assign hl rfl) ?_)
                        clear hl a; intro a hl
                        refine w_nil ?_
                        have hl2 := hl.add (t := 4) (hl.nil) rfl; clear hl; have hl := hl2; clear hl2
                        refine then_normal ?_
                        refine wp_ret ?_
                        first
                        | (have hfe := (dl_sy (l := l) hhd hp23 hst5).trans (cn_0 hall hpl (by rw [hr])); rw [hr] at hfe; refine f_ret1 (F' := (mb, C (MdV.c { m with df := upM m.df d true, d := { sv with ph := 0, fid := 0, fn := nt0 }, fu := f, au := false }) 82) :: ((A9 ++ (B9 ++ (s1.iE ++ [(s1.vb, MO (kInt .u32) s1.vd)]))) ++ (m.qE ++ (m.rE ++ Z)))) hl hh rfl rfl (by repeat (first | exact keeps_nil | apply keeps_cons (by repeat (first | exact find_head | apply find_tail | apply find_skip)) (by first  | rfl) | exact keeps_self | exact keeps_left | apply keeps_app | apply keeps_mv | apply keeps_skip)) ?_; exact MdS.nil (by rw [hfe]; first | exact hI.o | rfl) (MdO.same (m' := { m with df := upM m.df d true, d := { sv with ph := 0, fid := 0, fn := nt0 }, fu := f, au := false }) (by rw [hfe]; exact ⟨hso, rfl, hm.up, hm.qr, hm.qo, hm.qp, hm.r, hm.ys, hmd.dn, hm.tk, rfl, hm.fl, rfl, hm.kp, hf⟩) (by unfold MF; rw [DuV.E_eq]; simp only [hsvE, List.append_assoc, List.cons_append, List.nil_append])))
                        | (have hfe := (dl_sy (l := l) hhd hp23 hst5).trans (cn_2 hall hpl (by rw [hr]; exact Nat.succ_ne_zero 1)); rw [hr] at hfe; refine f_ret1 (F' := (mb, C (MdV.c { m with df := upM m.df d true, d := { sv with ph := 0, fid := 0, fn := nt0 }, fu := 0, up := false }) 82) :: ((A9 ++ (B9 ++ (s1.iE ++ [(s1.vb, MO (kInt .u32) s1.vd)]))) ++ (m.qE ++ (m.rE ++ Z)))) hl hh rfl rfl (by repeat (first | exact keeps_nil | apply keeps_cons (by repeat (first | exact find_head | apply find_tail | apply find_skip)) (by first  | rfl) | exact keeps_self | exact keeps_left | apply keeps_app | apply keeps_mv | apply keeps_skip)) ?_; exact MdS.nil (by rw [hfe]; first | exact hI.o | rfl) (MdO.same (m' := { m with df := upM m.df d true, d := { sv with ph := 0, fid := 0, fn := nt0 }, fu := 0, up := false }) (by rw [hfe]; exact ⟨hso, rfl, rfl, hm.qr, hm.qo, hm.qp, hm.r, hm.ys, hmd.dn, hm.tk, hm.au, hm.fl, rfl, hm.kp, (by simp)⟩) (by unfold MF; rw [DuV.E_eq]; simp only [hsvE, List.append_assoc, List.cons_append, List.nil_append])))
                        | (have hfe := (dl_sy (l := l) hhd hp23 hst5).trans (cn_2 hall hpl (by rw [hr]; exact Nat.succ_ne_zero 1)); rw [hr] at hfe; refine f_ret1 (F' := (mb, C (MdV.c { m with df := upM m.df d true, fu := 0, up := false }) 82) :: (m.d.E ++ (m.qE ++ (m.rE ++ Z)))) hl hh rfl rfl (by repeat (first | exact keeps_nil | apply keeps_cons (by repeat (first | exact find_head | apply find_tail | apply find_skip)) (by first  | rfl) | exact keeps_self | exact keeps_left | apply keeps_app | apply keeps_mv | apply keeps_skip)) ?_; exact MdS.nil (by rw [hfe]; first | exact hI.o | rfl) (MdO.same (m' := { m with df := upM m.df d true, fu := 0, up := false }) (by rw [hfe]; exact ⟨hm.dok, hm.d, rfl, hm.qr, hm.qo, hm.qp, hm.r, hm.ys, hmd.dn, hm.tk, hm.au, hm.fl, rfl, hm.kp, (by simp)⟩) rfl))
                      ·
                        try simp only [List.cons_append, List.nil_append, List.append_nil] at hh
                        try simp only [List.append_assoc, List.cons_append, List.nil_append] at hh
                        refine wl (wl_val hl rfl trivial (r_eql hl rfl rfl) ?_)
                        clear hl a; intro a hl
                        refine w_nil ?_
                        have hl2 := hl.add (t := 0) (hl.add (t := 149) (hl.nil) rfl) rfl; clear hl; have hl := hl2; clear hl2
                        refine then_normal ?_
                        refine c_condF hl rfl ?_
                        refine wp_skip ?_
                        refine then_normal ?_
                        refine c_seq ?_
                        refine c_region ?_
                        refine wl (wl_val hl rfl trivial (r_assign hl rfl) ?_)
                        clear hl a; intro a hl
                        refine w_nil ?_
                        have hl2 := hl.add (t := 4) (hl.nil) rfl; clear hl; have hl := hl2; clear hl2
                        refine then_normal ?_
                        refine wp_ret ?_
                        first
                        | (have hfe := (dl_sy (l := l) hhd hp23 hst5).trans (cn_0 hall hpl (by rw [hr])); rw [hr] at hfe; refine f_ret1 (F' := (mb, C (MdV.c { m with df := upM m.df d true, d := { sv with ph := 0, fid := 0, fn := nt0 }, fu := f, au := false }) 82) :: ((A9 ++ (B9 ++ (s1.iE ++ [(s1.vb, MO (kInt .u32) s1.vd)]))) ++ (m.qE ++ (m.rE ++ Z)))) hl hh rfl rfl (by repeat (first | exact keeps_nil | apply keeps_cons (by repeat (first | exact find_head | apply find_tail | apply find_skip)) (by first  | rfl) | exact keeps_self | exact keeps_left | apply keeps_app | apply keeps_mv | apply keeps_skip)) ?_; exact MdS.nil (by rw [hfe]; first | exact hI.o | rfl) (MdO.same (m' := { m with df := upM m.df d true, d := { sv with ph := 0, fid := 0, fn := nt0 }, fu := f, au := false }) (by rw [hfe]; exact ⟨hso, rfl, hm.up, hm.qr, hm.qo, hm.qp, hm.r, hm.ys, hmd.dn, hm.tk, rfl, hm.fl, rfl, hm.kp, hf⟩) (by unfold MF; rw [DuV.E_eq]; simp only [hsvE, List.append_assoc, List.cons_append, List.nil_append])))
                        | (have hfe := (dl_sy (l := l) hhd hp23 hst5).trans (cn_2 hall hpl (by rw [hr]; exact Nat.succ_ne_zero 1)); rw [hr] at hfe; refine f_ret1 (F' := (mb, C (MdV.c { m with df := upM m.df d true, d := { sv with ph := 0, fid := 0, fn := nt0 }, fu := 0, up := false }) 82) :: ((A9 ++ (B9 ++ (s1.iE ++ [(s1.vb, MO (kInt .u32) s1.vd)]))) ++ (m.qE ++ (m.rE ++ Z)))) hl hh rfl rfl (by repeat (first | exact keeps_nil | apply keeps_cons (by repeat (first | exact find_head | apply find_tail | apply find_skip)) (by first  | rfl) | exact keeps_self | exact keeps_left | apply keeps_app | apply keeps_mv | apply keeps_skip)) ?_; exact MdS.nil (by rw [hfe]; first | exact hI.o | rfl) (MdO.same (m' := { m with df := upM m.df d true, d := { sv with ph := 0, fid := 0, fn := nt0 }, fu := 0, up := false }) (by rw [hfe]; exact ⟨hso, rfl, rfl, hm.qr, hm.qo, hm.qp, hm.r, hm.ys, hmd.dn, hm.tk, hm.au, hm.fl, rfl, hm.kp, (by simp)⟩) (by unfold MF; rw [DuV.E_eq]; simp only [hsvE, List.append_assoc, List.cons_append, List.nil_append])))
                        | (have hfe := (dl_sy (l := l) hhd hp23 hst5).trans (cn_2 hall hpl (by rw [hr]; exact Nat.succ_ne_zero 1)); rw [hr] at hfe; refine f_ret1 (F' := (mb, C (MdV.c { m with df := upM m.df d true, fu := 0, up := false }) 82) :: (m.d.E ++ (m.qE ++ (m.rE ++ Z)))) hl hh rfl rfl (by repeat (first | exact keeps_nil | apply keeps_cons (by repeat (first | exact find_head | apply find_tail | apply find_skip)) (by first  | rfl) | exact keeps_self | exact keeps_left | apply keeps_app | apply keeps_mv | apply keeps_skip)) ?_; exact MdS.nil (by rw [hfe]; first | exact hI.o | rfl) (MdO.same (m' := { m with df := upM m.df d true, fu := 0, up := false }) (by rw [hfe]; exact ⟨hm.dok, hm.d, rfl, hm.qr, hm.qo, hm.qp, hm.r, hm.ys, hmd.dn, hm.tk, hm.au, hm.fl, rfl, hm.kp, (by simp)⟩) rfl))
                    · intro hc8
                      try simp only [decide_eq_true_eq, decide_eq_false_iff_not, Bool.not_eq_true', Bool.not_eq_false', Bool.not_eq_true, Bool.not_eq_false, Bool.and_eq_true, Bool.or_eq_true, Bool.and_eq_false_iff, Bool.or_eq_false_iff, Bool.not_not, ne_eq, Int.not_lt, Int.not_le, Decidable.not_not, beq_iff_eq, bne_iff_ne] at hc8
                      obtain ⟨sv, A9, B9, hsv, hA9, hB9⟩ : ∃ (sv : DuV) (A9 B9 : List (Nat × Obj)), sv = s1 ∧ A9 = s1.aE ∧ B9 = s1.nE := ⟨_, _, _, rfl, rfl, rfl⟩
                      rw [show DuV.c s1 = sv.c by rw [hsv], ← hA9, ← hB9] at hh
                      have hsvE : sv.aE = A9 ∧ sv.nE = B9 ∧ sv.iE = s1.iE ∧ sv.vb = s1.vb ∧ sv.vd = s1.vd := by rw [hsv, hA9, hB9]; exact ⟨rfl, rfl, rfl, rfl, rfl⟩
                      have hsvo : sv.ok Z := by rw [hsv]; exact hs1
                      have hso : DuV.ok Z { sv with ph := 0, fid := 0, fn := nt0 } := du_fliok hsvo (by omega) (by omega) (nt0_ok Z)
                      have hpl : DuV.pl { sv with ph := 0, fid := 0, fn := nt0 } = clsP g.st := by rw [hsv]; exact du_cls0 hs9 hc8
                      refine wp_skip ?_
                      refine then_normal ?_
                      refine c_seq ?_
                      refine c_region ?_
                      refine wl (wl_val hl rfl trivial (r_build (cs := nt0.k) hl rfl zero66 bld66 (by rw [← nk0z]; rfl)) ?_)
                      clear hl a; intro a hl
                      refine wl (wl_val hl rfl trivial (r_field hl rfl fld78_4) ?_)
                      clear hl a; intro a hl
                      refine wl (w_store hl hh trivial one76 rfl rfl (by repeat (first | exact find_head | apply find_tail | apply find_skip)) (by first | (simp; done) | (simp; omega) | (rw [mdc_len]; omega) | (rw [mdc_len]; simp; done) | (rw [duc_len]; omega) | (rw [duc_len]; simp; done)) (by first | rfl | assumption | (apply Row.one; assumption)) (by first | exact mdc_sup _ _ | exact mdc_stk _ _ | exact mdc_sau _ _ | exact mdc_sfl _ _ | exact mdc_sfu _ _ | exact mdc_skp _ _ | exact mdc_sy1 _ (by omega) _ | exact mdc_sd1 _ (by omega) _ | exact duc_sa _ _ (s1.vs ++ [⟨s1.fid, s1.fn⟩]) _ E2 | exact duc_sn _ _ (s1.ws ++ [⟨s1.fid, s1.fn⟩]) _ E3 | exact duc_sph _ _ | exact duc_sfid _ _ | (simp only [setL, List.getElem?_cons_zero, List.getElem?_cons_succ, Value.cells, List.take_zero, List.take_succ_cons, List.take_nil, List.drop_zero, List.drop_succ_cons, List.drop_nil, List.length_cons, List.length_nil, List.cons_append, List.nil_append, List.append_nil, Nat.zero_add, Nat.add_zero, Nat.reduceAdd, Nat.reduceBEq, Nat.reduceEqDiff, Nat.ble, BEq.rfl, Bool.and_true, Bool.and_self, cond_true, beq_self_eq_true]; rfl)) ?_)
                      clear hh w; intro w hh
                      refine wl (wl_val hl rfl trivial (r_field hl rfl fld78_5) ?_)
                      clear hl a; intro a hl
                      refine wl (w_store hl hh trivial one36 rfl rfl (by repeat (first | exact find_head | apply find_tail | apply find_skip)) (by first | (simp; done) | (simp; omega) | (rw [mdc_len]; omega) | (rw [mdc_len]; simp; done) | (rw [duc_len]; omega) | (rw [duc_len]; simp; done)) (by first | rfl | assumption | (apply Row.one; assumption)) (by first | exact mdc_sup _ _ | exact mdc_stk _ _ | exact mdc_sau _ _ | exact mdc_sfl _ _ | exact mdc_sfu _ _ | exact mdc_skp _ _ | exact mdc_sy1 _ (by omega) _ | exact mdc_sd1 _ (by omega) _ | exact duc_sa _ _ (s1.vs ++ [⟨s1.fid, s1.fn⟩]) _ E2 | exact duc_sn _ _ (s1.ws ++ [⟨s1.fid, s1.fn⟩]) _ E3 | exact duc_sph _ _ | exact duc_sfid _ _ | (simp only [setL, List.getElem?_cons_zero, List.getElem?_cons_succ, Value.cells, List.take_zero, List.take_succ_cons, List.take_nil, List.drop_zero, List.drop_succ_cons, List.drop_nil, List.length_cons, List.length_nil, List.cons_append, List.nil_append, List.append_nil, Nat.zero_add, Nat.add_zero, Nat.reduceAdd, Nat.reduceBEq, Nat.reduceEqDiff, Nat.ble, BEq.rfl, Bool.and_true, Bool.and_self, cond_true, beq_self_eq_true]; rfl)) ?_)
                      clear hh w; intro w hh
                      refine wl (wl_val hl rfl trivial (r_field hl rfl fld78_6) ?_)
                      clear hl a; intro a hl
                      refine wl (w_storeA hl hh trivial agg66 rfl rfl (by repeat (first | exact find_head | apply find_tail | apply find_skip)) (by exact ntk_len _) (by first | exact Nat.le_refl 64 | (rw [duc_len]; omega)) (by exact ntk_one _) (by first | exact duc_sfn _ _ | exact setL_all (show 64 = _ from (ntk_len _).symm)) ?_)
                      clear hh w; intro w hh
                      refine w_nil ?_
                      have hl2 := hl.add (t := 0) (hl.add (t := 7) (hl.nil) rfl) rfl; clear hl; have hl := hl2; clear hl2
                      refine then_normal ?_
                      refine c_seq ?_
                      refine c_seq ?_
                      refine c_region ?_
                      refine wl (wl_val hl rfl trivial (r_move hl rfl) ?_)
                      clear hl a; intro a hl
                      refine wl (w_loadA hl hh rfl trivial agg78 rfl (by repeat (first | exact find_head | apply find_tail | apply find_skip)) (by first | exact duc_all _ | exact mdc_d _) (by exact duc_len _) ?_)
                      clear hl a; intro a hl
                      refine wl (w_call hl hh rfl trivial rfl cal116 rfl (write3 mb { m with df := upM m.df d true } { sv with ph := 0, fid := 0, fn := nt0 } l hdn hm.fl hm.fu hm.kp hm.d hm.fb) (by repeat (first | exact keeps_nil | apply keeps_cons (by repeat (first | exact find_head | apply find_tail | apply find_skip)) (by first  | rfl) | exact keeps_self | exact keeps_left | apply keeps_app | apply keeps_mv | apply keeps_skip)) trivial ?_)
                      clear hl hh a w; intro vc Fc a w hR hl hh
                      rcases hR with ⟨f, hr, hf, rfl, rfl⟩ | ⟨hr, rfl, rfl⟩ | ⟨hr, rfl, rfl⟩
                      ·
                        try simp only [List.cons_append, List.nil_append, List.append_nil] at hh
                        try simp only [List.append_assoc, List.cons_append, List.nil_append] at hh
                        refine wl (wl_val hl rfl trivial (r_eql hl rfl rfl) ?_)
                        clear hl a; intro a hl
                        refine w_nil ?_
                        have hl2 := hl.add (t := 0) (hl.add (t := 149) (hl.nil) rfl) rfl; clear hl; have hl := hl2; clear hl2
                        refine then_normal ?_
                        refine c_condT hl rfl ?_
                        refine c_region ?_
                        refine wl (wl_val hl rfl trivial (r_move hl rfl) ?_)
                        clear hl a; intro a hl
                        refine wl (wl_val hl rfl trivial (r_nilCheck hl rfl) ?_)
                        clear hl a; intro a hl
                        refine wl (wl_val hl rfl trivial (r_field hl rfl fld82_7) ?_)
                        clear hl a; intro a hl
                        refine wl (w_store hl hh trivial one4 rfl rfl (by repeat (first | exact find_head | apply find_tail | apply find_skip)) (by first | (simp; done) | (simp; omega) | (rw [mdc_len]; omega) | (rw [mdc_len]; simp; done) | (rw [duc_len]; omega) | (rw [duc_len]; simp; done)) (by first | rfl | assumption | (apply Row.one; assumption)) (by first | exact mdc_sup _ _ | exact mdc_stk _ _ | exact mdc_sau _ _ | exact mdc_sfl _ _ | exact mdc_sfu _ _ | exact mdc_skp _ _ | exact mdc_sy1 _ (by omega) _ | exact mdc_sd1 _ (by omega) _ | exact duc_sa _ _ (s1.vs ++ [⟨s1.fid, s1.fn⟩]) _ E2 | exact duc_sn _ _ (s1.ws ++ [⟨s1.fid, s1.fn⟩]) _ E3 | exact duc_sph _ _ | exact duc_sfid _ _ | (simp only [setL, List.getElem?_cons_zero, List.getElem?_cons_succ, Value.cells, List.take_zero, List.take_succ_cons, List.take_nil, List.drop_zero, List.drop_succ_cons, List.drop_nil, List.length_cons, List.length_nil, List.cons_append, List.nil_append, List.append_nil, Nat.zero_add, Nat.add_zero, Nat.reduceAdd, Nat.reduceBEq, Nat.reduceEqDiff, Nat.ble, BEq.rfl, Bool.and_true, Bool.and_self, cond_true, beq_self_eq_true]; rfl)) ?_)
                        clear hh w; intro w hh
                        refine w_nil ?_
                        have hl2 := hl.nil; clear hl; have hl := hl2; clear hl2
                        refine then_normal ?_
                        refine c_seq ?_
                        refine c_region ?_
                        refine wl (wl_val hl rfl trivial (r_assign hl rfl) ?_)
                        clear hl a; intro a hl
                        refine w_nil ?_
                        have hl2 := hl.add (t := 4) (hl.nil) rfl; clear hl; have hl := hl2; clear hl2
                        refine then_normal ?_
                        refine wp_ret ?_
                        first
                        | (have hfe := (dl_sy (l := l) hhd hp23 hst5).trans (cn_0 hall hpl (by rw [hr])); rw [hr] at hfe; refine f_ret1 (F' := (mb, C (MdV.c { m with df := upM m.df d true, d := { sv with ph := 0, fid := 0, fn := nt0 }, fu := f, au := false }) 82) :: ((A9 ++ (B9 ++ (s1.iE ++ [(s1.vb, MO (kInt .u32) s1.vd)]))) ++ (m.qE ++ (m.rE ++ Z)))) hl hh rfl rfl (by repeat (first | exact keeps_nil | apply keeps_cons (by repeat (first | exact find_head | apply find_tail | apply find_skip)) (by first  | rfl) | exact keeps_self | exact keeps_left | apply keeps_app | apply keeps_mv | apply keeps_skip)) ?_; exact MdS.nil (by rw [hfe]; first | exact hI.o | rfl) (MdO.same (m' := { m with df := upM m.df d true, d := { sv with ph := 0, fid := 0, fn := nt0 }, fu := f, au := false }) (by rw [hfe]; exact ⟨hso, rfl, hm.up, hm.qr, hm.qo, hm.qp, hm.r, hm.ys, hmd.dn, hm.tk, rfl, hm.fl, rfl, hm.kp, hf⟩) (by unfold MF; rw [DuV.E_eq]; simp only [hsvE, List.append_assoc, List.cons_append, List.nil_append])))
                        | (have hfe := (dl_sy (l := l) hhd hp23 hst5).trans (cn_2 hall hpl (by rw [hr]; exact Nat.succ_ne_zero 1)); rw [hr] at hfe; refine f_ret1 (F' := (mb, C (MdV.c { m with df := upM m.df d true, d := { sv with ph := 0, fid := 0, fn := nt0 }, fu := 0, up := false }) 82) :: ((A9 ++ (B9 ++ (s1.iE ++ [(s1.vb, MO (kInt .u32) s1.vd)]))) ++ (m.qE ++ (m.rE ++ Z)))) hl hh rfl rfl (by repeat (first | exact keeps_nil | apply keeps_cons (by repeat (first | exact find_head | apply find_tail | apply find_skip)) (by first  | rfl) | exact keeps_self | exact keeps_left | apply keeps_app | apply keeps_mv | apply keeps_skip)) ?_; exact MdS.nil (by rw [hfe]; first | exact hI.o | rfl) (MdO.same (m' := { m with df := upM m.df d true, d := { sv with ph := 0, fid := 0, fn := nt0 }, fu := 0, up := false }) (by rw [hfe]; exact ⟨hso, rfl, rfl, hm.qr, hm.qo, hm.qp, hm.r, hm.ys, hmd.dn, hm.tk, hm.au, hm.fl, rfl, hm.kp, (by simp)⟩) (by unfold MF; rw [DuV.E_eq]; simp only [hsvE, List.append_assoc, List.cons_append, List.nil_append])))
                        | (have hfe := (dl_sy (l := l) hhd hp23 hst5).trans (cn_2 hall hpl (by rw [hr]; exact Nat.succ_ne_zero 1)); rw [hr] at hfe; refine f_ret1 (F' := (mb, C (MdV.c { m with df := upM m.df d true, fu := 0, up := false }) 82) :: (m.d.E ++ (m.qE ++ (m.rE ++ Z)))) hl hh rfl rfl (by repeat (first | exact keeps_nil | apply keeps_cons (by repeat (first | exact find_head | apply find_tail | apply find_skip)) (by first  | rfl) | exact keeps_self | exact keeps_left | apply keeps_app | apply keeps_mv | apply keeps_skip)) ?_; exact MdS.nil (by rw [hfe]; first | exact hI.o | rfl) (MdO.same (m' := { m with df := upM m.df d true, fu := 0, up := false }) (by rw [hfe]; exact ⟨hm.dok, hm.d, rfl, hm.qr, hm.qo, hm.qp, hm.r, hm.ys, hmd.dn, hm.tk, hm.au, hm.fl, rfl, hm.kp, (by simp)⟩) rfl))
                      ·
                        try simp only [List.cons_append, List.nil_append, List.append_nil] at hh
                        try simp only [List.append_assoc, List.cons_append, List.nil_append] at hh
                        refine wl (wl_val hl rfl trivial (r_eql hl rfl rfl) ?_)
                        clear hl a; intro a hl
                        refine w_nil ?_
                        have hl2 := hl.add (t := 0) (hl.add (t := 149) (hl.nil) rfl) rfl; clear hl; have hl := hl2; clear hl2
                        refine then_normal ?_
                        refine c_condF hl rfl ?_
                        refine wp_skip ?_
                        refine then_normal ?_
                        refine c_seq ?_
                        refine c_region ?_
                        refine wl (wl_val hl rfl trivial (r_assign hl rfl) ?_)
                        clear hl a; intro a hl
                        refine w_nil ?_
                        have hl2 := hl.add (t := 4) (hl.nil) rfl; clear hl; have hl := hl2; clear hl2
                        refine then_normal ?_
                        refine wp_ret ?_
                        first
                        | (have hfe := (dl_sy (l := l) hhd hp23 hst5).trans (cn_0 hall hpl (by rw [hr])); rw [hr] at hfe; refine f_ret1 (F' := (mb, C (MdV.c { m with df := upM m.df d true, d := { sv with ph := 0, fid := 0, fn := nt0 }, fu := f, au := false }) 82) :: ((A9 ++ (B9 ++ (s1.iE ++ [(s1.vb, MO (kInt .u32) s1.vd)]))) ++ (m.qE ++ (m.rE ++ Z)))) hl hh rfl rfl (by repeat (first | exact keeps_nil | apply keeps_cons (by repeat (first | exact find_head | apply find_tail | apply find_skip)) (by first  | rfl) | exact keeps_self | exact keeps_left | apply keeps_app | apply keeps_mv | apply keeps_skip)) ?_; exact MdS.nil (by rw [hfe]; first | exact hI.o | rfl) (MdO.same (m' := { m with df := upM m.df d true, d := { sv with ph := 0, fid := 0, fn := nt0 }, fu := f, au := false }) (by rw [hfe]; exact ⟨hso, rfl, hm.up, hm.qr, hm.qo, hm.qp, hm.r, hm.ys, hmd.dn, hm.tk, rfl, hm.fl, rfl, hm.kp, hf⟩) (by unfold MF; rw [DuV.E_eq]; simp only [hsvE, List.append_assoc, List.cons_append, List.nil_append])))
                        | (have hfe := (dl_sy (l := l) hhd hp23 hst5).trans (cn_2 hall hpl (by rw [hr]; exact Nat.succ_ne_zero 1)); rw [hr] at hfe; refine f_ret1 (F' := (mb, C (MdV.c { m with df := upM m.df d true, d := { sv with ph := 0, fid := 0, fn := nt0 }, fu := 0, up := false }) 82) :: ((A9 ++ (B9 ++ (s1.iE ++ [(s1.vb, MO (kInt .u32) s1.vd)]))) ++ (m.qE ++ (m.rE ++ Z)))) hl hh rfl rfl (by repeat (first | exact keeps_nil | apply keeps_cons (by repeat (first | exact find_head | apply find_tail | apply find_skip)) (by first  | rfl) | exact keeps_self | exact keeps_left | apply keeps_app | apply keeps_mv | apply keeps_skip)) ?_; exact MdS.nil (by rw [hfe]; first | exact hI.o | rfl) (MdO.same (m' := { m with df := upM m.df d true, d := { sv with ph := 0, fid := 0, fn := nt0 }, fu := 0, up := false }) (by rw [hfe]; exact ⟨hso, rfl, rfl, hm.qr, hm.qo, hm.qp, hm.r, hm.ys, hmd.dn, hm.tk, hm.au, hm.fl, rfl, hm.kp, (by simp)⟩) (by unfold MF; rw [DuV.E_eq]; simp only [hsvE, List.append_assoc, List.cons_append, List.nil_append])))
                        | (have hfe := (dl_sy (l := l) hhd hp23 hst5).trans (cn_2 hall hpl (by rw [hr]; exact Nat.succ_ne_zero 1)); rw [hr] at hfe; refine f_ret1 (F' := (mb, C (MdV.c { m with df := upM m.df d true, fu := 0, up := false }) 82) :: (m.d.E ++ (m.qE ++ (m.rE ++ Z)))) hl hh rfl rfl (by repeat (first | exact keeps_nil | apply keeps_cons (by repeat (first | exact find_head | apply find_tail | apply find_skip)) (by first  | rfl) | exact keeps_self | exact keeps_left | apply keeps_app | apply keeps_mv | apply keeps_skip)) ?_; exact MdS.nil (by rw [hfe]; first | exact hI.o | rfl) (MdO.same (m' := { m with df := upM m.df d true, fu := 0, up := false }) (by rw [hfe]; exact ⟨hm.dok, hm.d, rfl, hm.qr, hm.qo, hm.qp, hm.r, hm.ys, hmd.dn, hm.tk, hm.au, hm.fl, rfl, hm.kp, (by simp)⟩) rfl))
                      ·
                        try simp only [List.cons_append, List.nil_append, List.append_nil] at hh
                        try simp only [List.append_assoc, List.cons_append, List.nil_append] at hh
                        refine wl (wl_val hl rfl trivial (r_eql hl rfl rfl) ?_)
                        clear hl a; intro a hl
                        refine w_nil ?_
                        have hl2 := hl.add (t := 0) (hl.add (t := 149) (hl.nil) rfl) rfl; clear hl; have hl := hl2; clear hl2
                        refine then_normal ?_
                        refine c_condF hl rfl ?_
                        refine wp_skip ?_
                        refine then_normal ?_
                        refine c_seq ?_
                        refine c_region ?_
                        refine wl (wl_val hl rfl trivial (r_assign hl rfl) ?_)
                        clear hl a; intro a hl
                        refine w_nil ?_
                        have hl2 := hl.add (t := 4) (hl.nil) rfl; clear hl; have hl := hl2; clear hl2
                        refine then_normal ?_
                        refine wp_ret ?_
                        first
                        | (have hfe := (dl_sy (l := l) hhd hp23 hst5).trans (cn_0 hall hpl (by rw [hr])); rw [hr] at hfe; refine f_ret1 (F' := (mb, C (MdV.c { m with df := upM m.df d true, d := { sv with ph := 0, fid := 0, fn := nt0 }, fu := f, au := false }) 82) :: ((A9 ++ (B9 ++ (s1.iE ++ [(s1.vb, MO (kInt .u32) s1.vd)]))) ++ (m.qE ++ (m.rE ++ Z)))) hl hh rfl rfl (by repeat (first | exact keeps_nil | apply keeps_cons (by repeat (first | exact find_head | apply find_tail | apply find_skip)) (by first  | rfl) | exact keeps_self | exact keeps_left | apply keeps_app | apply keeps_mv | apply keeps_skip)) ?_; exact MdS.nil (by rw [hfe]; first | exact hI.o | rfl) (MdO.same (m' := { m with df := upM m.df d true, d := { sv with ph := 0, fid := 0, fn := nt0 }, fu := f, au := false }) (by rw [hfe]; exact ⟨hso, rfl, hm.up, hm.qr, hm.qo, hm.qp, hm.r, hm.ys, hmd.dn, hm.tk, rfl, hm.fl, rfl, hm.kp, hf⟩) (by unfold MF; rw [DuV.E_eq]; simp only [hsvE, List.append_assoc, List.cons_append, List.nil_append])))
                        | (have hfe := (dl_sy (l := l) hhd hp23 hst5).trans (cn_2 hall hpl (by rw [hr]; exact Nat.succ_ne_zero 1)); rw [hr] at hfe; refine f_ret1 (F' := (mb, C (MdV.c { m with df := upM m.df d true, d := { sv with ph := 0, fid := 0, fn := nt0 }, fu := 0, up := false }) 82) :: ((A9 ++ (B9 ++ (s1.iE ++ [(s1.vb, MO (kInt .u32) s1.vd)]))) ++ (m.qE ++ (m.rE ++ Z)))) hl hh rfl rfl (by repeat (first | exact keeps_nil | apply keeps_cons (by repeat (first | exact find_head | apply find_tail | apply find_skip)) (by first  | rfl) | exact keeps_self | exact keeps_left | apply keeps_app | apply keeps_mv | apply keeps_skip)) ?_; exact MdS.nil (by rw [hfe]; first | exact hI.o | rfl) (MdO.same (m' := { m with df := upM m.df d true, d := { sv with ph := 0, fid := 0, fn := nt0 }, fu := 0, up := false }) (by rw [hfe]; exact ⟨hso, rfl, rfl, hm.qr, hm.qo, hm.qp, hm.r, hm.ys, hmd.dn, hm.tk, hm.au, hm.fl, rfl, hm.kp, (by simp)⟩) (by unfold MF; rw [DuV.E_eq]; simp only [hsvE, List.append_assoc, List.cons_append, List.nil_append])))
                        | (have hfe := (dl_sy (l := l) hhd hp23 hst5).trans (cn_2 hall hpl (by rw [hr]; exact Nat.succ_ne_zero 1)); rw [hr] at hfe; refine f_ret1 (F' := (mb, C (MdV.c { m with df := upM m.df d true, fu := 0, up := false }) 82) :: (m.d.E ++ (m.qE ++ (m.rE ++ Z)))) hl hh rfl rfl (by repeat (first | exact keeps_nil | apply keeps_cons (by repeat (first | exact find_head | apply find_tail | apply find_skip)) (by first  | rfl) | exact keeps_self | exact keeps_left | apply keeps_app | apply keeps_mv | apply keeps_skip)) ?_; exact MdS.nil (by rw [hfe]; first | exact hI.o | rfl) (MdO.same (m' := { m with df := upM m.df d true, fu := 0, up := false }) (by rw [hfe]; exact ⟨hm.dok, hm.d, rfl, hm.qr, hm.qo, hm.qp, hm.r, hm.ys, hmd.dn, hm.tk, hm.au, hm.fl, rfl, hm.kp, (by simp)⟩) rfl))
end Go.Proofs.Qxb6500908aGreat

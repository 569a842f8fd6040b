import Derived.Test.Qxb6500908aGreatW8
namespace Go.Proofs.Qxb6500908aGreat
open Go.Eng
set_option linter.unusedVariables false
set_option linter.unusedSimpArgs false
theorem zero84 : zeroOk Tryz.prog 84 (.agg #[(.int .u32 0), (.slice none 0 0), (.slice none 0 0), (.int .u16 0), (.slice none 0 0), (.slice none 0 0), (.int .u16 0), (.slice none 0 0), (.slice none 0 0), (.int .u16 0), (.slice none 0 0), (.slice none 0 0), (.int .u16 0), (.slice none 0 0), (.slice none 0 0), (.int .u16 0), (.slice none 0 0), (.slice none 0 0), (.int .u16 0), (.slice none 0 0), (.slice none 0 0), (.int .u16 0), (.slice none 0 0), (.slice none 0 0), (.int .u16 0), (.slice none 0 0), (.slice none 0 0), (.int .u16 0), (.slice none 0 0), (.slice none 0 0), (.int .u16 0), (.slice none 0 0), (.slice none 0 0), (.int .u16 0), (.slice none 0 0), (.slice none 0 0), (.int .u16 0), (.slice none 0 0), (.slice none 0 0), (.int .u16 0), (.slice none 0 0), (.slice none 0 0), (.int .u16 0), (.slice none 0 0), (.slice none 0 0), (.int .u16 0), (.slice none 0 0), (.slice none 0 0), (.int .u16 0), (.int .u16 0), (.int .u16 0), (.int .u16 0), (.int .u16 0), (.int .u16 0), (.int .u16 0), (.int .u16 0), (.int .u16 0), (.int .u16 0), (.int .u16 0), (.int .u16 0), (.int .u16 0), (.int .u16 0), (.int .u16 0), (.int .u16 0), (.int .u16 0)]) := by unfold zeroOk; kernel_rfl
theorem bld84 : buildOk Tryz.prog 84 [(0, 1), (1, 64)] = true := by kernel_rfl
theorem zero87 : zeroOk Tryz.prog 87 (.agg #[(.int .u32 0), (.int .u8 0), (.slice none 0 0), (.slice none 0 0), (.int .u16 0), (.slice none 0 0), (.slice none 0 0), (.int .u16 0), (.slice none 0 0), (.slice none 0 0), (.int .u16 0), (.slice none 0 0), (.slice none 0 0), (.int .u16 0), (.slice none 0 0), (.slice none 0 0), (.int .u16 0), (.slice none 0 0), (.slice none 0 0), (.int .u16 0), (.slice none 0 0), (.slice none 0 0), (.int .u16 0), (.slice none 0 0), (.slice none 0 0), (.int .u16 0), (.slice none 0 0), (.slice none 0 0), (.int .u16 0), (.slice none 0 0), (.slice none 0 0), (.int .u16 0), (.slice none 0 0), (.slice none 0 0), (.int .u16 0), (.slice none 0 0), (.slice none 0 0), (.int .u16 0), (.slice none 0 0), (.slice none 0 0), (.int .u16 0), (.slice none 0 0), (.slice none 0 0), (.int .u16 0), (.slice none 0 0), (.slice none 0 0), (.int .u16 0), (.slice none 0 0), (.slice none 0 0), (.int .u16 0), (.int .u16 0), (.int .u16 0), (.int .u16 0), (.int .u16 0), (.int .u16 0), (.int .u16 0), (.int .u16 0), (.int .u16 0), (.int .u16 0), (.int .u16 0), (.int .u16 0), (.int .u16 0), (.int .u16 0), (.int .u16 0), (.int .u16 0), (.int .u16 0)]) := by unfold zeroOk; kernel_rfl
theorem bld87 : buildOk Tryz.prog 87 [(0, 1), (1, 1), (2, 64)] = true := by kernel_rfl
theorem agg87 : aggOk Tryz.prog 87 66 = true := by kernel_rfl
theorem blt_t {a b : Nat} (h : a ≤ b) : Nat.ble a b = true := by rw [Nat.ble_eq]; exact h
theorem fill1 {s : Nat} {zl c : List Value} (hz : zl.length = s) (hc : c.length = s) : fillL (arrPl 1 s) ((List.replicate 1 zl).flatten) [(0, .agg ⟨c⟩)] = some c := by
  show (bif ((Value.agg ⟨c⟩).cells.toList.length == s && Nat.ble (0 * s + (Value.agg ⟨c⟩).cells.toList.length) ((List.replicate 1 zl).flatten).length) then fillL (arrPl 1 s) (setL ((List.replicate 1 zl).flatten) (0 * s) (Value.agg ⟨c⟩).cells.toList) [] else none) = some c
  have e : (Value.agg ⟨c⟩).cells.toList = c := rfl
  have e2 : (List.replicate 1 zl).flatten = zl := by simp
  rw [e, e2, hc, hz, Nat.zero_mul, Nat.zero_add, blt_t (Nat.le_refl s), beq_self_eq_true]
  show some (setL zl 0 c) = some c
  rw [setL_all (by rw [hz, hc])]
theorem fill93 {zl : List Value} (hz : zl.length = 65) (i : Int) (n : NtV) : fillL [(0, 1), (1, 64)] zl [(0, .int .u32 i), (1, .agg ⟨n.k⟩)] = some (vrc ⟨i, n⟩) := by
  obtain ⟨z0, zr, rfl⟩ : ∃ z0 zr, zl = z0 :: zr := by
    cases zl with
    | nil => simp at hz
    | cons a t => exact ⟨a, t, rfl⟩
  have hr : zr.length = 64 := by simpa using hz
  have e : (Value.agg ⟨n.k⟩).cells.toList = n.k := rfl
  show (bif (1 == 1 && Nat.ble (0 + 1) (z0 :: zr).length) then fillL [(0, 1), (1, 64)] (.int .u32 i :: zr) [(1, .agg ⟨n.k⟩)] else none) = _
  rw [hz]
  show (bif (n.k.length == 64 && Nat.ble (1 + n.k.length) (Value.int .u32 i :: zr).length) then some (setL (.int .u32 i :: zr) 1 n.k) else none) = _
  rw [ntk_len, List.length_cons, hr]
  show some (setL ([.int .u32 i] ++ zr) (1 + 0) n.k) = _
  rw [set_app9 (n := 1) rfl, setL_all (by rw [hr, ntk_len])]
  rfl
theorem fill45 {zl : List Value} (hz : zl.length = 66) (i p : Int) (n : NtV) : fillL [(0, 1), (1, 1), (2, 64)] zl [(0, .int .u32 i), (1, .int .u8 p), (2, .agg ⟨n.k⟩)] = some (.int .u32 i :: .int .u8 p :: n.k) := by
  obtain ⟨z0, z1, zr, rfl⟩ : ∃ z0 z1 zr, zl = z0 :: z1 :: zr := by
    match zl, hz with
    | a :: b :: t, _ => exact ⟨a, b, t, rfl⟩
  have hr : zr.length = 64 := by simpa using hz
  have e : (Value.agg ⟨n.k⟩).cells.toList = n.k := rfl
  show (bif (1 == 1 && Nat.ble (0 + 1) (z0 :: z1 :: zr).length) then fillL [(0, 1), (1, 1), (2, 64)] (.int .u32 i :: z1 :: zr) [(1, .int .u8 p), (2, .agg ⟨n.k⟩)] else none) = _
  rw [hz]
  show (bif (1 == 1 && Nat.ble (1 + 1) (Value.int .u32 i :: z1 :: zr).length) then fillL [(0, 1), (1, 1), (2, 64)] (.int .u32 i :: .int .u8 p :: zr) [(2, .agg ⟨n.k⟩)] else none) = _
  rw [List.length_cons, List.length_cons, hr]
  show (bif (n.k.length == 64 && Nat.ble (2 + n.k.length) (Value.int .u32 i :: .int .u8 p :: zr).length) then some (setL (.int .u32 i :: .int .u8 p :: zr) 2 n.k) else none) = _
  rw [ntk_len, List.length_cons, List.length_cons, hr]
  show some (setL ([.int .u32 i, .int .u8 p] ++ zr) (2 + 0) n.k) = _
  rw [set_app9 (n := 2) rfl, setL_all (by rw [hr, ntk_len])]
  rfl
def nt0 : NtV := ⟨List.replicate 16 ⟨[], none, 0, [], none, 0, 0⟩, List.replicate 16 0⟩
theorem nt0_ok (Z : List (Nat × Obj)) : nt0.ok Z := by
  refine ⟨rfl, rfl, fun d hd => ?_, fun x hx => ?_⟩
  · rw [List.eq_of_mem_replicate hd]
    exact ⟨⟨[], Row.nil _ _, fun x h => (by cases h)⟩, ⟨[], Row.nil _ _, fun x h => (by cases h)⟩, fun x h => (by cases h), fun x h => (by cases h), by simp, by simp⟩
  · rw [List.eq_of_mem_replicate hx]; omega
def np0 : NtP := ⟨List.replicate 16 ⟨[], [], 0⟩, List.replicate 16 0⟩
theorem nt0_pl : nt0.pl = np0 := rfl
/-- a device has confirmed -/
def orB (x y : Int) : Int := bitsOf .or .u16 x y
def clsP (s : StP) : StP := { s with vs := if s.ph = 2 then s.vs ++ [(s.fid, s.fn)] else s.vs, fid := 0, ph := 0, fn := np0 }
def cnfP (g : GtP) (l : LdP) (b : Int) : GtP × LdP :=
  if orB g.dn b = 65535 then
    (if (storeP l (clsP g.st)).2 = 0 then ({ g with dn := orB g.dn b, st := clsP g.st, au := false }, (storeP l (clsP g.st)).1)
     else (GtP.offd { g with dn := orB g.dn b }, (storeP l (clsP g.st)).1))
  else ({ g with dn := orB g.dn b }, l)
theorem orB_bd (x y : Int) : 0 ≤ orB x y ∧ orB x y ≤ 65535 := by
  have := fits_wrap .u16 ((BitVec.ofInt 16 x ||| BitVec.ofInt 16 y).toNat : Int)
  simp only [Fits] at this
  exact this
/-- the state after the close -/
def StV.cls (s : StV) (vs : List Vr) (p : Option Addr) (c : Nat) (E : List (Nat × Obj)) : StV := { s with vs := vs, vp := p, vc := c, vE := E, fid := 0, ph := 0, fn := nt0 }
theorem cls_ok {Z : List (Nat × Obj)} {s : StV} (h : s.ok Z) {vs : List Vr} {p : Option Addr} {c : Nat} {E : List (Nat × Obj)} (hR : Row (.slice p vs.length c) vs.length (fl vrc vs) 65 84 E) (hv : ∀ x, x ∈ vs → x.n.ok Z ∧ 0 ≤ x.id ∧ x.id ≤ 4294967295) (hl : vs.length ≤ 1000000000) (hl0 : 0 < vs.length) : (s.cls vs p c E).ok Z := ⟨h.ep, hR, hv, hl, hl0, h.i, h.io, h.il, by simp [StV.cls], by simp [StV.cls], nt0_ok Z, h.vd, h.vk⟩
theorem cls_pl {s : StV} {vs : List Vr} {p : Option Addr} {c : Nat} {E : List (Nat × Obj)} (h : vs = if s.ph = 2 then s.vs ++ [⟨s.fid, s.fn⟩] else s.vs) : (s.cls vs p c E).pl = clsP s.pl := by
  subst h
  unfold StV.cls StV.pl clsP
  simp only [StP.mk.injEq, true_and, and_true]
  refine ⟨?_, nt0_pl⟩
  split
  · rw [List.map_append]; rfl
  · rfl
theorem cn_n {g : GtP} {l : LdP} {b : Int} (h : ¬ orB g.dn b = 65535) : cnfP g l b = ({ g with dn := orB g.dn b }, l) := by unfold cnfP; rw [if_neg h]
theorem cn_0 {g : GtP} {l : LdP} {b : Int} (h : orB g.dn b = 65535) {s : StP} (hs : s = clsP g.st) (h2 : (storeP l s).2 = 0) : cnfP g l b = ({ g with dn := orB g.dn b, st := s, au := false }, (storeP l s).1) := by subst hs; unfold cnfP; rw [if_pos h, if_pos h2]
theorem cn_2 {g : GtP} {l : LdP} {b : Int} (h : orB g.dn b = 65535) {s : StP} (hs : s = clsP g.st) (h2 : ¬ (storeP l s).2 = 0) : cnfP g l b = (GtP.offd { g with dn := orB g.dn b }, (storeP l s).1) := by subst hs; unfold cnfP; rw [if_pos h, if_neg h2]
theorem GtV.ok.cn {Z : List (Nat × Obj)} {g : GtV} (h : g.ok Z) {s : StV} (hs : s.ok Z) {dn : Int} (hd : 0 ≤ dn ∧ dn ≤ 65535) (au : Bool) : GtV.ok Z { g with dn := dn, st := s, au := au } := ⟨hs, h.q, h.qo, h.ql, h.rv, h.rk, h.ys, hd, h.tk, h.o, h.oo, h.ol⟩
theorem stc_scls1 (s : StV) (vs : List Vr) (p : Option Addr) (c : Nat) (E : List (Nat × Obj)) : setL (StV.c { s with vp := p, vs := vs, vc := c, vE := E }) (0 + 3) (.int .u32 0 :: .int .u8 0 :: nt0.k) = StV.c (s.cls vs p c E) := stc_sfl _ 0 0 nt0
theorem stc_scls0 (s : StV) : setL s.c (0 + 3) (.int .u32 0 :: .int .u8 0 :: nt0.k) = StV.c (s.cls s.vs s.vp s.vc s.vE) := stc_sfl _ 0 0 nt0


theorem orB_eq (x y : Int) : bitsOf .or .u16 x y = orB x y := rfl

theorem fl0 : ([(.int .u32 0), (.int .u8 0), (.slice none 0 0), (.slice none 0 0), (.int .u16 0), (.slice none 0 0), (.slice none 0 0), (.int .u16 0), (.slice none 0 0), (.slice none 0 0), (.int .u16 0), (.slice none 0 0), (.slice none 0 0), (.int .u16 0), (.slice none 0 0), (.slice none 0 0), (.int .u16 0), (.slice none 0 0), (.slice none 0 0), (.int .u16 0), (.slice none 0 0), (.slice none 0 0), (.int .u16 0), (.slice none 0 0), (.slice none 0 0), (.int .u16 0), (.slice none 0 0), (.slice none 0 0), (.int .u16 0), (.slice none 0 0), (.slice none 0 0), (.int .u16 0), (.slice none 0 0), (.slice none 0 0), (.int .u16 0), (.slice none 0 0), (.slice none 0 0), (.int .u16 0), (.slice none 0 0), (.slice none 0 0), (.int .u16 0), (.slice none 0 0), (.slice none 0 0), (.int .u16 0), (.slice none 0 0), (.slice none 0 0), (.int .u16 0), (.slice none 0 0), (.slice none 0 0), (.int .u16 0), (.int .u16 0), (.int .u16 0), (.int .u16 0), (.int .u16 0), (.int .u16 0), (.int .u16 0), (.int .u16 0), (.int .u16 0), (.int .u16 0), (.int .u16 0), (.int .u16 0), (.int .u16 0), (.int .u16 0), (.int .u16 0), (.int .u16 0), (.int .u16 0)] : List Value) = .int .u32 0 :: .int .u8 0 :: nt0.k := rfl

attribute [local irreducible] NtV.k StV.c LdV.c StV.E GtV.c GtV.t orB

set_option maxHeartbeats 4000000 in
theorem confirm_spec (Z : List (Nat × Obj)) (gb : Nat) (g : GtV) (l : LdV) (hg : g.ok Z) (hl9 : l.ok Z) (b : Int) (hvl : g.st.vs.length < 1000000000) : Sp Tryz.prog 52 #[.pointer (some ⟨gb, 0, none⟩), .int .u16 b] (GF gb g l Z) (fun v F' => v = .tuple #[] ∧ GO gb g.led (cnfP g.pl l.pl b) Z F') := by
  refine f_enter (args := [.pointer (some ⟨gb, 0, none⟩), .int .u16 b]) Tryz.func52 rfl Tryz.ntmps52 rfl ?_
  intro w0 w a hpre hl hh
  generalize hDD : List.map Prod.fst (GF gb g l Z) = D at hh ⊢
  simp only [GF] at hh
  have hob := orB_bd g.dn b
  simp only [slotsFrom, Nat.reduceAdd] at hl
  refine c_seq ?_
  refine c_seq ?_
  refine c_region ?_
  refine wl (wl_val hl rfl trivial (r_move hl rfl) ?_)
  clear hl a; intro a hl
  refine wl (wl_val hl rfl trivial (r_nilCheck hl rfl) ?_)
  clear hl a; intro a hl
  refine wl (wl_val hl rfl trivial (r_field hl rfl fld127_6) ?_)
  clear hl a; intro a hl
  refine wl (w_load hl hh rfl trivial one60 rfl (by repeat (first | exact find_head | apply find_tail | apply find_skip)) (by first | exact gtc_led _ | exact gtc_ep _ | exact gtc_vs _ | exact gtc_is _ | exact gtc_fid _ | exact gtc_ph _ | exact gtc_vd _ | exact gtc_q _ | exact gtc_rf _ | exact gtc_ys _ | exact gtc_dn _ | exact gtc_tk _ | exact gtc_au _ | exact gtc_o _ | exact gtc_off _ | exact stc_ph' _ | exact stc_fid' _ | exact stc_vd' _ | exact stc_ep' _ | exact stc_vs' _ | exact stc_is' _ | rfl) ?_)
  clear hl a; intro a hl
  refine wl (wl_val hl rfl trivial (r_move hl rfl) ?_)
  clear hl a; intro a hl
  refine wl (wl_val hl rfl trivial (r_or hl rfl rfl) ?_)
  clear hl a; intro a hl
  refine wl (wl_val hl rfl trivial (r_nilCheck hl rfl) ?_)
  clear hl a; intro a hl
  refine wl (wl_val hl rfl trivial (r_field hl rfl fld127_6) ?_)
  clear hl a; intro a hl
  refine wl (w_store hl hh trivial one60 rfl rfl (by repeat (first | exact find_head | apply find_tail | apply find_skip)) (by first | (simp; done) | (simp; omega) | (rw [gtc_len]; omega) | (rw [gtc_len]; simp; done) | (rw [stc_len]; omega) | (rw [stc_len]; simp; done)) (by first | rfl | assumption | (apply Row.one; assumption)) (by first | exact gtc_sys _ _ | exact gtc_sdn _ _ | exact gtc_stk _ _ | exact gtc_sau _ _ | exact gtc_soff _ _ | exact stc_svs _ _ _ _ E2 | (simp only [setL, List.getElem?_cons_zero, List.getElem?_cons_succ, Value.cells, List.take_zero, List.take_succ_cons, List.take_nil, List.drop_zero, List.drop_succ_cons, List.drop_nil, List.length_cons, List.length_nil, List.cons_append, List.nil_append, List.append_nil, Nat.zero_add, Nat.add_zero, Nat.reduceAdd, Nat.reduceBEq, Nat.reduceEqDiff, Nat.ble, BEq.rfl, Bool.and_true, Bool.and_self, cond_true, beq_self_eq_true]; rfl)) ?_)
  clear hh w; intro w hh
  refine w_nil ?_
  have hl2 := hl.add (t := 0) (hl.nil) rfl; clear hl; have hl := hl2; clear hl2
  rw [orB_eq] at hh
  refine then_normal ?_
  refine c_seq ?_
  refine c_region ?_
  refine wl (wl_val hl rfl trivial (r_move hl rfl) ?_)
  clear hl a; intro a hl
  refine wl (wl_val hl rfl trivial (r_nilCheck hl rfl) ?_)
  clear hl a; intro a hl
  refine wl (wl_val hl rfl trivial (r_field hl rfl fld127_6) ?_)
  clear hl a; intro a hl
  refine wl (w_load hl hh rfl trivial one60 rfl (by repeat (first | exact find_head | apply find_tail | apply find_skip)) (by first | exact gtc_led _ | exact gtc_ep _ | exact gtc_vs _ | exact gtc_is _ | exact gtc_fid _ | exact gtc_ph _ | exact gtc_vd _ | exact gtc_q _ | exact gtc_rf _ | exact gtc_ys _ | exact gtc_dn _ | exact gtc_tk _ | exact gtc_au _ | exact gtc_o _ | exact gtc_off _ | exact stc_ph' _ | exact stc_fid' _ | exact stc_vd' _ | exact stc_ep' _ | exact stc_vs' _ | exact stc_is' _ | rfl) ?_)
  clear hl a; intro a hl
  refine wl (wl_val hl rfl trivial (r_neq hl rfl rfl) ?_)
  clear hl a; intro a hl
  refine w_nil ?_
  have hl2 := hl.add (t := 0) (hl.add (t := 17) (hl.nil) rfl) rfl; clear hl; have hl := hl2; clear hl2
  refine then_normal ?_
  refine c_cond hl rfl ?_ ?_
  · intro hc0
    try simp only [decide_eq_true_eq, decide_eq_false_iff_not, Bool.not_eq_true', Bool.not_eq_false', Bool.not_eq_true, Bool.not_eq_false, Bool.and_eq_true, Bool.or_eq_true, Bool.and_eq_false_iff, Bool.or_eq_false_iff, Bool.not_not, ne_eq, Int.not_lt, Int.not_le, Decidable.not_not, beq_iff_eq, bne_iff_ne] at hc0
    have hne : ¬ orB g.dn b = 65535 := hc0
    refine wp_ret ?_
    refine then_ret ?_
    refine f_ret0 (F' := (gb, C (GtV.c { g with dn := orB g.dn b }) 127) :: (g.st.E ++ (g.qE ++ ((g.rb, MD (kInt .u32) g.rl g.rn) :: (g.oE ++ ((g.led, C (LdV.c l) 91) :: (l.d.E ++ Z))))))) hl hh rfl (by repeat (first | exact keeps_nil | apply keeps_cons (by repeat (first | exact find_head | apply find_tail | apply find_skip)) (by first  | rfl) | exact keeps_self | exact keeps_left | apply keeps_app | apply keeps_mv | apply keeps_skip)) ?_
    exact ⟨rfl, GO.same (g' := { g with dn := orB g.dn b }) (hg.cn hg.st hob g.au) hl9 (by rw [cn_n hne]; rfl) (by rw [cn_n hne]) rfl⟩
  · intro hc0
    try simp only [decide_eq_true_eq, decide_eq_false_iff_not, Bool.not_eq_true', Bool.not_eq_false', Bool.not_eq_true, Bool.not_eq_false, Bool.and_eq_true, Bool.or_eq_true, Bool.and_eq_false_iff, Bool.or_eq_false_iff, Bool.not_not, ne_eq, Int.not_lt, Int.not_le, Decidable.not_not, beq_iff_eq, bne_iff_ne] at hc0
    have heq : orB g.dn b = 65535 := hc0
    refine wp_skip ?_
    refine then_normal ?_
    refine c_seq ?_
    refine c_region ?_
    refine wl (wl_val hl rfl trivial (r_move hl rfl) ?_)
    clear hl a; intro a hl
    refine wl (wl_val hl rfl trivial (r_nilCheck hl rfl) ?_)
    clear hl a; intro a hl
    refine wl (wl_val hl rfl trivial (r_field hl rfl fld127_1) ?_)
    clear hl a; intro a hl
    refine wl (w_loadA hl hh rfl trivial agg89 rfl (by repeat (first | exact find_head | apply find_tail | apply find_skip)) (by first | exact gtc_st _ | exact stc_all _) (by exact stc_len _) ?_)
    clear hl a; intro a hl
    refine wl (w_call hl hh rfl trivial rfl cal27 rfl (cln_spec Z g.st hg.st) (by repeat (first | exact keeps_nil | apply keeps_cons (by repeat (first | exact find_head | apply find_tail | apply find_skip)) (by first  | rfl) | exact keeps_self | exact keeps_left | apply keeps_app | apply keeps_mv | apply keeps_skip)) trivial ?_)
    clear hl hh a w; intro vc Fc a w hR hl hh
    obtain ⟨s1, hs1, hps1, rfl, rfl⟩ := hR
    try simp only [List.cons_append, List.nil_append, List.append_assoc, List.append_nil] at hh
    rw [StV.E_eq s1] at hh
    try simp only [List.append_assoc, List.cons_append, List.nil_append] at hh
    have hsl1 : s1.vs.length = g.st.vs.length := by have h9 := congrArg (fun q => q.vs.length) hps1; simpa [StV.pl] using h9
    refine wl (w_alloc hl hh rfl trivial zero89 rfl ?_)
    clear hl hh a w; intro k4 a w hl hh
    refine wl (w_storeA hl hh trivial agg89 rfl rfl (by repeat (first | exact find_head | apply find_tail | apply find_skip)) (by exact stc_len _) (by first | exact Nat.le_refl 70 | (rw [gtc_len]; omega)) (by exact stc_one _) (by first | exact setL_all (show 70 = _ from (stc_len _).symm) | exact gtc_sst _ _) ?_)
    clear hh w; intro w hh
    refine w_nil ?_
    have hl2 := hl.add (t := 0) (hl.add (t := 4) (hl.nil) rfl) rfl; clear hl; have hl := hl2; clear hl2
    refine then_normal ?_
    refine c_seq ?_
    refine c_seq ?_
    refine c_region ?_
    refine wl (wl_val hl rfl trivial (r_field hl rfl fld89_3) ?_)
    clear hl a; intro a hl
    refine wl (wl_val hl rfl trivial (r_field hl rfl fld87_1) ?_)
    clear hl a; intro a hl
    refine wl (w_load hl hh rfl trivial one76 rfl (by repeat (first | exact find_head | apply find_tail | apply find_skip)) (by first | exact gtc_led _ | exact gtc_ep _ | exact gtc_vs _ | exact gtc_is _ | exact gtc_fid _ | exact gtc_ph _ | exact gtc_vd _ | exact gtc_q _ | exact gtc_rf _ | exact gtc_ys _ | exact gtc_dn _ | exact gtc_tk _ | exact gtc_au _ | exact gtc_o _ | exact gtc_off _ | exact stc_ph' _ | exact stc_fid' _ | exact stc_vd' _ | exact stc_ep' _ | exact stc_vs' _ | exact stc_is' _ | rfl) ?_)
    clear hl a; intro a hl
    refine wl (wl_val hl rfl trivial (r_eql hl rfl rfl) ?_)
    clear hl a; intro a hl
    refine w_nil ?_
    have hl2 := hl.add (t := 0) (hl.add (t := 4) (hl.add (t := 26) (hl.nil) rfl) rfl) rfl; clear hl; have hl := hl2; clear hl2
    refine then_normal ?_
    refine c_cond hl rfl ?_ ?_
    · intro hc1
      try simp only [decide_eq_true_eq, decide_eq_false_iff_not, Bool.not_eq_true', Bool.not_eq_false', Bool.not_eq_true, Bool.not_eq_false, Bool.and_eq_true, Bool.or_eq_true, Bool.and_eq_false_iff, Bool.or_eq_false_iff, Bool.not_not, ne_eq, Int.not_lt, Int.not_le, Decidable.not_not, beq_iff_eq, bne_iff_ne] at hc1
      have hvs : (s1.vs ++ [⟨s1.fid, s1.fn⟩]) = (if s1.ph = 2 then s1.vs ++ [⟨s1.fid, s1.fn⟩] else s1.vs) := by rw [if_pos hc1]
      have hvo2 : ∀ x, x ∈ s1.vs ++ [(⟨s1.fid, s1.fn⟩ : Vr)] → x.n.ok Z ∧ 0 ≤ x.id ∧ x.id ≤ 4294967295 := fun x hx => by
        rcases List.mem_append.1 hx with h9 | h9
        · exact hs1.vo x h9
        · rw [List.mem_singleton.1 h9]; exact ⟨hs1.fn, hs1.fid⟩
      refine c_region ?_
      refine wl (wl_val hl rfl trivial (r_field hl rfl fld89_1) ?_)
      clear hl a; intro a hl
      refine wl (w_load hl hh rfl trivial one85 rfl (by repeat (first | exact find_head | apply find_tail | apply find_skip)) (by first | exact gtc_led _ | exact gtc_ep _ | exact gtc_vs _ | exact gtc_is _ | exact gtc_fid _ | exact gtc_ph _ | exact gtc_vd _ | exact gtc_q _ | exact gtc_rf _ | exact gtc_ys _ | exact gtc_dn _ | exact gtc_tk _ | exact gtc_au _ | exact gtc_o _ | exact gtc_off _ | exact stc_ph' _ | exact stc_fid' _ | exact stc_vd' _ | exact stc_ep' _ | exact stc_vs' _ | exact stc_is' _ | rfl) ?_)
      clear hl a; intro a hl
      refine wl (wl_val hl rfl trivial (r_field hl rfl fld89_3) ?_)
      clear hl a; intro a hl
      refine wl (wl_val hl rfl trivial (r_field hl rfl fld87_0) ?_)
      clear hl a; intro a hl
      refine wl (w_load hl hh rfl trivial one36 rfl (by repeat (first | exact find_head | apply find_tail | apply find_skip)) (by first | exact gtc_led _ | exact gtc_ep _ | exact gtc_vs _ | exact gtc_is _ | exact gtc_fid _ | exact gtc_ph _ | exact gtc_vd _ | exact gtc_q _ | exact gtc_rf _ | exact gtc_ys _ | exact gtc_dn _ | exact gtc_tk _ | exact gtc_au _ | exact gtc_o _ | exact gtc_off _ | exact stc_ph' _ | exact stc_fid' _ | exact stc_vd' _ | exact stc_ep' _ | exact stc_vs' _ | exact stc_is' _ | rfl) ?_)
      clear hl a; intro a hl
      refine wl (wl_val hl rfl trivial (r_field hl rfl fld89_3) ?_)
      clear hl a; intro a hl
      refine wl (wl_val hl rfl trivial (r_field hl rfl fld87_2) ?_)
      clear hl a; intro a hl
      refine wl (w_loadA hl hh rfl trivial agg66 rfl (by repeat (first | exact find_head | apply find_tail | apply find_skip)) (by first | exact gtc_nx _ | exact stc_nx' _) (by exact ntk_len _) ?_)
      clear hl a; intro a hl
      refine wl (wl_val hl rfl trivial (r_build hl rfl zero84 bld84 (fill93 rfl _ _)) ?_)
      clear hl a; intro a hl
      refine wl (w_buildSlice hl hh rfl trivial app85 zero84 rfl rfl rfl rfl rfl (fill1 rfl (vrc_len _)) ?_)
      clear hl hh a w; intro k36 a w hl hh
      refine wl (w_append (news := (vrc ⟨s1.fid, s1.fn⟩)) hl hh rfl trivial app85 rfl rfl rfl hs1.v (by repeat (first | exact keeps_nil | apply keeps_cons (by repeat (first | exact find_head | apply find_tail | apply find_skip)) (by first  | rfl) | exact keeps_self | exact keeps_left | apply keeps_app | apply keeps_mv | apply keeps_skip)) (hh.mem _ _ (Find.mem (by repeat (first | exact find_head | apply find_tail | apply find_skip)))) (by rw [List.drop_zero]; exact List.take_length) (vrc_len _) (vrc_one _) (by omega) (by omega) (by omega) (by decide) ?_)
      clear hl hh a w; intro rv2 E2 a w hR2 hl hh
      have hh3 := hh.comm; clear hh; have hh := hh3; clear hh3
      try simp only [List.cons_append, List.nil_append, List.append_assoc, List.append_nil] at hh
      obtain ⟨p6, c6, hv6⟩ := row_val hR2
      rw [hv6] at hl hR2
      rw [show s1.vs.length + 1 = (s1.vs ++ [(⟨s1.fid, s1.fn⟩ : Vr)]).length by simp] at hl hR2
      rw [show fl vrc s1.vs ++ vrc ⟨s1.fid, s1.fn⟩ = fl vrc (s1.vs ++ [⟨s1.fid, s1.fn⟩]) by rw [fl_app, fl_sing]] at hR2
      refine wl (wl_val hl rfl trivial (r_field hl rfl fld89_1) ?_)
      clear hl a; intro a hl
      refine wl (w_store hl hh trivial one85 rfl rfl (by repeat (first | exact find_head | apply find_tail | apply find_skip)) (by first | (simp; done) | (simp; omega) | (rw [gtc_len]; omega) | (rw [gtc_len]; simp; done) | (rw [stc_len]; omega) | (rw [stc_len]; simp; done)) (by first | rfl | assumption | (apply Row.one; assumption)) (by first | exact gtc_sys _ _ | exact gtc_sdn _ _ | exact gtc_stk _ _ | exact gtc_sau _ _ | exact gtc_soff _ _ | exact stc_svs _ _ _ _ E2 | (simp only [setL, List.getElem?_cons_zero, List.getElem?_cons_succ, Value.cells, List.take_zero, List.take_succ_cons, List.take_nil, List.drop_zero, List.drop_succ_cons, List.drop_nil, List.length_cons, List.length_nil, List.cons_append, List.nil_append, List.append_nil, Nat.zero_add, Nat.add_zero, Nat.reduceAdd, Nat.reduceBEq, Nat.reduceEqDiff, Nat.ble, BEq.rfl, Bool.and_true, Bool.and_self, cond_true, beq_self_eq_true]; rfl)) ?_)
      clear hh w; intro w hh
      refine w_nil ?_
      have hl2 := hl.add (t := 0) (hl.add (t := 4) (hl.nil) rfl) rfl; clear hl; have hl := hl2; clear hl2
      refine then_normal ?_
      refine c_seq ?_
      refine c_region ?_
      refine wl (wl_val hl rfl trivial (r_build (cs := .int .u32 0 :: .int .u8 0 :: nt0.k) hl rfl zero87 bld87 (by rw [← fl0]; rfl)) ?_)
      clear hl a; intro a hl
      refine wl (wl_val hl rfl trivial (r_field hl rfl fld89_3) ?_)
      clear hl a; intro a hl
      refine wl (w_storeA hl hh trivial agg87 rfl rfl (by repeat (first | exact find_head | apply find_tail | apply find_skip)) (by (simp [ntk_len]; done)) (by (rw [stc_len]; omega)) (by (rw [List.all_cons, List.all_cons, ntk_one]; rfl)) (by first | exact stc_scls1 s1 (s1.vs ++ [⟨s1.fid, s1.fn⟩]) p6 c6 E2 | exact stc_scls0 s1) ?_)
      clear hh w; intro w hh
      refine w_nil ?_
      have hl2 := hl.add (t := 0) (hl.add (t := 4) (hl.nil) rfl) rfl; clear hl; have hl := hl2; clear hl2
      refine then_normal ?_
      refine c_seq ?_
      refine c_region ?_
      refine wl (wl_val hl rfl trivial (r_move hl rfl) ?_)
      clear hl a; intro a hl
      refine wl (w_loadA hl hh rfl trivial agg89 rfl (by repeat (first | exact find_head | apply find_tail | apply find_skip)) (by first | exact gtc_st _ | exact stc_all _) (by exact stc_len _) ?_)
      clear hl a; intro a hl
      refine wl (w_call hl hh rfl trivial rfl cal46 rfl (gstore3 Z gb { g with dn := orB g.dn b } l hl9 _ (by first | exact cls_ok hs1 hR2 hvo2 (by simp only [List.length_append, List.length_singleton]; omega) (by simp) | exact cls_ok hs1 hs1.v hs1.vo hs1.vl hs1.v1) false) (by repeat (first | exact keeps_nil | apply keeps_cons (by repeat (first | exact find_head | apply find_tail | apply find_skip)) (by first  | rfl) | exact keeps_self | exact keeps_left | apply keeps_app | apply keeps_mv | apply keeps_skip)) trivial ?_)
      clear hl hh a w; intro vc Fc a w hR hl hh
      rcases hR with ⟨l', hr, hl', hp', rfl, rfl⟩ | ⟨l', hr, hl', hp', rfl, rfl⟩ | ⟨l', hr, hl', hp', rfl, rfl⟩
      ·
        try simp only [List.cons_append, List.nil_append, List.append_nil] at hh
        try simp only [List.append_assoc, List.cons_append, List.nil_append] at hh
        first | refine wl (wl_val hl rfl trivial (r_eql_ifcN hl rfl ifc102) ?_) | refine wl (wl_val hl rfl trivial (r_eql_ifcS hl rfl ifc102) ?_)
        clear hl a; intro a hl
        refine w_nil ?_
        have hl2 := hl.add (t := 0) (hl.add (t := 44) (hl.nil) rfl) rfl; clear hl; have hl := hl2; clear hl2
        refine then_normal ?_
        refine c_condT hl rfl ?_
        refine c_region ?_
        refine wl (wl_val hl rfl trivial (r_move hl rfl) ?_)
        clear hl a; intro a hl
        refine wl (wl_val hl rfl trivial (r_nilCheck hl rfl) ?_)
        clear hl a; intro a hl
        refine wl (wl_val hl rfl trivial (r_field hl rfl fld127_8) ?_)
        clear hl a; intro a hl
        refine wl (w_store hl hh trivial one4 rfl rfl (by repeat (first | exact find_head | apply find_tail | apply find_skip)) (by first | (simp; done) | (simp; omega) | (rw [gtc_len]; omega) | (rw [gtc_len]; simp; done) | (rw [stc_len]; omega) | (rw [stc_len]; simp; done)) (by first | rfl | assumption | (apply Row.one; assumption)) (by first | exact gtc_sys _ _ | exact gtc_sdn _ _ | exact gtc_stk _ _ | exact gtc_sau _ _ | exact gtc_soff _ _ | exact stc_svs _ _ _ _ E2 | (simp only [setL, List.getElem?_cons_zero, List.getElem?_cons_succ, Value.cells, List.take_zero, List.take_succ_cons, List.take_nil, List.drop_zero, List.drop_succ_cons, List.drop_nil, List.length_cons, List.length_nil, List.cons_append, List.nil_append, List.append_nil, Nat.zero_add, Nat.add_zero, Nat.reduceAdd, Nat.reduceBEq, Nat.reduceEqDiff, Nat.ble, BEq.rfl, Bool.and_true, Bool.and_self, cond_true, beq_self_eq_true]; rfl)) ?_)
        clear hh w; intro w hh
        refine w_nil ?_
        have hl2 := hl.nil; clear hl; have hl := hl2; clear hl2
        try simp only at hh
        first
        | (exfalso; have h9 := storeP_b l.pl (s1.cls (s1.vs ++ [(⟨s1.fid, s1.fn⟩ : Vr)]) p6 c6 E2).pl; have h8 : (storeP l.pl (s1.cls (s1.vs ++ [(⟨s1.fid, s1.fn⟩ : Vr)]) p6 c6 E2).pl).2 = 1 := hr; omega)
        | (refine f_end0 (F' := (gb, C (GtV.c { g with dn := orB g.dn b, st := (s1.cls (s1.vs ++ [(⟨s1.fid, s1.fn⟩ : Vr)]) p6 c6 E2), au := false }) 127) :: ((s1.cls (s1.vs ++ [(⟨s1.fid, s1.fn⟩ : Vr)]) p6 c6 E2).E ++ (g.qE ++ ((g.rb, MD (kInt .u32) g.rl g.rn) :: (g.oE ++ ((g.led, C (LdV.c l') 91) :: (l'.d.E ++ Z))))))) hl hh rfl (by repeat (first | exact keeps_nil | apply keeps_cons (by repeat (first | exact find_head | apply find_tail | apply find_skip)) (by first  | rfl) | exact keeps_self | exact keeps_left | apply keeps_app | apply keeps_mv | apply keeps_skip)) ?_; refine ⟨rfl, GO.same (g' := { g with dn := orB g.dn b, st := (s1.cls (s1.vs ++ [(⟨s1.fid, s1.fn⟩ : Vr)]) p6 c6 E2), au := false }) (hg.cn (cls_ok hs1 hR2 hvo2 (by simp only [List.length_append, List.length_singleton]; omega) (by simp)) hob false) hl' ?_ ?_ rfl⟩; (rw [cn_0 (g := g.pl) (l := l.pl) (b := b) heq (s := (s1.cls (s1.vs ++ [(⟨s1.fid, s1.fn⟩ : Vr)]) p6 c6 E2).pl) ((cls_pl hvs).trans (congrArg clsP hps1)) hr]; rfl); (rw [cn_0 (g := g.pl) (l := l.pl) (b := b) heq (s := (s1.cls (s1.vs ++ [(⟨s1.fid, s1.fn⟩ : Vr)]) p6 c6 E2).pl) ((cls_pl hvs).trans (congrArg clsP hps1)) hr]; exact hp'))
        | (refine f_end0 (F' := (gb, C (GtV.c (GtV.offd { g with dn := orB g.dn b })) 127) :: (g.st.E ++ (g.qE ++ ((g.rb, MD (kInt .u32) g.rl g.rn) :: ([] ++ ((g.led, C (LdV.c l') 91) :: (l'.d.E ++ Z))))))) hl hh rfl (by repeat (first | exact keeps_nil | apply keeps_cons (by repeat (first | exact find_head | apply find_tail | apply find_skip)) (by first  | rfl) | exact keeps_self | exact keeps_left | apply keeps_app | apply keeps_mv | apply keeps_skip)) ?_; refine ⟨rfl, GO.same (g' := GtV.offd { g with dn := orB g.dn b }) (offd_ok (hg.cn hg.st hob g.au)) hl' ?_ ?_ rfl⟩; (rw [cn_2 (g := g.pl) (l := l.pl) (b := b) heq (s := (s1.cls (s1.vs ++ [(⟨s1.fid, s1.fn⟩ : Vr)]) p6 c6 E2).pl) ((cls_pl hvs).trans (congrArg clsP hps1)) (by show ¬ (trP false l.pl (s1.cls (s1.vs ++ [(⟨s1.fid, s1.fn⟩ : Vr)]) p6 c6 E2).pl).2 = 0; omega)]; rfl); (rw [cn_2 (g := g.pl) (l := l.pl) (b := b) heq (s := (s1.cls (s1.vs ++ [(⟨s1.fid, s1.fn⟩ : Vr)]) p6 c6 E2).pl) ((cls_pl hvs).trans (congrArg clsP hps1)) (by show ¬ (trP false l.pl (s1.cls (s1.vs ++ [(⟨s1.fid, s1.fn⟩ : Vr)]) p6 c6 E2).pl).2 = 0; omega)]; exact hp'))
        | (exfalso; have h9 := storeP_b l.pl (s1.cls s1.vs s1.vp s1.vc s1.vE).pl; have h8 : (storeP l.pl (s1.cls s1.vs s1.vp s1.vc s1.vE).pl).2 = 1 := hr; omega)
        | (refine f_end0 (F' := (gb, C (GtV.c { g with dn := orB g.dn b, st := (s1.cls s1.vs s1.vp s1.vc s1.vE), au := false }) 127) :: ((s1.cls s1.vs s1.vp s1.vc s1.vE).E ++ (g.qE ++ ((g.rb, MD (kInt .u32) g.rl g.rn) :: (g.oE ++ ((g.led, C (LdV.c l') 91) :: (l'.d.E ++ Z))))))) hl hh rfl (by repeat (first | exact keeps_nil | apply keeps_cons (by repeat (first | exact find_head | apply find_tail | apply find_skip)) (by first  | rfl) | exact keeps_self | exact keeps_left | apply keeps_app | apply keeps_mv | apply keeps_skip)) ?_; refine ⟨rfl, GO.same (g' := { g with dn := orB g.dn b, st := (s1.cls s1.vs s1.vp s1.vc s1.vE), au := false }) (hg.cn (cls_ok hs1 hs1.v hs1.vo hs1.vl hs1.v1) hob false) hl' ?_ ?_ rfl⟩; (rw [cn_0 (g := g.pl) (l := l.pl) (b := b) heq (s := (s1.cls s1.vs s1.vp s1.vc s1.vE).pl) ((cls_pl hvs).trans (congrArg clsP hps1)) hr]; rfl); (rw [cn_0 (g := g.pl) (l := l.pl) (b := b) heq (s := (s1.cls s1.vs s1.vp s1.vc s1.vE).pl) ((cls_pl hvs).trans (congrArg clsP hps1)) hr]; exact hp'))
        | (refine f_end0 (F' := (gb, C (GtV.c (GtV.offd { g with dn := orB g.dn b })) 127) :: (g.st.E ++ (g.qE ++ ((g.rb, MD (kInt .u32) g.rl g.rn) :: ([] ++ ((g.led, C (LdV.c l') 91) :: (l'.d.E ++ Z))))))) hl hh rfl (by repeat (first | exact keeps_nil | apply keeps_cons (by repeat (first | exact find_head | apply find_tail | apply find_skip)) (by first  | rfl) | exact keeps_self | exact keeps_left | apply keeps_app | apply keeps_mv | apply keeps_skip)) ?_; refine ⟨rfl, GO.same (g' := GtV.offd { g with dn := orB g.dn b }) (offd_ok (hg.cn hg.st hob g.au)) hl' ?_ ?_ rfl⟩; (rw [cn_2 (g := g.pl) (l := l.pl) (b := b) heq (s := (s1.cls s1.vs s1.vp s1.vc s1.vE).pl) ((cls_pl hvs).trans (congrArg clsP hps1)) (by show ¬ (trP false l.pl (s1.cls s1.vs s1.vp s1.vc s1.vE).pl).2 = 0; omega)]; rfl); (rw [cn_2 (g := g.pl) (l := l.pl) (b := b) heq (s := (s1.cls s1.vs s1.vp s1.vc s1.vE).pl) ((cls_pl hvs).trans (congrArg clsP hps1)) (by show ¬ (trP false l.pl (s1.cls s1.vs s1.vp s1.vc s1.vE).pl).2 = 0; omega)]; exact hp'))
      ·
        try simp only [List.cons_append, List.nil_append, List.append_nil] at hh
        try simp only [List.append_assoc, List.cons_append, List.nil_append] at hh
        first | refine wl (wl_val hl rfl trivial (r_eql_ifcN hl rfl ifc102) ?_) | refine wl (wl_val hl rfl trivial (r_eql_ifcS hl rfl ifc102) ?_)
        clear hl a; intro a hl
        refine w_nil ?_
        have hl2 := hl.add (t := 0) (hl.add (t := 44) (hl.nil) rfl) rfl; clear hl; have hl := hl2; clear hl2
        refine then_normal ?_
        refine c_condF hl rfl ?_
        refine wp_skip ?_
        try simp only at hh
        first
        | (exfalso; have h9 := storeP_b l.pl (s1.cls (s1.vs ++ [(⟨s1.fid, s1.fn⟩ : Vr)]) p6 c6 E2).pl; have h8 : (storeP l.pl (s1.cls (s1.vs ++ [(⟨s1.fid, s1.fn⟩ : Vr)]) p6 c6 E2).pl).2 = 1 := hr; omega)
        | (refine f_end0 (F' := (gb, C (GtV.c { g with dn := orB g.dn b, st := (s1.cls (s1.vs ++ [(⟨s1.fid, s1.fn⟩ : Vr)]) p6 c6 E2), au := false }) 127) :: ((s1.cls (s1.vs ++ [(⟨s1.fid, s1.fn⟩ : Vr)]) p6 c6 E2).E ++ (g.qE ++ ((g.rb, MD (kInt .u32) g.rl g.rn) :: (g.oE ++ ((g.led, C (LdV.c l') 91) :: (l'.d.E ++ Z))))))) hl hh rfl (by repeat (first | exact keeps_nil | apply keeps_cons (by repeat (first | exact find_head | apply find_tail | apply find_skip)) (by first  | rfl) | exact keeps_self | exact keeps_left | apply keeps_app | apply keeps_mv | apply keeps_skip)) ?_; refine ⟨rfl, GO.same (g' := { g with dn := orB g.dn b, st := (s1.cls (s1.vs ++ [(⟨s1.fid, s1.fn⟩ : Vr)]) p6 c6 E2), au := false }) (hg.cn (cls_ok hs1 hR2 hvo2 (by simp only [List.length_append, List.length_singleton]; omega) (by simp)) hob false) hl' ?_ ?_ rfl⟩; (rw [cn_0 (g := g.pl) (l := l.pl) (b := b) heq (s := (s1.cls (s1.vs ++ [(⟨s1.fid, s1.fn⟩ : Vr)]) p6 c6 E2).pl) ((cls_pl hvs).trans (congrArg clsP hps1)) hr]; rfl); (rw [cn_0 (g := g.pl) (l := l.pl) (b := b) heq (s := (s1.cls (s1.vs ++ [(⟨s1.fid, s1.fn⟩ : Vr)]) p6 c6 E2).pl) ((cls_pl hvs).trans (congrArg clsP hps1)) hr]; exact hp'))
        | (refine f_end0 (F' := (gb, C (GtV.c (GtV.offd { g with dn := orB g.dn b })) 127) :: (g.st.E ++ (g.qE ++ ((g.rb, MD (kInt .u32) g.rl g.rn) :: ([] ++ ((g.led, C (LdV.c l') 91) :: (l'.d.E ++ Z))))))) hl hh rfl (by repeat (first | exact keeps_nil | apply keeps_cons (by repeat (first | exact find_head | apply find_tail | apply find_skip)) (by first  | rfl) | exact keeps_self | exact keeps_left | apply keeps_app | apply keeps_mv | apply keeps_skip)) ?_; refine ⟨rfl, GO.same (g' := GtV.offd { g with dn := orB g.dn b }) (offd_ok (hg.cn hg.st hob g.au)) hl' ?_ ?_ rfl⟩; (rw [cn_2 (g := g.pl) (l := l.pl) (b := b) heq (s := (s1.cls (s1.vs ++ [(⟨s1.fid, s1.fn⟩ : Vr)]) p6 c6 E2).pl) ((cls_pl hvs).trans (congrArg clsP hps1)) (by show ¬ (trP false l.pl (s1.cls (s1.vs ++ [(⟨s1.fid, s1.fn⟩ : Vr)]) p6 c6 E2).pl).2 = 0; omega)]; rfl); (rw [cn_2 (g := g.pl) (l := l.pl) (b := b) heq (s := (s1.cls (s1.vs ++ [(⟨s1.fid, s1.fn⟩ : Vr)]) p6 c6 E2).pl) ((cls_pl hvs).trans (congrArg clsP hps1)) (by show ¬ (trP false l.pl (s1.cls (s1.vs ++ [(⟨s1.fid, s1.fn⟩ : Vr)]) p6 c6 E2).pl).2 = 0; omega)]; exact hp'))
        | (exfalso; have h9 := storeP_b l.pl (s1.cls s1.vs s1.vp s1.vc s1.vE).pl; have h8 : (storeP l.pl (s1.cls s1.vs s1.vp s1.vc s1.vE).pl).2 = 1 := hr; omega)
        | (refine f_end0 (F' := (gb, C (GtV.c { g with dn := orB g.dn b, st := (s1.cls s1.vs s1.vp s1.vc s1.vE), au := false }) 127) :: ((s1.cls s1.vs s1.vp s1.vc s1.vE).E ++ (g.qE ++ ((g.rb, MD (kInt .u32) g.rl g.rn) :: (g.oE ++ ((g.led, C (LdV.c l') 91) :: (l'.d.E ++ Z))))))) hl hh rfl (by repeat (first | exact keeps_nil | apply keeps_cons (by repeat (first | exact find_head | apply find_tail | apply find_skip)) (by first  | rfl) | exact keeps_self | exact keeps_left | apply keeps_app | apply keeps_mv | apply keeps_skip)) ?_; refine ⟨rfl, GO.same (g' := { g with dn := orB g.dn b, st := (s1.cls s1.vs s1.vp s1.vc s1.vE), au := false }) (hg.cn (cls_ok hs1 hs1.v hs1.vo hs1.vl hs1.v1) hob false) hl' ?_ ?_ rfl⟩; (rw [cn_0 (g := g.pl) (l := l.pl) (b := b) heq (s := (s1.cls s1.vs s1.vp s1.vc s1.vE).pl) ((cls_pl hvs).trans (congrArg clsP hps1)) hr]; rfl); (rw [cn_0 (g := g.pl) (l := l.pl) (b := b) heq (s := (s1.cls s1.vs s1.vp s1.vc s1.vE).pl) ((cls_pl hvs).trans (congrArg clsP hps1)) hr]; exact hp'))
        | (refine f_end0 (F' := (gb, C (GtV.c (GtV.offd { g with dn := orB g.dn b })) 127) :: (g.st.E ++ (g.qE ++ ((g.rb, MD (kInt .u32) g.rl g.rn) :: ([] ++ ((g.led, C (LdV.c l') 91) :: (l'.d.E ++ Z))))))) hl hh rfl (by repeat (first | exact keeps_nil | apply keeps_cons (by repeat (first | exact find_head | apply find_tail | apply find_skip)) (by first  | rfl) | exact keeps_self | exact keeps_left | apply keeps_app | apply keeps_mv | apply keeps_skip)) ?_; refine ⟨rfl, GO.same (g' := GtV.offd { g with dn := orB g.dn b }) (offd_ok (hg.cn hg.st hob g.au)) hl' ?_ ?_ rfl⟩; (rw [cn_2 (g := g.pl) (l := l.pl) (b := b) heq (s := (s1.cls s1.vs s1.vp s1.vc s1.vE).pl) ((cls_pl hvs).trans (congrArg clsP hps1)) (by show ¬ (trP false l.pl (s1.cls s1.vs s1.vp s1.vc s1.vE).pl).2 = 0; omega)]; rfl); (rw [cn_2 (g := g.pl) (l := l.pl) (b := b) heq (s := (s1.cls s1.vs s1.vp s1.vc s1.vE).pl) ((cls_pl hvs).trans (congrArg clsP hps1)) (by show ¬ (trP false l.pl (s1.cls s1.vs s1.vp s1.vc s1.vE).pl).2 = 0; omega)]; exact hp'))
      ·
        try simp only [List.cons_append, List.nil_append, List.append_nil] at hh
        try simp only [List.append_assoc, List.cons_append, List.nil_append] at hh
        first | refine wl (wl_val hl rfl trivial (r_eql_ifcN hl rfl ifc102) ?_) | refine wl (wl_val hl rfl trivial (r_eql_ifcS hl rfl ifc102) ?_)
        clear hl a; intro a hl
        refine w_nil ?_
        have hl2 := hl.add (t := 0) (hl.add (t := 44) (hl.nil) rfl) rfl; clear hl; have hl := hl2; clear hl2
        refine then_normal ?_
        refine c_condF hl rfl ?_
        refine wp_skip ?_
        try simp only at hh
        first
        | (exfalso; have h9 := storeP_b l.pl (s1.cls (s1.vs ++ [(⟨s1.fid, s1.fn⟩ : Vr)]) p6 c6 E2).pl; have h8 : (storeP l.pl (s1.cls (s1.vs ++ [(⟨s1.fid, s1.fn⟩ : Vr)]) p6 c6 E2).pl).2 = 1 := hr; omega)
        | (refine f_end0 (F' := (gb, C (GtV.c { g with dn := orB g.dn b, st := (s1.cls (s1.vs ++ [(⟨s1.fid, s1.fn⟩ : Vr)]) p6 c6 E2), au := false }) 127) :: ((s1.cls (s1.vs ++ [(⟨s1.fid, s1.fn⟩ : Vr)]) p6 c6 E2).E ++ (g.qE ++ ((g.rb, MD (kInt .u32) g.rl g.rn) :: (g.oE ++ ((g.led, C (LdV.c l') 91) :: (l'.d.E ++ Z))))))) hl hh rfl (by repeat (first | exact keeps_nil | apply keeps_cons (by repeat (first | exact find_head | apply find_tail | apply find_skip)) (by first  | rfl) | exact keeps_self | exact keeps_left | apply keeps_app | apply keeps_mv | apply keeps_skip)) ?_; refine ⟨rfl, GO.same (g' := { g with dn := orB g.dn b, st := (s1.cls (s1.vs ++ [(⟨s1.fid, s1.fn⟩ : Vr)]) p6 c6 E2), au := false }) (hg.cn (cls_ok hs1 hR2 hvo2 (by simp only [List.length_append, List.length_singleton]; omega) (by simp)) hob false) hl' ?_ ?_ rfl⟩; (rw [cn_0 (g := g.pl) (l := l.pl) (b := b) heq (s := (s1.cls (s1.vs ++ [(⟨s1.fid, s1.fn⟩ : Vr)]) p6 c6 E2).pl) ((cls_pl hvs).trans (congrArg clsP hps1)) hr]; rfl); (rw [cn_0 (g := g.pl) (l := l.pl) (b := b) heq (s := (s1.cls (s1.vs ++ [(⟨s1.fid, s1.fn⟩ : Vr)]) p6 c6 E2).pl) ((cls_pl hvs).trans (congrArg clsP hps1)) hr]; exact hp'))
        | (refine f_end0 (F' := (gb, C (GtV.c (GtV.offd { g with dn := orB g.dn b })) 127) :: (g.st.E ++ (g.qE ++ ((g.rb, MD (kInt .u32) g.rl g.rn) :: ([] ++ ((g.led, C (LdV.c l') 91) :: (l'.d.E ++ Z))))))) hl hh rfl (by repeat (first | exact keeps_nil | apply keeps_cons (by repeat (first | exact find_head | apply find_tail | apply find_skip)) (by first  | rfl) | exact keeps_self | exact keeps_left | apply keeps_app | apply keeps_mv | apply keeps_skip)) ?_; refine ⟨rfl, GO.same (g' := GtV.offd { g with dn := orB g.dn b }) (offd_ok (hg.cn hg.st hob g.au)) hl' ?_ ?_ rfl⟩; (rw [cn_2 (g := g.pl) (l := l.pl) (b := b) heq (s := (s1.cls (s1.vs ++ [(⟨s1.fid, s1.fn⟩ : Vr)]) p6 c6 E2).pl) ((cls_pl hvs).trans (congrArg clsP hps1)) (by show ¬ (trP false l.pl (s1.cls (s1.vs ++ [(⟨s1.fid, s1.fn⟩ : Vr)]) p6 c6 E2).pl).2 = 0; omega)]; rfl); (rw [cn_2 (g := g.pl) (l := l.pl) (b := b) heq (s := (s1.cls (s1.vs ++ [(⟨s1.fid, s1.fn⟩ : Vr)]) p6 c6 E2).pl) ((cls_pl hvs).trans (congrArg clsP hps1)) (by show ¬ (trP false l.pl (s1.cls (s1.vs ++ [(⟨s1.fid, s1.fn⟩ : Vr)]) p6 c6 E2).pl).2 = 0; omega)]; exact hp'))
        | (exfalso; have h9 := storeP_b l.pl (s1.cls s1.vs s1.vp s1.vc s1.vE).pl; have h8 : (storeP l.pl (s1.cls s1.vs s1.vp s1.vc s1.vE).pl).2 = 1 := hr; omega)
        | (refine f_end0 (F' := (gb, C (GtV.c { g with dn := orB g.dn b, st := (s1.cls s1.vs s1.vp s1.vc s1.vE), au := false }) 127) :: ((s1.cls s1.vs s1.vp s1.vc s1.vE).E ++ (g.qE ++ ((g.rb, MD (kInt .u32) g.rl g.rn) :: (g.oE ++ ((g.led, C (LdV.c l') 91) :: (l'.d.E ++ Z))))))) hl hh rfl (by repeat (first | exact keeps_nil | apply keeps_cons (by repeat (first | exact find_head | apply find_tail | apply find_skip)) (by first  | rfl) | exact keeps_self | exact keeps_left | apply keeps_app | apply keeps_mv | apply keeps_skip)) ?_; refine ⟨rfl, GO.same (g' := { g with dn := orB g.dn b, st := (s1.cls s1.vs s1.vp s1.vc s1.vE), au := false }) (hg.cn (cls_ok hs1 hs1.v hs1.vo hs1.vl hs1.v1) hob false) hl' ?_ ?_ rfl⟩; (rw [cn_0 (g := g.pl) (l := l.pl) (b := b) heq (s := (s1.cls s1.vs s1.vp s1.vc s1.vE).pl) ((cls_pl hvs).trans (congrArg clsP hps1)) hr]; rfl); (rw [cn_0 (g := g.pl) (l := l.pl) (b := b) heq (s := (s1.cls s1.vs s1.vp s1.vc s1.vE).pl) ((cls_pl hvs).trans (congrArg clsP hps1)) hr]; exact hp'))
        | (refine f_end0 (F' := (gb, C (GtV.c (GtV.offd { g with dn := orB g.dn b })) 127) :: (g.st.E ++ (g.qE ++ ((g.rb, MD (kInt .u32) g.rl g.rn) :: ([] ++ ((g.led, C (LdV.c l') 91) :: (l'.d.E ++ Z))))))) hl hh rfl (by repeat (first | exact keeps_nil | apply keeps_cons (by repeat (first | exact find_head | apply find_tail | apply find_skip)) (by first  | rfl) | exact keeps_self | exact keeps_left | apply keeps_app | apply keeps_mv | apply keeps_skip)) ?_; refine ⟨rfl, GO.same (g' := GtV.offd { g with dn := orB g.dn b }) (offd_ok (hg.cn hg.st hob g.au)) hl' ?_ ?_ rfl⟩; (rw [cn_2 (g := g.pl) (l := l.pl) (b := b) heq (s := (s1.cls s1.vs s1.vp s1.vc s1.vE).pl) ((cls_pl hvs).trans (congrArg clsP hps1)) (by show ¬ (trP false l.pl (s1.cls s1.vs s1.vp s1.vc s1.vE).pl).2 = 0; omega)]; rfl); (rw [cn_2 (g := g.pl) (l := l.pl) (b := b) heq (s := (s1.cls s1.vs s1.vp s1.vc s1.vE).pl) ((cls_pl hvs).trans (congrArg clsP hps1)) (by show ¬ (trP false l.pl (s1.cls s1.vs s1.vp s1.vc s1.vE).pl).2 = 0; omega)]; exact hp'))
    · intro hc1
      try simp only [decide_eq_true_eq, decide_eq_false_iff_not, Bool.not_eq_true', Bool.not_eq_false', Bool.not_eq_true, Bool.not_eq_false, Bool.and_eq_true, Bool.or_eq_true, Bool.and_eq_false_iff, Bool.or_eq_false_iff, Bool.not_not, ne_eq, Int.not_lt, Int.not_le, Decidable.not_not, beq_iff_eq, bne_iff_ne] at hc1
      have hvs : s1.vs = (if s1.ph = 2 then s1.vs ++ [⟨s1.fid, s1.fn⟩] else s1.vs) := by rw [if_neg hc1]
      refine wp_skip ?_
      refine then_normal ?_
      refine c_seq ?_
      refine c_region ?_
      refine wl (wl_val hl rfl trivial (r_build (cs := .int .u32 0 :: .int .u8 0 :: nt0.k) hl rfl zero87 bld87 (by rw [← fl0]; rfl)) ?_)
      clear hl a; intro a hl
      refine wl (wl_val hl rfl trivial (r_field hl rfl fld89_3) ?_)
      clear hl a; intro a hl
      refine wl (w_storeA hl hh trivial agg87 rfl rfl (by repeat (first | exact find_head | apply find_tail | apply find_skip)) (by (simp [ntk_len]; done)) (by (rw [stc_len]; omega)) (by (rw [List.all_cons, List.all_cons, ntk_one]; rfl)) (by first | exact stc_scls1 s1 (s1.vs ++ [⟨s1.fid, s1.fn⟩]) p6 c6 E2 | exact stc_scls0 s1) ?_)
      clear hh w; intro w hh
      refine w_nil ?_
      have hl2 := hl.add (t := 0) (hl.add (t := 4) (hl.nil) rfl) rfl; clear hl; have hl := hl2; clear hl2
      refine then_normal ?_
      refine c_seq ?_
      refine c_region ?_
      refine wl (wl_val hl rfl trivial (r_move hl rfl) ?_)
      clear hl a; intro a hl
      refine wl (w_loadA hl hh rfl trivial agg89 rfl (by repeat (first | exact find_head | apply find_tail | apply find_skip)) (by first | exact gtc_st _ | exact stc_all _) (by exact stc_len _) ?_)
      clear hl a; intro a hl
      refine wl (w_call hl hh rfl trivial rfl cal46 rfl (gstore3 Z gb { g with dn := orB g.dn b } l hl9 _ (by first | exact cls_ok hs1 hR2 hvo2 (by simp only [List.length_append, List.length_singleton]; omega) (by simp) | exact cls_ok hs1 hs1.v hs1.vo hs1.vl hs1.v1) false) (by repeat (first | exact keeps_nil | apply keeps_cons (by repeat (first | exact find_head | apply find_tail | apply find_skip)) (by first  | rfl) | exact keeps_self | exact keeps_left | apply keeps_app | apply keeps_mv | apply keeps_skip)) trivial ?_)
      clear hl hh a w; intro vc Fc a w hR hl hh
      rcases hR with ⟨l', hr, hl', hp', rfl, rfl⟩ | ⟨l', hr, hl', hp', rfl, rfl⟩ | ⟨l', hr, hl', hp', rfl, rfl⟩
      ·
        try simp only [List.cons_append, List.nil_append, List.append_nil] at hh
        try simp only [List.append_assoc, List.cons_append, List.nil_append] at hh
        first | refine wl (wl_val hl rfl trivial (r_eql_ifcN hl rfl ifc102) ?_) | refine wl (wl_val hl rfl trivial (r_eql_ifcS hl rfl ifc102) ?_)
        clear hl a; intro a hl
        refine w_nil ?_
        have hl2 := hl.add (t := 0) (hl.add (t := 44) (hl.nil) rfl) rfl; clear hl; have hl := hl2; clear hl2
        refine then_normal ?_
        refine c_condT hl rfl ?_
        refine c_region ?_
        refine wl (wl_val hl rfl trivial (r_move hl rfl) ?_)
        clear hl a; intro a hl
        refine wl (wl_val hl rfl trivial (r_nilCheck hl rfl) ?_)
        clear hl a; intro a hl
        refine wl (wl_val hl rfl trivial (r_field hl rfl fld127_8) ?_)
        clear hl a; intro a hl
        refine wl (w_store hl hh trivial one4 rfl rfl (by repeat (first | exact find_head | apply find_tail | apply find_skip)) (by first | (simp; done) | (simp; omega) | (rw [gtc_len]; omega) | (rw [gtc_len]; simp; done) | (rw [stc_len]; omega) | (rw [stc_len]; simp; done)) (by first | rfl | assumption | (apply Row.one; assumption)) (by first | exact gtc_sys _ _ | exact gtc_sdn _ _ | exact gtc_stk _ _ | exact gtc_sau _ _ | exact gtc_soff _ _ | exact stc_svs _ _ _ _ E2 | (simp only [setL, List.getElem?_cons_zero, List.getElem?_cons_succ, Value.cells, List.take_zero, List.take_succ_cons, List.take_nil, List.drop_zero, List.drop_succ_cons, List.drop_nil, List.length_cons, List.length_nil, List.cons_append, List.nil_append, List.append_nil, Nat.zero_add, Nat.add_zero, Nat.reduceAdd, Nat.reduceBEq, Nat.reduceEqDiff, Nat.ble, BEq.rfl, Bool.and_true, Bool.and_self, cond_true, beq_self_eq_true]; rfl)) ?_)
        clear hh w; intro w hh
        refine w_nil ?_
        have hl2 := hl.nil; clear hl; have hl := hl2; clear hl2
        try simp only at hh
        first
        | (exfalso; have h9 := storeP_b l.pl (s1.cls (s1.vs ++ [(⟨s1.fid, s1.fn⟩ : Vr)]) p6 c6 E2).pl; have h8 : (storeP l.pl (s1.cls (s1.vs ++ [(⟨s1.fid, s1.fn⟩ : Vr)]) p6 c6 E2).pl).2 = 1 := hr; omega)
        | (refine f_end0 (F' := (gb, C (GtV.c { g with dn := orB g.dn b, st := (s1.cls (s1.vs ++ [(⟨s1.fid, s1.fn⟩ : Vr)]) p6 c6 E2), au := false }) 127) :: ((s1.cls (s1.vs ++ [(⟨s1.fid, s1.fn⟩ : Vr)]) p6 c6 E2).E ++ (g.qE ++ ((g.rb, MD (kInt .u32) g.rl g.rn) :: (g.oE ++ ((g.led, C (LdV.c l') 91) :: (l'.d.E ++ Z))))))) hl hh rfl (by repeat (first | exact keeps_nil | apply keeps_cons (by repeat (first | exact find_head | apply find_tail | apply find_skip)) (by first  | rfl) | exact keeps_self | exact keeps_left | apply keeps_app | apply keeps_mv | apply keeps_skip)) ?_; refine ⟨rfl, GO.same (g' := { g with dn := orB g.dn b, st := (s1.cls (s1.vs ++ [(⟨s1.fid, s1.fn⟩ : Vr)]) p6 c6 E2), au := false }) (hg.cn (cls_ok hs1 hR2 hvo2 (by simp only [List.length_append, List.length_singleton]; omega) (by simp)) hob false) hl' ?_ ?_ rfl⟩; (rw [cn_0 (g := g.pl) (l := l.pl) (b := b) heq (s := (s1.cls (s1.vs ++ [(⟨s1.fid, s1.fn⟩ : Vr)]) p6 c6 E2).pl) ((cls_pl hvs).trans (congrArg clsP hps1)) hr]; rfl); (rw [cn_0 (g := g.pl) (l := l.pl) (b := b) heq (s := (s1.cls (s1.vs ++ [(⟨s1.fid, s1.fn⟩ : Vr)]) p6 c6 E2).pl) ((cls_pl hvs).trans (congrArg clsP hps1)) hr]; exact hp'))
        | (refine f_end0 (F' := (gb, C (GtV.c (GtV.offd { g with dn := orB g.dn b })) 127) :: (g.st.E ++ (g.qE ++ ((g.rb, MD (kInt .u32) g.rl g.rn) :: ([] ++ ((g.led, C (LdV.c l') 91) :: (l'.d.E ++ Z))))))) hl hh rfl (by repeat (first | exact keeps_nil | apply keeps_cons (by repeat (first | exact find_head | apply find_tail | apply find_skip)) (by first  | rfl) | exact keeps_self | exact keeps_left | apply keeps_app | apply keeps_mv | apply keeps_skip)) ?_; refine ⟨rfl, GO.same (g' := GtV.offd { g with dn := orB g.dn b }) (offd_ok (hg.cn hg.st hob g.au)) hl' ?_ ?_ rfl⟩; (rw [cn_2 (g := g.pl) (l := l.pl) (b := b) heq (s := (s1.cls (s1.vs ++ [(⟨s1.fid, s1.fn⟩ : Vr)]) p6 c6 E2).pl) ((cls_pl hvs).trans (congrArg clsP hps1)) (by show ¬ (trP false l.pl (s1.cls (s1.vs ++ [(⟨s1.fid, s1.fn⟩ : Vr)]) p6 c6 E2).pl).2 = 0; omega)]; rfl); (rw [cn_2 (g := g.pl) (l := l.pl) (b := b) heq (s := (s1.cls (s1.vs ++ [(⟨s1.fid, s1.fn⟩ : Vr)]) p6 c6 E2).pl) ((cls_pl hvs).trans (congrArg clsP hps1)) (by show ¬ (trP false l.pl (s1.cls (s1.vs ++ [(⟨s1.fid, s1.fn⟩ : Vr)]) p6 c6 E2).pl).2 = 0; omega)]; exact hp'))
        | (exfalso; have h9 := storeP_b l.pl (s1.cls s1.vs s1.vp s1.vc s1.vE).pl; have h8 : (storeP l.pl (s1.cls s1.vs s1.vp s1.vc s1.vE).pl).2 = 1 := hr; omega)
        | (refine f_end0 (F' := (gb, C (GtV.c { g with dn := orB g.dn b, st := (s1.cls s1.vs s1.vp s1.vc s1.vE), au := false }) 127) :: ((s1.cls s1.vs s1.vp s1.vc s1.vE).E ++ (g.qE ++ ((g.rb, MD (kInt .u32) g.rl g.rn) :: (g.oE ++ ((g.led, C (LdV.c l') 91) :: (l'.d.E ++ Z))))))) hl hh rfl (by repeat (first | exact keeps_nil | apply keeps_cons (by repeat (first | exact find_head | apply find_tail | apply find_skip)) (by first  | rfl) | exact keeps_self | exact keeps_left | apply keeps_app | apply keeps_mv | apply keeps_skip)) ?_; refine ⟨rfl, GO.same (g' := { g with dn := orB g.dn b, st := (s1.cls s1.vs s1.vp s1.vc s1.vE), au := false }) (hg.cn (cls_ok hs1 hs1.v hs1.vo hs1.vl hs1.v1) hob false) hl' ?_ ?_ rfl⟩; (rw [cn_0 (g := g.pl) (l := l.pl) (b := b) heq (s := (s1.cls s1.vs s1.vp s1.vc s1.vE).pl) ((cls_pl hvs).trans (congrArg clsP hps1)) hr]; rfl); (rw [cn_0 (g := g.pl) (l := l.pl) (b := b) heq (s := (s1.cls s1.vs s1.vp s1.vc s1.vE).pl) ((cls_pl hvs).trans (congrArg clsP hps1)) hr]; exact hp'))
        | (refine f_end0 (F' := (gb, C (GtV.c (GtV.offd { g with dn := orB g.dn b })) 127) :: (g.st.E ++ (g.qE ++ ((g.rb, MD (kInt .u32) g.rl g.rn) :: ([] ++ ((g.led, C (LdV.c l') 91) :: (l'.d.E ++ Z))))))) hl hh rfl (by repeat (first | exact keeps_nil | apply keeps_cons (by repeat (first | exact find_head | apply find_tail | apply find_skip)) (by first  | rfl) | exact keeps_self | exact keeps_left | apply keeps_app | apply keeps_mv | apply keeps_skip)) ?_; refine ⟨rfl, GO.same (g' := GtV.offd { g with dn := orB g.dn b }) (offd_ok (hg.cn hg.st hob g.au)) hl' ?_ ?_ rfl⟩; (rw [cn_2 (g := g.pl) (l := l.pl) (b := b) heq (s := (s1.cls s1.vs s1.vp s1.vc s1.vE).pl) ((cls_pl hvs).trans (congrArg clsP hps1)) (by show ¬ (trP false l.pl (s1.cls s1.vs s1.vp s1.vc s1.vE).pl).2 = 0; omega)]; rfl); (rw [cn_2 (g := g.pl) (l := l.pl) (b := b) heq (s := (s1.cls s1.vs s1.vp s1.vc s1.vE).pl) ((cls_pl hvs).trans (congrArg clsP hps1)) (by show ¬ (trP false l.pl (s1.cls s1.vs s1.vp s1.vc s1.vE).pl).2 = 0; omega)]; exact hp'))
      ·
        try simp only [List.cons_append, List.nil_append, List.append_nil] at hh
        try simp only [List.append_assoc, List.cons_append, List.nil_append] at hh
        first | refine wl (wl_val hl rfl trivial (r_eql_ifcN hl rfl ifc102) ?_) | refine wl (wl_val hl rfl trivial (r_eql_ifcS hl rfl ifc102) ?_)
        clear hl a; intro a hl
        refine w_nil ?_
        have hl2 := hl.add (t := 0) (hl.add (t := 44) (hl.nil) rfl) rfl; clear hl; have hl := hl2; clear hl2
        refine then_normal ?_
        refine c_condF hl rfl ?_
        refine wp_skip ?_
        try simp only at hh
        first
        | (exfalso; have h9 := storeP_b l.pl (s1.cls (s1.vs ++ [(⟨s1.fid, s1.fn⟩ : Vr)]) p6 c6 E2).pl; have h8 : (storeP l.pl (s1.cls (s1.vs ++ [(⟨s1.fid, s1.fn⟩ : Vr)]) p6 c6 E2).pl).2 = 1 := hr; omega)
        | (refine f_end0 (F' := (gb, C (GtV.c { g with dn := orB g.dn b, st := (s1.cls (s1.vs ++ [(⟨s1.fid, s1.fn⟩ : Vr)]) p6 c6 E2), au := false }) 127) :: ((s1.cls (s1.vs ++ [(⟨s1.fid, s1.fn⟩ : Vr)]) p6 c6 E2).E ++ (g.qE ++ ((g.rb, MD (kInt .u32) g.rl g.rn) :: (g.oE ++ ((g.led, C (LdV.c l') 91) :: (l'.d.E ++ Z))))))) hl hh rfl (by repeat (first | exact keeps_nil | apply keeps_cons (by repeat (first | exact find_head | apply find_tail | apply find_skip)) (by first  | rfl) | exact keeps_self | exact keeps_left | apply keeps_app | apply keeps_mv | apply keeps_skip)) ?_; refine ⟨rfl, GO.same (g' := { g with dn := orB g.dn b, st := (s1.cls (s1.vs ++ [(⟨s1.fid, s1.fn⟩ : Vr)]) p6 c6 E2), au := false }) (hg.cn (cls_ok hs1 hR2 hvo2 (by simp only [List.length_append, List.length_singleton]; omega) (by simp)) hob false) hl' ?_ ?_ rfl⟩; (rw [cn_0 (g := g.pl) (l := l.pl) (b := b) heq (s := (s1.cls (s1.vs ++ [(⟨s1.fid, s1.fn⟩ : Vr)]) p6 c6 E2).pl) ((cls_pl hvs).trans (congrArg clsP hps1)) hr]; rfl); (rw [cn_0 (g := g.pl) (l := l.pl) (b := b) heq (s := (s1.cls (s1.vs ++ [(⟨s1.fid, s1.fn⟩ : Vr)]) p6 c6 E2).pl) ((cls_pl hvs).trans (congrArg clsP hps1)) hr]; exact hp'))
        | (refine f_end0 (F' := (gb, C (GtV.c (GtV.offd { g with dn := orB g.dn b })) 127) :: (g.st.E ++ (g.qE ++ ((g.rb, MD (kInt .u32) g.rl g.rn) :: ([] ++ ((g.led, C (LdV.c l') 91) :: (l'.d.E ++ Z))))))) hl hh rfl (by repeat (first | exact keeps_nil | apply keeps_cons (by repeat (first | exact find_head | apply find_tail | apply find_skip)) (by first  | rfl) | exact keeps_self | exact keeps_left | apply keeps_app | apply keeps_mv | apply keeps_skip)) ?_; refine ⟨rfl, GO.same (g' := GtV.offd { g with dn := orB g.dn b }) (offd_ok (hg.cn hg.st hob g.au)) hl' ?_ ?_ rfl⟩; (rw [cn_2 (g := g.pl) (l := l.pl) (b := b) heq (s := (s1.cls (s1.vs ++ [(⟨s1.fid, s1.fn⟩ : Vr)]) p6 c6 E2).pl) ((cls_pl hvs).trans (congrArg clsP hps1)) (by show ¬ (trP false l.pl (s1.cls (s1.vs ++ [(⟨s1.fid, s1.fn⟩ : Vr)]) p6 c6 E2).pl).2 = 0; omega)]; rfl); (rw [cn_2 (g := g.pl) (l := l.pl) (b := b) heq (s := (s1.cls (s1.vs ++ [(⟨s1.fid, s1.fn⟩ : Vr)]) p6 c6 E2).pl) ((cls_pl hvs).trans (congrArg clsP hps1)) (by show ¬ (trP false l.pl (s1.cls (s1.vs ++ [(⟨s1.fid, s1.fn⟩ : Vr)]) p6 c6 E2).pl).2 = 0; omega)]; exact hp'))
        | (exfalso; have h9 := storeP_b l.pl (s1.cls s1.vs s1.vp s1.vc s1.vE).pl; have h8 : (storeP l.pl (s1.cls s1.vs s1.vp s1.vc s1.vE).pl).2 = 1 := hr; omega)
        | (refine f_end0 (F' := (gb, C (GtV.c { g with dn := orB g.dn b, st := (s1.cls s1.vs s1.vp s1.vc s1.vE), au := false }) 127) :: ((s1.cls s1.vs s1.vp s1.vc s1.vE).E ++ (g.qE ++ ((g.rb, MD (kInt .u32) g.rl g.rn) :: (g.oE ++ ((g.led, C (LdV.c l') 91) :: (l'.d.E ++ Z))))))) hl hh rfl (by repeat (first | exact keeps_nil | apply keeps_cons (by repeat (first | exact find_head | apply find_tail | apply find_skip)) (by first  | rfl) | exact keeps_self | exact keeps_left | apply keeps_app | apply keeps_mv | apply keeps_skip)) ?_; refine ⟨rfl, GO.same (g' := { g with dn := orB g.dn b, st := (s1.cls s1.vs s1.vp s1.vc s1.vE), au := false }) (hg.cn (cls_ok hs1 hs1.v hs1.vo hs1.vl hs1.v1) hob false) hl' ?_ ?_ rfl⟩; (rw [cn_0 (g := g.pl) (l := l.pl) (b := b) heq (s := (s1.cls s1.vs s1.vp s1.vc s1.vE).pl) ((cls_pl hvs).trans (congrArg clsP hps1)) hr]; rfl); (rw [cn_0 (g := g.pl) (l := l.pl) (b := b) heq (s := (s1.cls s1.vs s1.vp s1.vc s1.vE).pl) ((cls_pl hvs).trans (congrArg clsP hps1)) hr]; exact hp'))
        | (refine f_end0 (F' := (gb, C (GtV.c (GtV.offd { g with dn := orB g.dn b })) 127) :: (g.st.E ++ (g.qE ++ ((g.rb, MD (kInt .u32) g.rl g.rn) :: ([] ++ ((g.led, C (LdV.c l') 91) :: (l'.d.E ++ Z))))))) hl hh rfl (by repeat (first | exact keeps_nil | apply keeps_cons (by repeat (first | exact find_head | apply find_tail | apply find_skip)) (by first  | rfl) | exact keeps_self | exact keeps_left | apply keeps_app | apply keeps_mv | apply keeps_skip)) ?_; refine ⟨rfl, GO.same (g' := GtV.offd { g with dn := orB g.dn b }) (offd_ok (hg.cn hg.st hob g.au)) hl' ?_ ?_ rfl⟩; (rw [cn_2 (g := g.pl) (l := l.pl) (b := b) heq (s := (s1.cls s1.vs s1.vp s1.vc s1.vE).pl) ((cls_pl hvs).trans (congrArg clsP hps1)) (by show ¬ (trP false l.pl (s1.cls s1.vs s1.vp s1.vc s1.vE).pl).2 = 0; omega)]; rfl); (rw [cn_2 (g := g.pl) (l := l.pl) (b := b) heq (s := (s1.cls s1.vs s1.vp s1.vc s1.vE).pl) ((cls_pl hvs).trans (congrArg clsP hps1)) (by show ¬ (trP false l.pl (s1.cls s1.vs s1.vp s1.vc s1.vE).pl).2 = 0; omega)]; exact hp'))
      ·
        try simp only [List.cons_append, List.nil_append, List.append_nil] at hh
        try simp only [List.append_assoc, List.cons_append, List.nil_append] at hh
        first | refine wl (wl_val hl rfl trivial (r_eql_ifcN hl rfl ifc102) ?_) | refine wl (wl_val hl rfl trivial (r_eql_ifcS hl rfl ifc102) ?_)
        clear hl a; intro a hl
        refine w_nil ?_
        have hl2 := hl.add (t := 0) (hl.add (t := 44) (hl.nil) rfl) rfl; clear hl; have hl := hl2; clear hl2
        refine then_normal ?_
        refine c_condF hl rfl ?_
        refine wp_skip ?_
        try simp only at hh
        first
        | (exfalso; have h9 := storeP_b l.pl (s1.cls (s1.vs ++ [(⟨s1.fid, s1.fn⟩ : Vr)]) p6 c6 E2).pl; have h8 : (storeP l.pl (s1.cls (s1.vs ++ [(⟨s1.fid, s1.fn⟩ : Vr)]) p6 c6 E2).pl).2 = 1 := hr; omega)
        | (refine f_end0 (F' := (gb, C (GtV.c { g with dn := orB g.dn b, st := (s1.cls (s1.vs ++ [(⟨s1.fid, s1.fn⟩ : Vr)]) p6 c6 E2), au := false }) 127) :: ((s1.cls (s1.vs ++ [(⟨s1.fid, s1.fn⟩ : Vr)]) p6 c6 E2).E ++ (g.qE ++ ((g.rb, MD (kInt .u32) g.rl g.rn) :: (g.oE ++ ((g.led, C (LdV.c l') 91) :: (l'.d.E ++ Z))))))) hl hh rfl (by repeat (first | exact keeps_nil | apply keeps_cons (by repeat (first | exact find_head | apply find_tail | apply find_skip)) (by first  | rfl) | exact keeps_self | exact keeps_left | apply keeps_app | apply keeps_mv | apply keeps_skip)) ?_; refine ⟨rfl, GO.same (g' := { g with dn := orB g.dn b, st := (s1.cls (s1.vs ++ [(⟨s1.fid, s1.fn⟩ : Vr)]) p6 c6 E2), au := false }) (hg.cn (cls_ok hs1 hR2 hvo2 (by simp only [List.length_append, List.length_singleton]; omega) (by simp)) hob false) hl' ?_ ?_ rfl⟩; (rw [cn_0 (g := g.pl) (l := l.pl) (b := b) heq (s := (s1.cls (s1.vs ++ [(⟨s1.fid, s1.fn⟩ : Vr)]) p6 c6 E2).pl) ((cls_pl hvs).trans (congrArg clsP hps1)) hr]; rfl); (rw [cn_0 (g := g.pl) (l := l.pl) (b := b) heq (s := (s1.cls (s1.vs ++ [(⟨s1.fid, s1.fn⟩ : Vr)]) p6 c6 E2).pl) ((cls_pl hvs).trans (congrArg clsP hps1)) hr]; exact hp'))
        | (refine f_end0 (F' := (gb, C (GtV.c (GtV.offd { g with dn := orB g.dn b })) 127) :: (g.st.E ++ (g.qE ++ ((g.rb, MD (kInt .u32) g.rl g.rn) :: ([] ++ ((g.led, C (LdV.c l') 91) :: (l'.d.E ++ Z))))))) hl hh rfl (by repeat (first | exact keeps_nil | apply keeps_cons (by repeat (first | exact find_head | apply find_tail | apply find_skip)) (by first  | rfl) | exact keeps_self | exact keeps_left | apply keeps_app | apply keeps_mv | apply keeps_skip)) ?_; refine ⟨rfl, GO.same (g' := GtV.offd { g with dn := orB g.dn b }) (offd_ok (hg.cn hg.st hob g.au)) hl' ?_ ?_ rfl⟩; (rw [cn_2 (g := g.pl) (l := l.pl) (b := b) heq (s := (s1.cls (s1.vs ++ [(⟨s1.fid, s1.fn⟩ : Vr)]) p6 c6 E2).pl) ((cls_pl hvs).trans (congrArg clsP hps1)) (by show ¬ (trP false l.pl (s1.cls (s1.vs ++ [(⟨s1.fid, s1.fn⟩ : Vr)]) p6 c6 E2).pl).2 = 0; omega)]; rfl); (rw [cn_2 (g := g.pl) (l := l.pl) (b := b) heq (s := (s1.cls (s1.vs ++ [(⟨s1.fid, s1.fn⟩ : Vr)]) p6 c6 E2).pl) ((cls_pl hvs).trans (congrArg clsP hps1)) (by show ¬ (trP false l.pl (s1.cls (s1.vs ++ [(⟨s1.fid, s1.fn⟩ : Vr)]) p6 c6 E2).pl).2 = 0; omega)]; exact hp'))
        | (exfalso; have h9 := storeP_b l.pl (s1.cls s1.vs s1.vp s1.vc s1.vE).pl; have h8 : (storeP l.pl (s1.cls s1.vs s1.vp s1.vc s1.vE).pl).2 = 1 := hr; omega)
        | (refine f_end0 (F' := (gb, C (GtV.c { g with dn := orB g.dn b, st := (s1.cls s1.vs s1.vp s1.vc s1.vE), au := false }) 127) :: ((s1.cls s1.vs s1.vp s1.vc s1.vE).E ++ (g.qE ++ ((g.rb, MD (kInt .u32) g.rl g.rn) :: (g.oE ++ ((g.led, C (LdV.c l') 91) :: (l'.d.E ++ Z))))))) hl hh rfl (by repeat (first | exact keeps_nil | apply keeps_cons (by repeat (first | exact find_head | apply find_tail | apply find_skip)) (by first  | rfl) | exact keeps_self | exact keeps_left | apply keeps_app | apply keeps_mv | apply keeps_skip)) ?_; refine ⟨rfl, GO.same (g' := { g with dn := orB g.dn b, st := (s1.cls s1.vs s1.vp s1.vc s1.vE), au := false }) (hg.cn (cls_ok hs1 hs1.v hs1.vo hs1.vl hs1.v1) hob false) hl' ?_ ?_ rfl⟩; (rw [cn_0 (g := g.pl) (l := l.pl) (b := b) heq (s := (s1.cls s1.vs s1.vp s1.vc s1.vE).pl) ((cls_pl hvs).trans (congrArg clsP hps1)) hr]; rfl); (rw [cn_0 (g := g.pl) (l := l.pl) (b := b) heq (s := (s1.cls s1.vs s1.vp s1.vc s1.vE).pl) ((cls_pl hvs).trans (congrArg clsP hps1)) hr]; exact hp'))
        | (refine f_end0 (F' := (gb, C (GtV.c (GtV.offd { g with dn := orB g.dn b })) 127) :: (g.st.E ++ (g.qE ++ ((g.rb, MD (kInt .u32) g.rl g.rn) :: ([] ++ ((g.led, C (LdV.c l') 91) :: (l'.d.E ++ Z))))))) hl hh rfl (by repeat (first | exact keeps_nil | apply keeps_cons (by repeat (first | exact find_head | apply find_tail | apply find_skip)) (by first  | rfl) | exact keeps_self | exact keeps_left | apply keeps_app | apply keeps_mv | apply keeps_skip)) ?_; refine ⟨rfl, GO.same (g' := GtV.offd { g with dn := orB g.dn b }) (offd_ok (hg.cn hg.st hob g.au)) hl' ?_ ?_ rfl⟩; (rw [cn_2 (g := g.pl) (l := l.pl) (b := b) heq (s := (s1.cls s1.vs s1.vp s1.vc s1.vE).pl) ((cls_pl hvs).trans (congrArg clsP hps1)) (by show ¬ (trP false l.pl (s1.cls s1.vs s1.vp s1.vc s1.vE).pl).2 = 0; omega)]; rfl); (rw [cn_2 (g := g.pl) (l := l.pl) (b := b) heq (s := (s1.cls s1.vs s1.vp s1.vc s1.vE).pl) ((cls_pl hvs).trans (congrArg clsP hps1)) (by show ¬ (trP false l.pl (s1.cls s1.vs s1.vp s1.vc s1.vE).pl).2 = 0; omega)]; exact hp'))
end Go.Proofs.Qxb6500908aGreat

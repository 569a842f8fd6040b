import Derived.Test.Qxb6500908aGreatW27
import Derived.Test.Qxb6500908aGreatY2
import Derived.Test.Qxb6500908aGreatOff
namespace Go.Proofs.Qxb6500908aGreat
open Go.Eng
set_option linter.unusedVariables false
set_option linter.unusedSimpArgs false

/-! ## the model's state -/
structure DuV where
  ep : Int
  vs : List Vr
  ap : Option Addr
  ac : Nat
  aE : List (Nat × Obj)
  ws : List Vr
  np : Option Addr
  nc : Nat
  nE : List (Nat × Obj)
  is : List Iv
  ip : Option Addr
  ic : Nat
  iE : List (Nat × Obj)
  ph : Int
  fid : Int
  fn : NtV
  vb : Nat
  vd : List (Int × Value)
def idc (v : Vr) : List Value := [.int .u32 v.id]
theorem idc_len (v : Vr) : (idc v).length = 1 := rfl
theorem idc_one (v : Vr) : (idc v).all (·.oneCell') = true := rfl
def ntc (v : Vr) : List Value := v.n.k
theorem ntc_len (v : Vr) : (ntc v).length = 64 := ntk_len _
theorem ntc_one (v : Vr) : (ntc v).all (·.oneCell') = true := ntk_one _
def DuV.c (s : DuV) : List Value := .int .u32 s.ep :: .slice s.ap s.vs.length s.ac :: .slice s.np s.ws.length s.nc :: .slice s.ip s.is.length s.ic :: .int .u8 s.ph :: .int .u32 s.fid :: (s.fn.k ++ [.map (some s.vb)])
theorem duc_len (s : DuV) : s.c.length = 71 := by unfold DuV.c; simp only [List.length_cons, List.length_append, ntk_len, List.length_nil]
theorem duc_one (s : DuV) : s.c.all (·.oneCell') = true := by unfold DuV.c; simp only [List.all_cons, List.all_append, ntk_one]; rfl
def DuV.E (s : DuV) : List (Nat × Obj) := s.aE ++ (s.nE ++ (s.iE ++ [(s.vb, MO (kInt .u32) s.vd)]))
theorem DuV.E_eq (s : DuV) : s.E = s.aE ++ (s.nE ++ (s.iE ++ [(s.vb, MO (kInt .u32) s.vd)])) := rfl
def DuV.pl (s : DuV) : StP := ⟨s.ep, s.vs.map vrP, s.is, s.fid, s.ph, s.fn.pl, fun i => vdN (mget s.vd i)⟩
structure DuV.ok (Z : List (Nat × Obj)) (s : DuV) : Prop where
  ep : 0 ≤ s.ep ∧ s.ep ≤ 4294967295
  a : Row (.slice s.ap s.vs.length s.ac) s.vs.length (fl idc s.vs) 1 36 s.aE
  n : Row (.slice s.np s.ws.length s.nc) s.ws.length (fl ntc s.ws) 64 66 s.nE
  e : s.ws = s.vs
  vo : ∀ x, x ∈ s.vs → x.n.ok Z ∧ 0 ≤ x.id ∧ x.id ≤ 4294967295
  vl : s.vs.length ≤ 70000000000
  v1 : 0 < s.vs.length
  i : Row (.slice s.ip s.is.length s.ic) s.is.length (fl ivc s.is) 6 43 s.iE
  io : ∀ x, x ∈ s.is → x.ok
  il : s.is.length ≤ 16
  fid : 0 ≤ s.fid ∧ s.fid ≤ 4294967295
  ph : 0 ≤ s.ph ∧ s.ph ≤ 3
  fn : s.fn.ok Z
  vd : ∀ i v, mget s.vd i = some v → ∃ x, v = .int .u8 x ∧ 0 ≤ x ∧ x ≤ 255
  vk : (s.vd.map Prod.fst).Nodup
theorem DuV.ok.app {Z G : List (Nat × Obj)} {s : DuV} (h : s.ok Z) : s.ok (Z ++ G) := ⟨h.ep, h.a, h.n, h.e, fun x hx => ⟨(h.vo x hx).1.app, (h.vo x hx).2⟩, h.vl, h.v1, h.i, h.io, h.il, h.fid, h.ph, h.fn.app, h.vd, h.vk⟩
theorem duc_ep (s : DuV) : s.c[0 + 0]? = some (.int .u32 s.ep) := rfl
theorem duc_a (s : DuV) : s.c[0 + 1]? = some (.slice s.ap s.vs.length s.ac) := rfl
theorem duc_n (s : DuV) : s.c[0 + 2]? = some (.slice s.np s.ws.length s.nc) := rfl
theorem duc_i (s : DuV) : s.c[0 + 3]? = some (.slice s.ip s.is.length s.ic) := rfl
theorem duc_ph (s : DuV) : s.c[0 + 4]? = some (.int .u8 s.ph) := rfl
theorem duc_fid (s : DuV) : s.c[0 + 5]? = some (.int .u32 s.fid) := rfl
theorem duc_h (s : DuV) : s.c = [Value.int .u32 s.ep, .slice s.ap s.vs.length s.ac, .slice s.np s.ws.length s.nc, .slice s.ip s.is.length s.ic, .int .u8 s.ph, .int .u32 s.fid] ++ (s.fn.k ++ [.map (some s.vb)]) := rfl
theorem duc_vd (s : DuV) : s.c[0 + 70]? = some (.map (some s.vb)) := by
  rw [duc_h, show 0 + 70 = 6 + 64 from rfl, get_app9 (n := 6) rfl, show 64 = 64 + 0 from rfl, get_app9 (ntk_len _)]; rfl
theorem duc_svd (s : DuV) (b : Nat) (l : List (Int × Value)) : setL s.c (0 + 70) [.map (some b)] = DuV.c { s with vb := b, vd := l } := by
  rw [duc_h, show 0 + 70 = 6 + 64 from rfl, set_app9 (n := 6) rfl, show 64 = 64 + 0 from rfl, set_app9 (ntk_len _)]; rfl
theorem duc_sep (s : DuV) (x : Int) : setL s.c (0 + 0) [.int .u32 x] = DuV.c { s with ep := x } := rfl
theorem duc_sa (s : DuV) (p : Option Addr) (l : List Vr) (c : Nat) (E : List (Nat × Obj)) : setL s.c (0 + 1) [.slice p l.length c] = DuV.c { s with ap := p, vs := l, ac := c, aE := E } := rfl
theorem duc_sn (s : DuV) (p : Option Addr) (l : List Vr) (c : Nat) (E : List (Nat × Obj)) : setL s.c (0 + 2) [.slice p l.length c] = DuV.c { s with np := p, ws := l, nc := c, nE := E } := rfl
theorem duc_si (s : DuV) (p : Option Addr) (l : List Iv) (c : Nat) (E : List (Nat × Obj)) : setL s.c (0 + 3) [.slice p l.length c] = DuV.c { s with ip := p, is := l, ic := c, iE := E } := rfl
theorem duc_sph (s : DuV) (x : Int) : setL s.c (0 + 4) [.int .u8 x] = DuV.c { s with ph := x } := rfl
theorem duc_sfid (s : DuV) (x : Int) : setL s.c (0 + 5) [.int .u32 x] = DuV.c { s with fid := x } := rfl
theorem duc_sfn (s : DuV) (n : NtV) : setL s.c (0 + 6) n.k = DuV.c { s with fn := n } := by
  rw [duc_h, show 0 + 6 = 6 + 0 from rfl, set_app9 (n := 6) rfl, set_front (by rw [ntk_len, ntk_len])]; rfl
theorem duc_all (s : DuV) : (s.c.drop 0).take 71 = s.c := by rw [List.drop_zero, ← duc_len s, List.take_length]
theorem duc_nx (s : DuV) : (s.c.drop (0 + 6)).take 64 = s.fn.k := by
  show (s.fn.k ++ [Value.map (some s.vb)]).take 64 = s.fn.k
  rw [List.take_append_of_le_length (by rw [ntk_len]; omega), ← ntk_len s.fn, List.take_length]
/-! ## the model -/
structure MdV where
  d : DuV
  up : Bool
  q : List Bt
  qp : Option Addr
  qc : Nat
  qE : List (Nat × Obj)
  rb : Option Nat
  rE : List (Nat × Obj)
  yf : Nat → Bool
  df : Nat → Bool
  tk : Int
  au : Bool
  fl : Bool
  fu : Int
  kp : Bool
def bS (f : Nat → Bool) : List Value := [.bool (f 0), .bool (f 1), .bool (f 2), .bool (f 3), .bool (f 4), .bool (f 5), .bool (f 6), .bool (f 7), .bool (f 8), .bool (f 9), .bool (f 10), .bool (f 11), .bool (f 12), .bool (f 13), .bool (f 14), .bool (f 15)]
def MdV.t (m : MdV) : List Value := .bool m.up :: .slice m.qp m.q.length m.qc :: .map m.rb :: (bS m.yf ++ (bS m.df ++ [.int .i64 m.tk, .bool m.au, .bool m.fl, .int .i64 m.fu, .bool m.kp]))
def MdV.c (m : MdV) : List Value := m.d.c ++ m.t
def MF (mb : Nat) (m : MdV) (Z : List (Nat × Obj)) : List (Nat × Obj) := (mb, C m.c 82) :: (m.d.E ++ (m.qE ++ (m.rE ++ Z)))
theorem mdc_len (m : MdV) : m.c.length = 111 := by unfold MdV.c; rw [List.length_append, duc_len]; rfl
theorem mdc_at (m : MdV) (j : Nat) : m.c[71 + j]? = m.t[j]? := get_app9 (duc_len _)
theorem mdc_in (m : MdV) {i : Nat} (h : i < 71) : m.c[i]? = m.d.c[i]? := by unfold MdV.c; rw [List.getElem?_append_left (by rw [duc_len]; omega)]
theorem mdc_dt (m : MdV) {i k : Nat} (h : i + k ≤ 71) : (m.c.drop i).take k = (m.d.c.drop i).take k := by
  unfold MdV.c
  rw [List.drop_append_of_le_length (by rw [duc_len]; omega), List.take_append_of_le_length (by rw [List.length_drop, duc_len]; omega)]
theorem mdc_ep (m : MdV) : m.c[0 + 0 + 0]? = some (.int .u32 m.d.ep) := (mdc_in m (i := 0) (by omega)).trans (duc_ep _)
theorem mdc_a (m : MdV) : m.c[0 + 0 + 1]? = some (.slice m.d.ap m.d.vs.length m.d.ac) := (mdc_in m (i := 1) (by omega)).trans (duc_a _)
theorem mdc_n (m : MdV) : m.c[0 + 0 + 2]? = some (.slice m.d.np m.d.ws.length m.d.nc) := (mdc_in m (i := 2) (by omega)).trans (duc_n _)
theorem mdc_i (m : MdV) : m.c[0 + 0 + 3]? = some (.slice m.d.ip m.d.is.length m.d.ic) := (mdc_in m (i := 3) (by omega)).trans (duc_i _)
theorem mdc_ph (m : MdV) : m.c[0 + 0 + 4]? = some (.int .u8 m.d.ph) := (mdc_in m (i := 4) (by omega)).trans (duc_ph _)
theorem mdc_fid (m : MdV) : m.c[0 + 0 + 5]? = some (.int .u32 m.d.fid) := (mdc_in m (i := 5) (by omega)).trans (duc_fid _)
theorem mdc_vd (m : MdV) : m.c[0 + 0 + 70]? = some (.map (some m.d.vb)) := (mdc_in m (i := 70) (by omega)).trans (duc_vd _)
theorem mdc_d (m : MdV) : (m.c.drop (0 + 0)).take 71 = m.d.c := (mdc_dt m (i := 0) (k := 71) (by omega)).trans (duc_all _)
theorem mdc_nx (m : MdV) : (m.c.drop (0 + 0 + 6)).take 64 = m.d.fn.k := (mdc_dt m (i := 6) (k := 64) (by omega)).trans (duc_nx _)
theorem mdc_up (m : MdV) : m.c[0 + 71]? = some (.bool m.up) := mdc_at m 0
theorem mdc_q (m : MdV) : m.c[0 + 72]? = some (.slice m.qp m.q.length m.qc) := mdc_at m 1
theorem mdc_rf (m : MdV) : m.c[0 + 73]? = some (.map m.rb) := mdc_at m 2
theorem mdc_tk (m : MdV) : m.c[0 + 106]? = some (.int .i64 m.tk) := mdc_at m 35
theorem mdc_au (m : MdV) : m.c[0 + 107]? = some (.bool m.au) := mdc_at m 36
theorem mdc_fl (m : MdV) : m.c[0 + 108]? = some (.bool m.fl) := mdc_at m 37
theorem mdc_fu (m : MdV) : m.c[0 + 109]? = some (.int .i64 m.fu) := mdc_at m 38
theorem mdc_kp (m : MdV) : m.c[0 + 110]? = some (.bool m.kp) := mdc_at m 39
theorem mdc_y (m : MdV) {i : Nat} (h : i < 16) : m.c[0 + 74 + i * 1]? = some (.bool (m.yf i)) := by
  rw [show 0 + 74 + i * 1 = 71 + (3 + i) by omega, mdc_at]
  rcases (show i = 0 ∨ i = 1 ∨ i = 2 ∨ i = 3 ∨ i = 4 ∨ i = 5 ∨ i = 6 ∨ i = 7 ∨ i = 8 ∨ i = 9 ∨ i = 10 ∨ i = 11 ∨ i = 12 ∨ i = 13 ∨ i = 14 ∨ i = 15 by omega) with rfl | rfl | rfl | rfl | rfl | rfl | rfl | rfl | rfl | rfl | rfl | rfl | rfl | rfl | rfl | rfl <;> rfl
theorem mdc_df (m : MdV) {i : Nat} (h : i < 16) : m.c[0 + 90 + i * 1]? = some (.bool (m.df i)) := by
  rw [show 0 + 90 + i * 1 = 71 + (19 + i) by omega, mdc_at]
  rcases (show i = 0 ∨ i = 1 ∨ i = 2 ∨ i = 3 ∨ i = 4 ∨ i = 5 ∨ i = 6 ∨ i = 7 ∨ i = 8 ∨ i = 9 ∨ i = 10 ∨ i = 11 ∨ i = 12 ∨ i = 13 ∨ i = 14 ∨ i = 15 by omega) with rfl | rfl | rfl | rfl | rfl | rfl | rfl | rfl | rfl | rfl | rfl | rfl | rfl | rfl | rfl | rfl <;> rfl
theorem mdc_sat (m : MdV) (j : Nat) (vs : List Value) : setL m.c (71 + j) vs = m.d.c ++ setL m.t j vs := set_app9 (duc_len _)
theorem mdc_sd (m : MdV) (s : DuV) : setL m.c (0 + 0) s.c = MdV.c { m with d := s } := set_front (by rw [duc_len, duc_len])
theorem mdc_sup (m : MdV) (b : Bool) : setL m.c (0 + 71) [.bool b] = MdV.c { m with up := b } := mdc_sat m 0 _
theorem mdc_sq (m : MdV) (p : Option Addr) (q : List Bt) (c : Nat) (E : List (Nat × Obj)) : setL m.c (0 + 72) [.slice p q.length c] = MdV.c { m with qp := p, q := q, qc := c, qE := E } := mdc_sat m 1 _
theorem mdc_srf (m : MdV) (b : Option Nat) (E : List (Nat × Obj)) : setL m.c (0 + 73) [.map b] = MdV.c { m with rb := b, rE := E } := mdc_sat m 2 _
theorem mdc_sy (m : MdV) (f : Nat → Bool) : setL m.c (0 + 74) (bS f) = MdV.c { m with yf := f } := mdc_sat m 3 _
theorem mdc_sdf (m : MdV) (f : Nat → Bool) : setL m.c (0 + 90) (bS f) = MdV.c { m with df := f } := mdc_sat m 19 _
theorem mdc_stk (m : MdV) (x : Int) : setL m.c (0 + 106) [.int .i64 x] = MdV.c { m with tk := x } := mdc_sat m 35 _
theorem mdc_sau (m : MdV) (b : Bool) : setL m.c (0 + 107) [.bool b] = MdV.c { m with au := b } := mdc_sat m 36 _
theorem mdc_sfl (m : MdV) (b : Bool) : setL m.c (0 + 108) [.bool b] = MdV.c { m with fl := b } := mdc_sat m 37 _
theorem mdc_sfu (m : MdV) (x : Int) : setL m.c (0 + 109) [.int .i64 x] = MdV.c { m with fu := x } := mdc_sat m 38 _
theorem mdc_skp (m : MdV) (b : Bool) : setL m.c (0 + 110) [.bool b] = MdV.c { m with kp := b } := mdc_sat m 39 _
def upM (f : Nat → Bool) (i : Nat) (v : Bool) : Nat → Bool := fun j => if j = i then v else f j
theorem mdc_sy1 (m : MdV) {i : Nat} (h : i < 16) (v : Bool) : setL m.c (0 + 74 + i * 1) [.bool v] = MdV.c { m with yf := upM m.yf i v } := by
  rw [show 0 + 74 + i * 1 = 71 + (3 + i) by omega, mdc_sat]
  rcases (show i = 0 ∨ i = 1 ∨ i = 2 ∨ i = 3 ∨ i = 4 ∨ i = 5 ∨ i = 6 ∨ i = 7 ∨ i = 8 ∨ i = 9 ∨ i = 10 ∨ i = 11 ∨ i = 12 ∨ i = 13 ∨ i = 14 ∨ i = 15 by omega) with rfl | rfl | rfl | rfl | rfl | rfl | rfl | rfl | rfl | rfl | rfl | rfl | rfl | rfl | rfl | rfl <;> rfl
theorem mdc_sd1 (m : MdV) {i : Nat} (h : i < 16) (v : Bool) : setL m.c (0 + 90 + i * 1) [.bool v] = MdV.c { m with df := upM m.df i v } := by
  rw [show 0 + 90 + i * 1 = 71 + (19 + i) by omega, mdc_sat]
  rcases (show i = 0 ∨ i = 1 ∨ i = 2 ∨ i = 3 ∨ i = 4 ∨ i = 5 ∨ i = 6 ∨ i = 7 ∨ i = 8 ∨ i = 9 ∨ i = 10 ∨ i = 11 ∨ i = 12 ∨ i = 13 ∨ i = 14 ∨ i = 15 by omega) with rfl | rfl | rfl | rfl | rfl | rfl | rfl | rfl | rfl | rfl | rfl | rfl | rfl | rfl | rfl | rfl <;> rfl
theorem mdc_ly (m : MdV) : (m.c.drop (0 + 74)).take 16 = bS m.yf := by
  unfold MdV.c
  rw [show 0 + 74 = m.d.c.length + 3 by rw [duc_len], ← List.drop_drop, List.drop_left]; rfl
theorem mdc_ld (m : MdV) : (m.c.drop (0 + 90)).take 16 = bS m.df := by
  unfold MdV.c
  rw [show 0 + 90 = m.d.c.length + 19 by rw [duc_len], ← List.drop_drop, List.drop_left]; rfl
/-- the model stands for a gate that is up, and its ledger -/
structure MdR (Z : List (Nat × Obj)) (m : MdV) (g : GtP) (l : LdP) : Prop where
  dok : m.d.ok Z
  d : m.d.pl = l.d
  up : m.up = !g.off
  qr : RowO (.slice m.qp m.q.length m.qc) m.q.length (fl btc m.q) 2 141 m.qE
  qo : ∀ x, x ∈ m.q → x.ok Z
  qp : m.q.map btP = g.q
  r : ∃ b rl rn, m.rb = some b ∧ m.rE = [(b, MD (kInt .u32) rl rn)] ∧ (∀ i v, dget rl i = some v → ∃ x, v = .int .u8 x ∧ 0 ≤ x ∧ x ≤ 255) ∧ (rl.map ME.ky).Nodup ∧ g.rf = fun i => vdN (dget rl i)
  ys : ∀ d, d < 16 → m.yf d = bitIn g.ys d
  dn : ∀ d, d < 16 → m.df d = bitIn g.dn d
  tk : m.tk = g.tk
  au : m.au = g.au
  fl : m.fl = l.fl
  fu : m.fu = l.fu
  kp : m.kp = l.kp
  fb : 0 ≤ m.fu ∧ m.fu ≤ 9223372036854775807
/-- the model stands for a ledger; the gate is down -/
structure MdD (Z : List (Nat × Obj)) (m : MdV) (l : LdP) : Prop where
  dok : m.d.ok Z
  d : m.d.pl = l.d
  up : m.up = false
  fl : m.fl = l.fl
  fu : m.fu = l.fu
  kp : m.kp = l.kp
  fb : 0 ≤ m.fu ∧ m.fu ≤ 9223372036854775807
theorem MdR.app {Z G : List (Nat × Obj)} {m : MdV} {g : GtP} {l : LdP} (h : MdR Z m g l) : MdR (Z ++ G) m g l := ⟨h.dok.app, h.d, h.up, h.qr, fun x hx => (h.qo x hx).app, h.qp, h.r, h.ys, h.dn, h.tk, h.au, h.fl, h.fu, h.kp, h.fb⟩
theorem MdR.down {Z : List (Nat × Obj)} {m : MdV} {g : GtP} {l : LdP} (h : MdR Z m g l) (hg : g.off = true) : MdD Z m l := ⟨h.dok, h.d, by rw [h.up, hg]; rfl, h.fl, h.fu, h.kp, h.fb⟩
/-- what a call leaves -/
def MdO (mb : Nat) (r : GtP × LdP) (Z F' : List (Nat × Obj)) : Prop := ∃ (m' : MdV) (G : List (Nat × Obj)), MdR (Z ++ G) m' r.1 r.2 ∧ F' = MF mb m' (Z ++ G)
theorem MdO.same {mb : Nat} {r : GtP × LdP} {Z F' : List (Nat × Obj)} {m' : MdV} (h : MdR Z m' r.1 r.2) (hF : F' = MF mb m' Z) : MdO mb r Z F' := ⟨m', [], by rw [List.append_nil]; exact h, by rw [List.append_nil]; exact hF⟩
/-! ## a transaction of the model -/
def wrV (m : MdV) (s : DuV) (nw : Bool) : MdV × Int :=
  if (nw && m.fl) = true then (m, 11)
  else if 0 < m.fu then (if m.fu - 1 = 0 then (if m.kp then ({ m with fu := m.fu - 1, d := s, up := false }, 14) else ({ m with fu := m.fu - 1, up := false }, 14)) else ({ m with fu := m.fu - 1, d := s }, 0))
  else ({ m with d := s }, 0)

end Go.Proofs.Qxb6500908aGreat

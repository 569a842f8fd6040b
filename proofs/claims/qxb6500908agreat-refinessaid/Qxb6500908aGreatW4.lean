import Derived.Test.Qxb6500908aGreatW3
import Derived.Test.Qxb6500908aGreatIfi
import Derived.Test.Qxb6500908aGreatMdl
namespace Go.Proofs.Qxb6500908aGreat
open Go.Eng
set_option linter.unusedVariables false
set_option linter.unusedSimpArgs false

/-! ## the gate -/
structure Ms where
  k : Int
  d : Int
  e : Int
  b : Int
  y : Bool
  r : Int
  s : Int
  t : ByteArray
def msc (m : Ms) : List Value := [.int .u8 m.k, .int .u8 m.d, .int .u32 m.e, .int .u32 m.b, .bool m.y, .int .u32 m.r, .int .u32 m.s, .string m.t]
theorem msc_len (m : Ms) : (msc m).length = 8 := rfl
theorem msc_one (m : Ms) : (msc m).all (·.oneCell') = true := rfl
structure Ms.ok (m : Ms) : Prop where
  k : 0 ≤ m.k ∧ m.k ≤ 255
  d : 0 ≤ m.d ∧ m.d ≤ 255
  e : 0 ≤ m.e ∧ m.e ≤ 4294967295
  b : 0 ≤ m.b ∧ m.b ≤ 4294967295
  r : 0 ≤ m.r ∧ m.r ≤ 4294967295
  s : 0 ≤ m.s ∧ m.s ≤ 4294967295
/-- a batch -/
structure Bt where
  id : Int
  cs : List Ch
  p : Option Addr
  c : Nat
def btc (x : Bt) : List Value := [.int .u32 x.id, .slice x.p x.cs.length x.c]
theorem btc_len (x : Bt) : (btc x).length = 2 := rfl
theorem btc_one (x : Bt) : (btc x).all (·.oneCell') = true := rfl
def btP (x : Bt) : Int × List Ch := (x.id, x.cs)
structure Bt.ok (Z : List (Nat × Obj)) (x : Bt) : Prop where
  r : ∃ E, Row (.slice x.p x.cs.length x.c) x.cs.length (fl Ch.vals x.cs) 12 162 E ∧ InZ E Z
  d : ∀ c, c ∈ x.cs → c.dom
  l : x.cs.length ≤ 128
  id : 0 ≤ x.id ∧ x.id ≤ 4294967295
theorem Bt.ok.app {Z G : List (Nat × Obj)} {x : Bt} (h : x.ok Z) : x.ok (Z ++ G) := ⟨h.r.imp fun _ y => ⟨y.1, y.2.app⟩, h.d, h.l, h.id⟩
structure GtP where
  st : StP
  q : List (Int × List Ch)
  rf : Int → Option Int
  sl : Nat → ByteArray
  ys : Int
  dn : Int
  tk : Int
  au : Bool
  out : List Ms
  off : Bool
structure GtV where
  led : Nat
  st : StV
  q : List Bt
  qp : Option Addr
  qc : Nat
  qE : List (Nat × Obj)
  rb : Nat
  rl : List (ME Int)
  rn : Nat
  sl : Nat → ByteArray
  ys : Int
  dn : Int
  tk : Int
  au : Bool
  out : List Ms
  op : Option Addr
  oc : Nat
  oE : List (Nat × Obj)
  off : Bool
def GtV.pl (g : GtV) : GtP := ⟨g.st.pl, g.q.map btP, fun i => vdN (dget g.rl i), g.sl, g.ys, g.dn, g.tk, g.au, g.out, g.off⟩
def slS (f : Nat → ByteArray) : List Value := [.string (f 0), .string (f 1), .string (f 2), .string (f 3), .string (f 4), .string (f 5), .string (f 6), .string (f 7), .string (f 8), .string (f 9), .string (f 10), .string (f 11), .string (f 12), .string (f 13), .string (f 14), .string (f 15)]
def GtV.t (g : GtV) : List Value := .slice g.qp g.q.length g.qc :: .map (some g.rb) :: (slS g.sl ++ [.int .u16 g.ys, .int .u16 g.dn, .int .i64 g.tk, .bool g.au, .slice g.op g.out.length g.oc, .bool g.off])
def GtV.c (g : GtV) : List Value := (.pointer (some ⟨g.led, 0, none⟩) :: g.st.c) ++ g.t
def GtV.F (b : Nat) (g : GtV) : List (Nat × Obj) := (b, C g.c 127) :: (g.st.E ++ (g.qE ++ ((g.rb, MD (kInt .u32) g.rl g.rn) :: g.oE)))
structure GtV.ok (Z : List (Nat × Obj)) (g : GtV) : Prop where
  st : g.st.ok Z
  q : Row (.slice g.qp g.q.length g.qc) g.q.length (fl btc g.q) 2 141 g.qE
  qo : ∀ x, x ∈ g.q → x.ok Z
  ql : g.q.length ≤ 8
  rv : ∀ i v, dget g.rl i = some v → ∃ x, v = .int .u8 x ∧ 0 ≤ x ∧ x ≤ 255
  rk : (g.rl.map ME.ky).Nodup
  ys : 0 ≤ g.ys ∧ g.ys ≤ 65535
  dn : 0 ≤ g.dn ∧ g.dn ≤ 65535
  tk : 0 ≤ g.tk ∧ g.tk ≤ 1000000000
  o : Row (.slice g.op g.out.length g.oc) g.out.length (fl msc g.out) 8 38 g.oE
  oo : ∀ x, x ∈ g.out → x.ok
  ol : g.out.length ≤ 100
theorem GtV.ok.app {Z G : List (Nat × Obj)} {g : GtV} (h : g.ok Z) : g.ok (Z ++ G) := ⟨h.st.app, h.q, fun x hx => (h.qo x hx).app, h.ql, h.rv, h.rk, h.ys, h.dn, h.tk, h.o, h.oo, h.ol⟩
theorem gth_len (g : GtV) : (Value.pointer (some ⟨g.led, 0, none⟩) :: g.st.c).length = 71 := by rw [List.length_cons, stc_len]
theorem gtc_len (g : GtV) : g.c.length = 95 := by unfold GtV.c; rw [List.length_append, gth_len]; rfl
theorem gtc_at (g : GtV) (j : Nat) : g.c[71 + j]? = g.t[j]? := get_app9 (gth_len g)
theorem gtc_in (g : GtV) {i : Nat} (h : i < 70) : g.c[1 + i]? = g.st.c[i]? := by
  unfold GtV.c
  rw [List.getElem?_append_left (by rw [gth_len]; omega), show 1 + i = i + 1 by omega, List.getElem?_cons_succ]
theorem gtc_dt (g : GtV) {i k : Nat} (h : i + k ≤ 70) : (g.c.drop (1 + i)).take k = (g.st.c.drop i).take k := by
  unfold GtV.c
  rw [List.drop_append_of_le_length (by rw [gth_len]; omega), show 1 + i = i + 1 by omega, List.drop_succ_cons, List.take_append_of_le_length (by rw [List.length_drop, stc_len]; omega)]
theorem gtc_led (g : GtV) : g.c[0 + 0]? = some (.pointer (some ⟨g.led, 0, none⟩)) := rfl
theorem stc_0 (s : StV) : s.c[0]? = some (.int .u32 s.ep) := rfl
theorem stc_1 (s : StV) : s.c[1]? = some (.slice s.vp s.vs.length s.vc) := rfl
theorem stc_2 (s : StV) : s.c[2]? = some (.slice s.ip s.is.length s.ic) := rfl
theorem stc_3 (s : StV) : s.c[3]? = some (.int .u32 s.fid) := rfl
theorem stc_4 (s : StV) : s.c[4]? = some (.int .u8 s.ph) := rfl
theorem gtc_ep (g : GtV) : g.c[0 + 1 + 0]? = some (.int .u32 g.st.ep) := (gtc_in g (i := 0) (by omega)).trans (stc_0 _)
theorem gtc_vs (g : GtV) : g.c[0 + 1 + 1]? = some (.slice g.st.vp g.st.vs.length g.st.vc) := (gtc_in g (i := 1) (by omega)).trans (stc_1 _)
theorem gtc_is (g : GtV) : g.c[0 + 1 + 2]? = some (.slice g.st.ip g.st.is.length g.st.ic) := (gtc_in g (i := 2) (by omega)).trans (stc_2 _)
theorem gtc_fid (g : GtV) : g.c[0 + 1 + 3 + 0]? = some (.int .u32 g.st.fid) := (gtc_in g (i := 3) (by omega)).trans (stc_3 _)
theorem gtc_ph (g : GtV) : g.c[0 + 1 + 3 + 1]? = some (.int .u8 g.st.ph) := (gtc_in g (i := 4) (by omega)).trans (stc_4 _)
theorem gtc_vd (g : GtV) : g.c[0 + 1 + 69]? = some (.map (some g.st.vb)) := (gtc_in g (i := 69) (by omega)).trans (stc_vd _)
theorem gtc_st (g : GtV) : (g.c.drop (0 + 1)).take 70 = g.st.c := (gtc_dt g (i := 0) (k := 70) (by omega)).trans (stc_all _)
theorem gtc_fl (g : GtV) : (g.c.drop (0 + 1 + 3)).take 66 = .int .u32 g.st.fid :: .int .u8 g.st.ph :: g.st.fn.k := (gtc_dt g (i := 3) (k := 66) (by omega)).trans (stc_fl _)
theorem gtc_nx (g : GtV) : (g.c.drop (0 + 1 + 3 + 2)).take 64 = g.st.fn.k := (gtc_dt g (i := 5) (k := 64) (by omega)).trans (stc_net _)
theorem gtc_q (g : GtV) : g.c[0 + 71]? = some (.slice g.qp g.q.length g.qc) := gtc_at g 0
theorem gtc_rf (g : GtV) : g.c[0 + 72]? = some (.map (some g.rb)) := gtc_at g 1
theorem gtc_ys (g : GtV) : g.c[0 + 89]? = some (.int .u16 g.ys) := gtc_at g 18
theorem gtc_dn (g : GtV) : g.c[0 + 90]? = some (.int .u16 g.dn) := gtc_at g 19
theorem gtc_tk (g : GtV) : g.c[0 + 91]? = some (.int .i64 g.tk) := gtc_at g 20
theorem gtc_au (g : GtV) : g.c[0 + 92]? = some (.bool g.au) := gtc_at g 21
theorem gtc_o (g : GtV) : g.c[0 + 93]? = some (.slice g.op g.out.length g.oc) := gtc_at g 22
theorem gtc_off (g : GtV) : g.c[0 + 94]? = some (.bool g.off) := gtc_at g 23
theorem gtc_sl (g : GtV) {i : Nat} (h : i < 16) : g.c[0 + 73 + i * 1]? = some (.string (g.sl i)) := by
  rw [show 0 + 73 + i * 1 = 71 + (2 + i) by omega, gtc_at]
  rcases (show i = 0 ∨ i = 1 ∨ i = 2 ∨ i = 3 ∨ i = 4 ∨ i = 5 ∨ i = 6 ∨ i = 7 ∨ i = 8 ∨ i = 9 ∨ i = 10 ∨ i = 11 ∨ i = 12 ∨ i = 13 ∨ i = 14 ∨ i = 15 by omega) with rfl | rfl | rfl | rfl | rfl | rfl | rfl | rfl | rfl | rfl | rfl | rfl | rfl | rfl | rfl | rfl <;> rfl
theorem gtc_sat (g : GtV) (j : Nat) (v : Value) : setL g.c (71 + j) [v] = (.pointer (some ⟨g.led, 0, none⟩) :: g.st.c) ++ setL g.t j [v] := set_app9 (gth_len g)
theorem gtc_sst (g : GtV) (s : StV) : setL g.c (0 + 1) s.c = GtV.c { g with st := s } := by
  have h1 : g.c = [Value.pointer (some ⟨g.led, 0, none⟩)] ++ (g.st.c ++ g.t) := by unfold GtV.c; simp
  rw [h1, show 0 + 1 = 1 + 0 from rfl, set_app9 (n := 1) rfl, set_front (by rw [stc_len, stc_len])]; unfold GtV.c; simp; rfl
theorem gtc_sq (g : GtV) (p : Option Addr) (q : List Bt) (c : Nat) (E : List (Nat × Obj)) : setL g.c (0 + 71) [.slice p q.length c] = GtV.c { g with qp := p, q := q, qc := c, qE := E } := gtc_sat g 0 _
theorem gtc_sys (g : GtV) (x : Int) : setL g.c (0 + 89) [.int .u16 x] = GtV.c { g with ys := x } := gtc_sat g 18 _
theorem gtc_sdn (g : GtV) (x : Int) : setL g.c (0 + 90) [.int .u16 x] = GtV.c { g with dn := x } := gtc_sat g 19 _
theorem gtc_stk (g : GtV) (x : Int) : setL g.c (0 + 91) [.int .i64 x] = GtV.c { g with tk := x } := gtc_sat g 20 _
theorem gtc_sau (g : GtV) (b : Bool) : setL g.c (0 + 92) [.bool b] = GtV.c { g with au := b } := gtc_sat g 21 _
theorem gtc_so (g : GtV) (p : Option Addr) (o : List Ms) (c : Nat) (E : List (Nat × Obj)) : setL g.c (0 + 93) [.slice p o.length c] = GtV.c { g with op := p, out := o, oc := c, oE := E } := gtc_sat g 22 _
theorem gtc_soff (g : GtV) (b : Bool) : setL g.c (0 + 94) [.bool b] = GtV.c { g with off := b } := gtc_sat g 23 _
def upS (f : Nat → ByteArray) (i : Nat) (v : ByteArray) : Nat → ByteArray := fun j => if j = i then v else f j
theorem gtc_ssl (g : GtV) {i : Nat} (h : i < 16) (v : ByteArray) : setL g.c (0 + 73 + i * 1) [.string v] = GtV.c { g with sl := upS g.sl i v } := by
  rw [show 0 + 73 + i * 1 = 71 + (2 + i) by omega, gtc_sat]
  rcases (show i = 0 ∨ i = 1 ∨ i = 2 ∨ i = 3 ∨ i = 4 ∨ i = 5 ∨ i = 6 ∨ i = 7 ∨ i = 8 ∨ i = 9 ∨ i = 10 ∨ i = 11 ∨ i = 12 ∨ i = 13 ∨ i = 14 ∨ i = 15 by omega) with rfl | rfl | rfl | rfl | rfl | rfl | rfl | rfl | rfl | rfl | rfl | rfl | rfl | rfl | rfl | rfl <;> rfl

end Go.Proofs.Qxb6500908aGreat

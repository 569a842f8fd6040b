import Derived.Test.Qxb6500908aGreatW21
namespace Go.Proofs.Qxb6500908aGreat
open Go.Eng
set_option linter.unusedVariables false
set_option linter.unusedSimpArgs false

/-- a recovery -/
def opS (s : StP) : StP := if s.ph = 1 then setlP { s with ep := s.ep + 1 } false else { s with ep := s.ep + 1 }
def gt0 (s : StP) : GtP := ⟨s, [], fun _ => none, fun _ => ⟨#[]⟩, 0, 0, 0, !decide (s.ph = 0), [], false⟩
def openG (s : StP) : GtP := { gt0 s with out := pushP (gt0 s) }
def gv0 (led : Nat) (s : StV) (rb : Nat) : GtV := ⟨led, s, [], none, 0, [], rb, [], 0, fun _ => ⟨#[]⟩, 0, 0, 0, !decide (s.ph = 0), [], none, 0, [], false⟩
theorem gv0_ok {Z : List (Nat × Obj)} {s : StV} (h : s.ok Z) (led rb : Nat) : (gv0 led s rb).ok Z := ⟨h, Row.nil _ _, fun x hx => (by cases hx), Nat.zero_le _, fun i v e => (by cases e), List.nodup_nil, by simp [gv0], by simp [gv0], by simp [gv0], Row.nil _ _, fun x hx => (by cases hx), Nat.zero_le _⟩
theorem gv0_pl (s : StV) (led rb : Nat) : (gv0 led s rb).pl = gt0 s.pl := rfl
def gz0 : List Value := .slice none 0 0 :: .map none :: (slS (fun _ => ⟨#[]⟩) ++ [.int .u16 0, .int .u16 0, .int .i64 0, .bool false, .slice none 0 0, .bool false])
theorem fillS (pl : List (Nat × Nat)) (l : List Value) (i off size : Nat) (v : Value) (rest : List (Nat × Value)) (h1 : pl[i]? = some (off, size)) (h2 : v.cells.toList.length = size) (h3 : off + size ≤ l.length) : fillL pl l ((i, v) :: rest) = fillL pl (setL l off v.cells.toList) rest := by
  rw [show fillL pl l ((i, v) :: rest) = match pl[i]? with
    | none => none
    | some (off, size) => bif (v.cells.toList.length == size && Nat.ble (off + v.cells.toList.length) l.length) then fillL pl (setL l off v.cells.toList) rest else none from rfl, h1]
  show (bif (v.cells.toList.length == size && Nat.ble (off + v.cells.toList.length) l.length) then fillL pl (setL l off v.cells.toList) rest else none) = _
  rw [h2, blt_t h3, beq_self_eq_true]; rfl
theorem fill131 {z70 : List Value} (hz : z70.length = 70) (led : Nat) (s : StV) (rb : Nat) (au : Bool) (hau : au = !decide (s.ph = 0)) : fillL [(0, 1), (1, 70), (71, 1), (72, 1), (73, 16), (89, 1), (90, 1), (91, 1), (92, 1), (93, 1), (94, 1)] (.pointer none :: (z70 ++ gz0)) [(0, .pointer (some ⟨led, 0, none⟩)), (1, .agg ⟨s.c⟩), (3, .map (some rb)), (8, .bool au)] = some (gv0 led s rb).c := by
  have h0 : (Value.pointer none :: (z70 ++ gz0)).length = 95 := by rw [List.length_cons, List.length_append, hz]; rfl
  rw [fillS _ _ 0 0 1 _ _ rfl rfl (by omega)]
  rw [show setL (Value.pointer none :: (z70 ++ gz0)) 0 (Value.pointer (some ⟨led, 0, none⟩)).cells.toList = [.pointer (some ⟨led, 0, none⟩)] ++ (z70 ++ gz0) from rfl]
  have h1 : ([Value.pointer (some ⟨led, 0, none⟩)] ++ (z70 ++ gz0)).length = 95 := h0
  rw [fillS _ _ 1 1 70 (.agg ⟨s.c⟩) _ rfl (stc_len s) (by omega)]
  rw [show (Value.agg ⟨s.c⟩).cells.toList = s.c from rfl, show (1 : Nat) = 1 + 0 from rfl, set_app9 (n := 1) rfl, set_front (by rw [hz, stc_len])]
  have h2 : ([Value.pointer (some ⟨led, 0, none⟩)] ++ (s.c ++ gz0)).length = 95 := by rw [List.length_append, List.length_append, stc_len]; rfl
  rw [fillS _ _ 3 72 1 _ _ rfl rfl (by omega)]
  rw [← List.append_assoc, show (72 : Nat) = 71 + 1 from rfl, set_app9 (n := 71) (by rw [List.length_append, stc_len]; rfl)]
  have h3 : (([Value.pointer (some ⟨led, 0, none⟩)] ++ s.c) ++ setL gz0 1 (Value.map (some rb)).cells.toList).length = 95 := by rw [List.length_append, List.length_append, stc_len]; rfl
  rw [fillS _ _ 8 92 1 _ _ rfl rfl (by omega)]
  rw [show (92 : Nat) = 71 + 21 from rfl, set_app9 (n := 71) (by rw [List.length_append, stc_len]; rfl)]
  subst hau
  rfl
theorem ep_ok {Z : List (Nat × Obj)} {s : StV} (h : s.ok Z) {e : Int} (he : 0 ≤ e ∧ e ≤ 4294967295) : StV.ok Z { s with ep := e } := ⟨he, h.v, h.vo, h.vl, h.v1, h.i, h.io, h.il, h.fid, h.ph, h.fn, h.vd, h.vk⟩
/-- a fresh ledger -/
def st0 (vb : Nat) (vp : Option Addr) (vc : Nat) (vE : List (Nat × Obj)) : StV := ⟨0, [⟨0, nt0⟩], vp, vc, vE, [], none, 0, [], 0, 0, nt0, vb, []⟩
def sp0 : StP := ⟨0, [(0, np0)], [], 0, 0, np0, fun _ => none⟩
def lp0 : LdP := ⟨sp0, false, false, 0, false⟩
/-! ## devices -/
structure DeP where
  id : Int
  ep : Int
  rn : Int
  rs : ByteArray
  sg : Int
  ss : ByteArray
  fin : Int → Bool
  sb : Bool
structure DeV where
  id : Int
  ep : Int
  rn : Int
  rs : ByteArray
  sg : Int
  ss : ByteArray
  mb : Nat
  fm : List (Int × Value)
  sb : Bool
def DeV.c (d : DeV) : List Value := [.int .u8 d.id, .int .u32 d.ep, .int .u32 d.rn, .string d.rs, .int .u32 d.sg, .string d.ss, .map (some d.mb), .bool d.sb]
def DeV.pl (d : DeV) : DeP := ⟨d.id, d.ep, d.rn, d.rs, d.sg, d.ss, fun i => (mget d.fm i).isSome, d.sb⟩
def DeV.F (b : Nat) (d : DeV) : List (Nat × Obj) := [(b, C d.c 94), (d.mb, MO (kInt .u32) d.fm)]
structure DeV.ok (d : DeV) : Prop where
  id : 0 ≤ d.id ∧ d.id ≤ 255
  ep : 0 ≤ d.ep ∧ d.ep ≤ 4294967295
  rn : 0 ≤ d.rn ∧ d.rn ≤ 4294967295
  sg : 0 ≤ d.sg ∧ d.sg ≤ 4294967295
  fm : ∀ i v, mget d.fm i = some v → v = .bool true
def ms0 : Ms := ⟨0, 0, 0, 0, false, 0, 0, ⟨#[]⟩⟩
def rpl (d : Int) (m : Ms) (k : Int) (y : Bool) (r s : Int) : Ms := ⟨k, d, m.e, m.b, y, r, s, ⟨#[]⟩⟩
def finU (f : Int → Bool) (b : Int) : Int → Bool := fun i => if i = b then true else f i
/-- a device takes a message -/
def handP (d : DeP) (m : Ms) : DeP × Option Ms :=
  if ¬ m.d = d.id ∨ m.e < d.ep then (d, none)
  else if m.k = 0 then
    (if m.b = d.sg ∨ m.b = d.rn then ({ d with ep := m.e }, some (rpl d.id m 4 true 0 0))
     else if d.sb = true ∨ ¬ d.sg = 0 ∨ d.fin m.b = true then ({ d with ep := m.e }, some (rpl d.id m 4 false 0 0))
     else ({ d with ep := m.e, sg := m.b, ss := m.t }, some (rpl d.id m 4 true 0 0)))
  else if m.k = 1 then
    (if m.b = d.sg then ({ d with ep := m.e, rn := d.sg, rs := d.ss, sg := 0, ss := ⟨#[]⟩, fin := finU d.fin m.b }, some (rpl d.id m 5 false 0 0))
     else if m.b = d.rn then ({ d with ep := m.e }, some (rpl d.id m 5 false 0 0))
     else ({ d with ep := m.e }, none))
  else if m.k = 2 then
    (if m.b = d.sg then ({ d with ep := m.e, sg := 0, ss := ⟨#[]⟩, fin := finU d.fin m.b }, some (rpl d.id m 5 false 0 0))
     else ({ d with ep := m.e, fin := finU d.fin m.b }, some (rpl d.id m 5 false 0 0)))
  else if m.k = 3 then ({ d with ep := m.e }, some (rpl d.id m 6 false d.rn d.sg))
  else ({ d with ep := m.e }, none)
section hds
variable {d : DeP} {m : Ms}
theorem hd_n (h : ¬ m.d = d.id ∨ m.e < d.ep) : handP d m = (d, none) := by unfold handP; rw [if_pos h]
theorem hd_p1 (h : ¬ (¬ m.d = d.id ∨ m.e < d.ep)) (hk : m.k = 0) (h1 : m.b = d.sg ∨ m.b = d.rn) : handP d m = ({ d with ep := m.e }, some (rpl d.id m 4 true 0 0)) := by unfold handP; rw [if_neg h, if_pos hk, if_pos h1]
theorem hd_p2 (h : ¬ (¬ m.d = d.id ∨ m.e < d.ep)) (hk : m.k = 0) (h1 : ¬ (m.b = d.sg ∨ m.b = d.rn)) (h2 : d.sb = true ∨ ¬ d.sg = 0 ∨ d.fin m.b = true) : handP d m = ({ d with ep := m.e }, some (rpl d.id m 4 false 0 0)) := by unfold handP; rw [if_neg h, if_pos hk, if_neg h1, if_pos h2]
theorem hd_p3 (h : ¬ (¬ m.d = d.id ∨ m.e < d.ep)) (hk : m.k = 0) (h1 : ¬ (m.b = d.sg ∨ m.b = d.rn)) (h2 : ¬ (d.sb = true ∨ ¬ d.sg = 0 ∨ d.fin m.b = true)) : handP d m = ({ d with ep := m.e, sg := m.b, ss := m.t }, some (rpl d.id m 4 true 0 0)) := by unfold handP; rw [if_neg h, if_pos hk, if_neg h1, if_neg h2]
theorem hd_c1 (h : ¬ (¬ m.d = d.id ∨ m.e < d.ep)) (hk : m.k = 1) (h1 : m.b = d.sg) : handP d m = ({ d with ep := m.e, rn := d.sg, rs := d.ss, sg := 0, ss := ⟨#[]⟩, fin := finU d.fin m.b }, some (rpl d.id m 5 false 0 0)) := by unfold handP; rw [if_neg h, if_neg (by omega), if_pos hk, if_pos h1]
theorem hd_c2 (h : ¬ (¬ m.d = d.id ∨ m.e < d.ep)) (hk : m.k = 1) (h1 : ¬ m.b = d.sg) (h2 : m.b = d.rn) : handP d m = ({ d with ep := m.e }, some (rpl d.id m 5 false 0 0)) := by unfold handP; rw [if_neg h, if_neg (by omega), if_pos hk, if_neg h1, if_pos h2]
theorem hd_c0 (h : ¬ (¬ m.d = d.id ∨ m.e < d.ep)) (hk : m.k = 1) (h1 : ¬ m.b = d.sg) (h2 : ¬ m.b = d.rn) : handP d m = ({ d with ep := m.e }, none) := by unfold handP; rw [if_neg h, if_neg (by omega), if_pos hk, if_neg h1, if_neg h2]
theorem hd_r1 (h : ¬ (¬ m.d = d.id ∨ m.e < d.ep)) (hk : m.k = 2) (h1 : m.b = d.sg) : handP d m = ({ d with ep := m.e, sg := 0, ss := ⟨#[]⟩, fin := finU d.fin m.b }, some (rpl d.id m 5 false 0 0)) := by unfold handP; rw [if_neg h, if_neg (by omega), if_neg (by omega), if_pos hk, if_pos h1]
theorem hd_r2 (h : ¬ (¬ m.d = d.id ∨ m.e < d.ep)) (hk : m.k = 2) (h1 : ¬ m.b = d.sg) : handP d m = ({ d with ep := m.e, fin := finU d.fin m.b }, some (rpl d.id m 5 false 0 0)) := by unfold handP; rw [if_neg h, if_neg (by omega), if_neg (by omega), if_pos hk, if_neg h1]
theorem hd_q (h : ¬ (¬ m.d = d.id ∨ m.e < d.ep)) (hk : m.k = 3) : handP d m = ({ d with ep := m.e }, some (rpl d.id m 6 false d.rn d.sg)) := by unfold handP; rw [if_neg h, if_neg (by omega), if_neg (by omega), if_neg (by omega), if_pos hk]
theorem hd_x (h : ¬ (¬ m.d = d.id ∨ m.e < d.ep)) (h0 : ¬ m.k = 0) (h1 : ¬ m.k = 1) (h2 : ¬ m.k = 2) (h3 : ¬ m.k = 3) : handP d m = ({ d with ep := m.e }, none) := by unfold handP; rw [if_neg h, if_neg h0, if_neg h1, if_neg h2, if_neg h3]
end hds
theorem fin_pl (l : List (Int × Value)) (b : Int) : (fun i => (mget (mput l b (.bool true)) i).isSome) = finU (fun i => (mget l i).isSome) b := by
  funext i
  unfold finU
  rw [mget_mput]
  split <;> rfl
theorem fm_put {l : List (Int × Value)} (h : ∀ i v, mget l i = some v → v = .bool true) (b : Int) : ∀ i v, mget (mput l b (.bool true)) i = some v → v = .bool true := by
  intro i v e
  rw [mget_mput] at e
  split at e
  · injection e with e; exact e.symm
  · exact h i v e
theorem fm_val {d : DeV} (h : d.ok) (b : Int) : (mget d.fm b).getD (.bool false) = .bool (d.pl.fin b) := by
  show _ = Value.bool (mget d.fm b).isSome
  cases e : mget d.fm b with
  | none => rfl
  | some v => rw [h.fm b v e]; rfl
/-- what handing over leaves -/
def HdR (db : Nat) (d : DeV) (r : DeP × Option Ms) (v : Value) (F' : List (Nat × Obj)) : Prop :=
  (∃ d' : DeV, d'.ok ∧ d'.mb = d.mb ∧ r = (d'.pl, none) ∧ v = .tuple #[.agg ⟨msc ms0⟩, .bool false] ∧ F' = DeV.F db d') ∨
  (∃ (d' : DeV) (m' : Ms), d'.ok ∧ d'.mb = d.mb ∧ m'.ok ∧ r = (d'.pl, some m') ∧ v = .tuple #[.agg ⟨msc m'⟩, .bool true] ∧ F' = DeV.F db d')
theorem rpl_ok {d : Int} {m : Ms} {k r s : Int} {y : Bool} (hm : m.ok) (hd : 0 ≤ d ∧ d ≤ 255) (hk : 0 ≤ k ∧ k ≤ 255) (hr : 0 ≤ r ∧ r ≤ 4294967295) (hs : 0 ≤ s ∧ s ≤ 4294967295) : (rpl d m k y r s).ok := ⟨hk, hd, hm.e, hm.b, hr, hs⟩


attribute [local irreducible] NtV.k StV.c LdV.c StV.E GtV.c GtV.t orB sh1

set_option maxHeartbeats 4000000 in
theorem outbox_spec (gb : Nat) (g : GtV) : Sp Tryz.prog 16 #[.pointer (some ⟨gb, 0, none⟩)] [(gb, C g.c 127)] (fun v F' => v = .slice g.op g.out.length g.oc ∧ F' = [(gb, C (GtV.c { g with out := [], op := none, oc := 0, oE := [] }) 127)]) := by
  refine f_enter (args := [.pointer (some ⟨gb, 0, none⟩)]) Tryz.func16 rfl Tryz.ntmps16 rfl ?_
  intro w0 w a hpre hl hh
  simp only [slotsFrom, Nat.reduceAdd] at hl
  refine c_seq ?_
  refine c_region ?_
  refine wl (wl_val hl rfl trivial (r_assign hl rfl) ?_)
  clear hl a; intro a hl
  refine w_nil ?_
  have hl2 := hl.add (t := 0) (hl.nil) rfl; clear hl; have hl := hl2; clear hl2
  refine then_normal ?_
  refine c_seq ?_
  refine c_region ?_
  refine wl (wl_val hl rfl trivial (r_move hl rfl) ?_)
  clear hl a; intro a hl
  refine wl (wl_val hl rfl trivial (r_nilCheck hl rfl) ?_)
  clear hl a; intro a hl
  refine wl (wl_val hl rfl trivial (r_field hl rfl fld127_9) ?_)
  clear hl a; intro a hl
  refine wl (w_load hl hh rfl trivial one53 rfl (by repeat (first | exact find_head | apply find_tail | apply find_skip)) (by first | exact gtc_led _ | exact gtc_ep _ | exact gtc_vs _ | exact gtc_is _ | exact gtc_fid _ | exact gtc_ph _ | exact gtc_vd _ | exact gtc_q _ | exact gtc_rf _ | exact gtc_ys _ | exact gtc_dn _ | exact gtc_tk _ | exact gtc_au _ | exact gtc_o _ | exact gtc_off _ | rfl) ?_)
  clear hl a; intro a hl
  refine wl (wl_val hl rfl trivial (r_assign hl rfl) ?_)
  clear hl a; intro a hl
  refine w_nil ?_
  have hl2 := hl.add (t := 0) (hl.add (t := 3) (hl.nil) rfl) rfl; clear hl; have hl := hl2; clear hl2
  refine then_normal ?_
  refine c_seq ?_
  refine c_region ?_
  refine wl (wl_val hl rfl trivial (r_move hl rfl) ?_)
  clear hl a; intro a hl
  refine wl (wl_val hl rfl trivial (r_nilCheck hl rfl) ?_)
  clear hl a; intro a hl
  refine wl (wl_val hl rfl trivial (r_field hl rfl fld127_9) ?_)
  clear hl a; intro a hl
  refine wl (w_store hl hh trivial one53 rfl rfl (by repeat (first | exact find_head | apply find_tail | apply find_skip)) (by first | (simp; done) | (simp; omega) | (rw [gtc_len]; omega) | (rw [gtc_len]; simp; done)) (by first | rfl | assumption | (apply Row.one; assumption)) (by first | exact gtc_sys _ _ | exact gtc_sdn _ _ | exact gtc_stk _ _ | exact gtc_sau _ _ | exact gtc_soff _ _ | exact gtc_so _ none [] 0 [] | (simp only [setL, List.getElem?_cons_zero, List.getElem?_cons_succ, Value.cells, List.take_zero, List.take_succ_cons, List.take_nil, List.drop_zero, List.drop_succ_cons, List.drop_nil, List.length_cons, List.length_nil, List.cons_append, List.nil_append, List.append_nil, Nat.zero_add, Nat.add_zero, Nat.reduceAdd, Nat.reduceBEq, Nat.reduceEqDiff, Nat.ble, BEq.rfl, Bool.and_true, Bool.and_self, cond_true, beq_self_eq_true]; rfl)) ?_)
  clear hh w; intro w hh
  refine w_nil ?_
  have hl2 := hl.add (t := 3) (hl.nil) rfl; clear hl; have hl := hl2; clear hl2
  refine then_normal ?_
  refine c_seq ?_
  refine c_region ?_
  refine wl (wl_val hl rfl trivial (r_move hl rfl) ?_)
  clear hl a; intro a hl
  refine wl (wl_val hl rfl trivial (r_assign hl rfl) ?_)
  clear hl a; intro a hl
  refine w_nil ?_
  have hl2 := hl.add (t := 2) (hl.nil) rfl; clear hl; have hl := hl2; clear hl2
  refine then_normal ?_
  refine wp_ret ?_
  refine f_ret1 (F' := [(gb, C (GtV.c { g with out := [], op := none, oc := 0, oE := [] }) 127)]) hl hh rfl rfl (by repeat (first | exact keeps_nil | apply keeps_cons (by repeat (first | exact find_head | apply find_tail | apply find_skip)) (by first  | rfl) | exact keeps_self | exact keeps_left | apply keeps_app | apply keeps_mv | apply keeps_skip)) ?_
  exact ⟨rfl, rfl⟩

set_option maxHeartbeats 4000000 in
theorem down_spec (gb : Nat) (g : GtV) : Sp Tryz.prog 40 #[.pointer (some ⟨gb, 0, none⟩)] [(gb, C g.c 127)] (fun v F' => v = .bool g.off ∧ F' = [(gb, C g.c 127)]) := by
  refine f_enter (args := [.pointer (some ⟨gb, 0, none⟩)]) Tryz.func40 rfl Tryz.ntmps40 rfl ?_
  intro w0 w a hpre hl hh
  simp only [slotsFrom, Nat.reduceAdd] at hl
  refine c_seq ?_
  refine c_region ?_
  refine wl (wl_val hl rfl trivial (r_assign hl rfl) ?_)
  clear hl a; intro a hl
  refine w_nil ?_
  have hl2 := hl.add (t := 0) (hl.nil) rfl; clear hl; have hl := hl2; clear hl2
  refine then_normal ?_
  refine c_seq ?_
  refine c_region ?_
  refine wl (wl_val hl rfl trivial (r_move hl rfl) ?_)
  clear hl a; intro a hl
  refine wl (wl_val hl rfl trivial (r_nilCheck hl rfl) ?_)
  clear hl a; intro a hl
  refine wl (wl_val hl rfl trivial (r_field hl rfl fld127_10) ?_)
  clear hl a; intro a hl
  refine wl (w_load hl hh rfl trivial one4 rfl (by repeat (first | exact find_head | apply find_tail | apply find_skip)) (by first | exact gtc_led _ | exact gtc_ep _ | exact gtc_vs _ | exact gtc_is _ | exact gtc_fid _ | exact gtc_ph _ | exact gtc_vd _ | exact gtc_q _ | exact gtc_rf _ | exact gtc_ys _ | exact gtc_dn _ | exact gtc_tk _ | exact gtc_au _ | exact gtc_o _ | exact gtc_off _ | rfl) ?_)
  clear hl a; intro a hl
  refine wl (wl_val hl rfl trivial (r_assign hl rfl) ?_)
  clear hl a; intro a hl
  refine w_nil ?_
  have hl2 := hl.add (t := 2) (hl.nil) rfl; clear hl; have hl := hl2; clear hl2
  refine then_normal ?_
  refine wp_ret ?_
  refine f_ret1 (F' := [(gb, C g.c 127)]) hl hh rfl rfl (by repeat (first | exact keeps_nil | apply keeps_cons (by repeat (first | exact find_head | apply find_tail | apply find_skip)) (by first  | rfl) | exact keeps_self | exact keeps_left | apply keeps_app | apply keeps_mv | apply keeps_skip)) ?_
  exact ⟨rfl, rfl⟩

set_option maxHeartbeats 4000000 in
theorem waiting_spec (gb : Nat) (g : GtV) : Sp Tryz.prog 114 #[.pointer (some ⟨gb, 0, none⟩)] [(gb, C g.c 127)] (fun v F' => v = .int .i64 (g.q.length : Int) ∧ F' = [(gb, C g.c 127)]) := by
  refine f_enter (args := [.pointer (some ⟨gb, 0, none⟩)]) Tryz.func114 rfl Tryz.ntmps114 rfl ?_
  intro w0 w a hpre hl hh
  simp only [slotsFrom, Nat.reduceAdd] at hl
  refine c_seq ?_
  refine c_region ?_
  refine wl (wl_val hl rfl trivial (r_assign hl rfl) ?_)
  clear hl a; intro a hl
  refine w_nil ?_
  have hl2 := hl.add (t := 0) (hl.nil) rfl; clear hl; have hl := hl2; clear hl2
  refine then_normal ?_
  refine c_seq ?_
  refine c_region ?_
  refine wl (wl_val hl rfl trivial (r_move hl rfl) ?_)
  clear hl a; intro a hl
  refine wl (wl_val hl rfl trivial (r_nilCheck hl rfl) ?_)
  clear hl a; intro a hl
  refine wl (wl_val hl rfl trivial (r_field hl rfl fld127_2) ?_)
  clear hl a; intro a hl
  refine wl (w_load hl hh rfl trivial one79 rfl (by repeat (first | exact find_head | apply find_tail | apply find_skip)) (by first | exact gtc_led _ | exact gtc_ep _ | exact gtc_vs _ | exact gtc_is _ | exact gtc_fid _ | exact gtc_ph _ | exact gtc_vd _ | exact gtc_q _ | exact gtc_rf _ | exact gtc_ys _ | exact gtc_dn _ | exact gtc_tk _ | exact gtc_au _ | exact gtc_o _ | exact gtc_off _ | rfl) ?_)
  clear hl a; intro a hl
  refine wl (wl_val hl rfl trivial (r_lenS hl rfl slc79) ?_)
  clear hl a; intro a hl
  refine wl (wl_val hl rfl trivial (r_assign hl rfl) ?_)
  clear hl a; intro a hl
  refine w_nil ?_
  have hl2 := hl.add (t := 2) (hl.nil) rfl; clear hl; have hl := hl2; clear hl2
  refine then_normal ?_
  refine wp_ret ?_
  refine f_ret1 (F' := [(gb, C g.c 127)]) hl hh rfl rfl (by repeat (first | exact keeps_nil | apply keeps_cons (by repeat (first | exact find_head | apply find_tail | apply find_skip)) (by first  | rfl) | exact keeps_self | exact keeps_left | apply keeps_app | apply keeps_mv | apply keeps_skip)) ?_
  exact ⟨rfl, rfl⟩
end Go.Proofs.Qxb6500908aGreat

import Derived.Test.Qxb6500908aGreatW11
import Derived.Test.Qxb6500908aGreatMdg
namespace Go.Proofs.Qxb6500908aGreat
open Go.Eng
set_option linter.unusedVariables false
set_option linter.unusedSimpArgs false
theorem fld127_2 : fieldOk Tryz.prog 127 2 71 = true := by kernel_rfl
theorem one79 : oneOk Tryz.prog 79 = true := by kernel_rfl
theorem slc79 : slcOk Tryz.prog 79 2 = true := by kernel_rfl
theorem app79 : appOk Tryz.prog 79 141 2 32 = true := by kernel_rfl
theorem cal60 : callable Tryz.prog 60 = true := by kernel_rfl
theorem fld141_0 : fieldOk Tryz.prog 141 0 0 = true := by kernel_rfl
theorem cal45 : callable Tryz.prog 45 = true := by kernel_rfl
theorem cal9 : callable Tryz.prog 9 = true := by kernel_rfl
theorem fld127_7 : fieldOk Tryz.prog 127 7 91 = true := by kernel_rfl
theorem fld127_3 : fieldOk Tryz.prog 127 3 72 = true := by kernel_rfl
theorem kd36 : KeyD Tryz.prog 36 (kInt .u32) := KeyD.now (keyInt Tryz.underlying36) ⟨_, Tryz.underlying36, fun a b => by
  simp only [kInt, Instr.sameNow, if_true]
  by_cases e : a = b
  · simp [e]
  · simp [e]⟩
theorem dget_nil (a : Int) : dget ([] : List (ME Int)) a = none := rfl
theorem dget_cons (p : ME Int) (l : List (ME Int)) (a : Int) : dget (p :: l) a = if a = p.ky then some p.vl else dget l a := by
  show (dfind (p :: l) a).map _ = _
  rw [show dfind (p :: l) a = if a = p.ky then some (0, p.vl) else (dfind l a).map (fun q => (q.1 + 1, q.2)) from rfl]
  split
  · rfl
  · unfold dget
    cases dfind l a <;> rfl
theorem dget_put : ∀ (l : List (ME Int)) (a b : Int) (v : Value) (nb : Nat), dget (dput l a v nb).1 b = if b = a then some v else dget l b := by
  intro l
  have key : ∀ (l : List (ME Int)) (a b : Int) (v : Value) (nb : Nat), dfind l a = none → dget (l ++ [⟨a, v, nb⟩]) b = if b = a then some v else dget l b := by
    intro l
    induction l with
    | nil => intro a b v nb _; rw [List.nil_append, dget_cons]
    | cons p l ih =>
      intro a b v nb h
      unfold dfind at h
      split at h
      · cases h
      · rename_i hne
        have h' : dfind l a = none := by cases hm : dfind l a with | none => rfl | some q => rw [hm] at h; cases h
        rw [List.cons_append, dget_cons, dget_cons, ih a b v nb h']
        split
        · rename_i e
          rw [if_neg (fun e2 => hne (by rw [← e2]; exact e))]
        · rfl
  have key2 : ∀ (l : List (ME Int)) (a b : Int) (v : Value) (q : Nat × Value), dfind l a = some q → dget (l.modify q.1 (fun e => { e with vl := v })) b = if b = a then some v else dget l b := by
    intro l
    induction l with
    | nil => intro a b v q h; cases h
    | cons p l ih =>
      intro a b v q h
      unfold dfind at h
      split at h
      · rename_i e
        injection h with h
        subst h
        show dget ({ p with vl := v } :: l) b = _
        rw [dget_cons, dget_cons]
        simp only
        rw [← e]
        split <;> rfl
      · rename_i hne
        cases hm : dfind l a with
        | none => rw [hm] at h; cases h
        | some q' =>
          rw [hm] at h
          injection h with h
          subst h
          show dget (p :: l.modify q'.1 _) b = _
          rw [dget_cons, dget_cons, ih a b v q' hm]
          split
          · rename_i e
            rw [if_neg (fun e2 => hne (by rw [← e2]; exact e))]
          · rfl
  intro a b v nb
  unfold dput
  cases h : dfind l a with
  | none => exact key l a b v nb h
  | some q => exact key2 l a b v q h
/-- a batch's turn -/
def stNx (g : GtP) (id : Int) (n : NtP) : StP := { g.st with fid := id, ph := 1, fn := n }
def slF (f : Nat → ByteArray) (n : NtP) (d : Nat) : Nat → ByteArray := fun j => if j < d then slP n j else f j
def rfU (f : Int → Option Int) (i c : Int) : Int → Option Int := fun j => if j = i then some c else f j
def startP (g : GtP) (l : LdP) : GtP × LdP := match g.q with
  | [] => (g, l)
  | b :: q =>
    if vcP g b.2 = 0 then
      (match apP (lastV g) b.2 with
      | none => (g, l)
      | some n =>
        if (admitP l (stNx g b.1 n)).2 = 0 then
          ({ g with q := q, st := stNx g b.1 n, sl := slF g.sl n 16, ys := 0, dn := 0, tk := 0, au := false, out := g.out ++ pushP { g with q := q, st := stNx g b.1 n, sl := slF g.sl n 16, ys := 0, dn := 0, tk := 0, au := false } }, (admitP l (stNx g b.1 n)).1)
        else if (admitP l (stNx g b.1 n)).2 = 1 then ({ g with q := q, rf := rfU g.rf b.1 11 }, (admitP l (stNx g b.1 n)).1)
        else (GtP.offd { g with q := q }, (admitP l (stNx g b.1 n)).1))
    else ({ g with q := q, rf := rfU g.rf b.1 (vcP g b.2) }, l)
theorem vc_b (g : GtP) (cs : List Ch) : vcP g cs = 0 ∨ vcP g cs = 9 ∨ vcP g cs = 10 := by
  unfold vcP; split
  · exact .inr (.inl rfl)
  · split
    · exact .inl rfl
    · exact .inr (.inr rfl)
theorem slF_up {f : Nat → ByteArray} {n : NtP} {d : Nat} : upS (slF f n d) d (slP n d) = slF f n (d + 1) := by
  funext j
  unfold upS slF
  by_cases h : j = d
  · subst h; rw [if_pos rfl, if_pos (by omega)]
  · rw [if_neg h]
    by_cases h2 : j < d
    · rw [if_pos h2, if_pos (by omega)]
    · rw [if_neg h2, if_neg (by omega)]
section stp
variable {g : GtP} {l : LdP} {b : Int × List Ch} {q : List (Int × List Ch)} {n : NtP}
theorem sx_0 (h : g.q = []) : startP g l = (g, l) := by unfold startP; rw [h]
theorem sx_r (h : g.q = b :: q) (h1 : ¬ vcP g b.2 = 0) : startP g l = ({ g with q := q, rf := rfU g.rf b.1 (vcP g b.2) }, l) := by unfold startP; rw [h]; simp only; rw [if_neg h1]
theorem sx_1 (h : g.q = b :: q) (h1 : vcP g b.2 = 0) (h2 : apP (lastV g) b.2 = some n) (h3 : (admitP l (stNx g b.1 n)).2 = 1) : startP g l = ({ g with q := q, rf := rfU g.rf b.1 11 }, (admitP l (stNx g b.1 n)).1) := by
  unfold startP; rw [h]; simp only; rw [if_pos h1, h2]; simp only; rw [if_neg (by omega), if_pos h3]
theorem sx_2 (h : g.q = b :: q) (h1 : vcP g b.2 = 0) (h2 : apP (lastV g) b.2 = some n) (h3 : (admitP l (stNx g b.1 n)).2 = 2) : startP g l = (GtP.offd { g with q := q }, (admitP l (stNx g b.1 n)).1) := by
  unfold startP; rw [h]; simp only; rw [if_pos h1, h2]; simp only; rw [if_neg (by omega), if_neg (by omega)]
theorem sx_y (h : g.q = b :: q) (h1 : vcP g b.2 = 0) (h2 : apP (lastV g) b.2 = some n) (h3 : (admitP l (stNx g b.1 n)).2 = 0) : startP g l = ({ g with q := q, st := stNx g b.1 n, sl := slF g.sl n 16, ys := 0, dn := 0, tk := 0, au := false, out := g.out ++ pushP { g with q := q, st := stNx g b.1 n, sl := slF g.sl n 16, ys := 0, dn := 0, tk := 0, au := false } }, (admitP l (stNx g b.1 n)).1) := by
  unfold startP; rw [h]; simp only; rw [if_pos h1, h2]; simp only; rw [if_pos h3]
end stp
theorem GO.grow {gb : Nat} {r : GtP × LdP} {Z G F' : List (Nat × Obj)} {g' : GtV} {l' : LdV} (h1 : g'.ok (Z ++ G)) (h2 : l'.ok (Z ++ G)) (h3 : g'.pl = r.1) (h4 : l'.pl = r.2) (h5 : F' = GF gb g' l' (Z ++ G)) : GO gb g'.led r Z F' := ⟨g', l', G, rfl, h1, h2, h3, h4, h5⟩
theorem dput_ky : ∀ {l : List (ME Int)} {a : Int} {v : Value} {nb : Nat}, (l.map ME.ky).Nodup → (((dput l a v nb).1).map ME.ky).Nodup := by
  intro l a v nb h
  unfold dput
  cases hf : dfind l a with
  | some q =>
    have e : (l.modify q.1 (fun e => { e with vl := v })).map ME.ky = l.map ME.ky := by
      refine List.ext_getElem? fun i => ?_
      rw [List.getElem?_map, List.getElem?_map, List.getElem?_modify]
      cases l[i]? with
      | none => rfl
      | some x => by_cases e : q.1 = i <;> simp [e]
    show ((l.modify q.1 (fun e => { e with vl := v })).map ME.ky).Nodup
    rw [e]; exact h
  | none =>
    show ((l ++ [(⟨a, v, nb⟩ : ME Int)]).map ME.ky).Nodup
    rw [List.map_append, List.nodup_append]
    refine ⟨h, by simp, fun x hx y hy e => ?_⟩
    simp only [List.map_cons, List.map_nil, List.mem_singleton] at hy
    subst hy; subst e
    obtain ⟨p, hp, hk⟩ := List.mem_map.1 hx
    have key : ∀ (l : List (ME Int)) (p : ME Int), p ∈ l → dfind l p.ky ≠ none := by
      intro l
      induction l with
      | nil => intro p hp; cases hp
      | cons q l ih =>
        intro p hp
        rw [show dfind (q :: l) p.ky = if p.ky = q.ky then some (0, q.vl) else (dfind l p.ky).map (fun z => (z.1 + 1, z.2)) from rfl]
        split
        · simp
        · rename_i hne
          rcases List.mem_cons.1 hp with e | e
          · exact absurd (by rw [e]) hne
          · cases hm : dfind l p.ky with
            | none => exact absurd hm (ih p e)
            | some z => simp
    exact key l p hp (by rw [hk]; exact hf)
/-- a batch was refused -/
theorem rf_ok {Z : List (Nat × Obj)} {g : GtV} (h : g.ok Z) {i c : Int} (hc : 0 ≤ c ∧ c ≤ 255) : GtV.ok Z { g with rl := (dput g.rl i (.int .u8 c) g.rn).1, rn := (dput g.rl i (.int .u8 c) g.rn).2 } :=
  ⟨h.st, h.q, h.qo, h.ql, fun j v e => by
    have e2 : dget (dput g.rl i (.int .u8 c) g.rn).1 j = some v := e
    rw [dget_put] at e2
    split at e2
    · injection e2 with e2; exact ⟨c, e2.symm, hc⟩
    · exact h.rv j v e2, dput_ky h.rk, h.ys, h.dn, h.tk, h.o, h.oo, h.ol⟩
theorem rf_pl (g : GtV) (i c : Int) : GtV.pl { g with rl := (dput g.rl i (.int .u8 c) g.rn).1, rn := (dput g.rl i (.int .u8 c) g.rn).2 } = { g.pl with rf := rfU g.pl.rf i c } := by
  unfold GtV.pl rfU
  simp only [GtP.mk.injEq, true_and, and_true]
  funext j
  rw [dget_put]
  split <;> rfl
/-- a batch taken out of the queue -/
theorem qd_ok {Z : List (Nat × Obj)} {g : GtV} (h : g.ok Z) {i b : Nat} {j : List Value} (hi : i < g.q.length) (hl : (fl btc (delP g.q i) ++ j).length = g.qc * 2) (hc : g.q.length ≤ g.qc) : GtV.ok Z { g with q := delP g.q i, qp := some ⟨b, 0, none⟩, qE := [(b, C (fl btc (delP g.q i) ++ j) 141)] } :=
  ⟨h.st, .inr ⟨b, g.qc, j, rfl, by rw [fl_len btc_len], hl, by simp only; rw [delP_len hi]; omega, rfl⟩, fun x hx => h.qo x (delP_mem hx), by simp only; rw [delP_len hi]; have := h.ql; omega, h.rv, h.rk, h.ys, h.dn, h.tk, h.o, h.oo, h.ol⟩
theorem slF_0 (f : Nat → ByteArray) (n : NtP) : slF f n 0 = f := by funext j; unfold slF; rw [if_neg (by omega)]
theorem fli_ok {Z : List (Nat × Obj)} {s : StV} (h : s.ok Z) {i p : Int} {n : NtV} (hi : 0 ≤ i ∧ i ≤ 4294967295) (hp : 0 ≤ p ∧ p ≤ 3) (hn : n.ok Z) : StV.ok Z { s with fid := i, ph := p, fn := n } := ⟨h.ep, h.v, h.vo, h.vl, h.v1, h.i, h.io, h.il, hi, hp, hn, h.vd, h.vk⟩
theorem delP_map {α β : Type} (f : α → β) (l : List α) (i : Nat) : (delP l i).map f = delP (l.map f) i := by unfold delP; simp
theorem gtc_rl (g : GtV) (rl : List (ME Int)) (rn : Nat) : GtV.c { g with rl := rl, rn := rn } = g.c := rfl


theorem ref_0 : Sp Tryz.prog 45 #[.nilIface] [] (fun v F' => v = .int .u8 0 ∧ F' = []) := refusal_spec 0 (.inl rfl)
theorem ref_1 : Sp Tryz.prog 45 #[.iface 105 (.int .u8 1)] [] (fun v F' => v = .int .u8 11 ∧ F' = []) := refusal_spec 1 (.inr (.inl rfl))
theorem ref_2 : Sp Tryz.prog 45 #[.iface 105 (.int .u8 2)] [] (fun v F' => v = .int .u8 14 ∧ F' = []) := refusal_spec 2 (.inr (.inr rfl))

attribute [local irreducible] NtV.k StV.c LdV.c StV.E GtV.c GtV.t orB

theorem pl54 {g : GtV} {x : Bt} {qs : List (Int × List Ch)} {s : StV} {n : NtP} {b : Nat} {j : List Value} {p : Option Addr} {c : Nat} {E : List (Nat × Obj)} (hs : s.pl = stNx g.pl (btP x).1 n) (hq : (delP g.q 0).map btP = qs) : GtV.pl { g with q := delP g.q 0, qp := some ⟨b, 0, none⟩, qE := [(b, C (fl btc (delP g.q 0) ++ j) 141)], st := s, sl := slF g.sl n 16, ys := 0, dn := 0, tk := 0, au := false, out := g.out ++ pushP (GtV.pl { g with q := delP g.q 0, qp := some ⟨b, 0, none⟩, qE := [(b, C (fl btc (delP g.q 0) ++ j) 141)], st := s, sl := slF g.sl n 16, ys := 0, dn := 0, tk := 0, au := false }), op := p, oc := c, oE := E } = { g.pl with q := qs, st := stNx g.pl (btP x).1 n, sl := slF g.sl n 16, ys := 0, dn := 0, tk := 0, au := false, out := g.pl.out ++ pushP { g.pl with q := qs, st := stNx g.pl (btP x).1 n, sl := slF g.sl n 16, ys := 0, dn := 0, tk := 0, au := false } } := by
  have e : ∀ (o : List Ms) (p : Option Addr) (c : Nat) (E : List (Nat × Obj)), GtV.pl { g with q := delP g.q 0, qp := some ⟨b, 0, none⟩, qE := [(b, C (fl btc (delP g.q 0) ++ j) 141)], st := s, sl := slF g.sl n 16, ys := 0, dn := 0, tk := 0, au := false, out := o, op := p, oc := c, oE := E } = { g.pl with q := qs, st := stNx g.pl (btP x).1 n, sl := slF g.sl n 16, ys := 0, dn := 0, tk := 0, au := false, out := o } := fun o p c E => by unfold GtV.pl; simp only [GtP.mk.injEq, true_and, and_true]; exact ⟨hs, hq⟩
  rw [e, show GtV.pl { g with q := delP g.q 0, qp := some ⟨b, 0, none⟩, qE := [(b, C (fl btc (delP g.q 0) ++ j) 141)], st := s, sl := slF g.sl n 16, ys := 0, dn := 0, tk := 0, au := false } = _ from e g.out g.op g.oc g.oE]; rfl

set_option maxHeartbeats 4000000 in
theorem start_spec (Z : List (Nat × Obj)) (gb : Nat) (g : GtV) (l : LdV) (hg : g.ok Z) (hl9 : l.ok Z) (hol : g.out.length ≤ 40) : Sp Tryz.prog 51 #[.pointer (some ⟨gb, 0, none⟩)] (GF gb g l Z) (fun v F' => v = .tuple #[] ∧ GO gb g.led (startP g.pl l.pl) Z F') := by
  refine f_enter (args := [.pointer (some ⟨gb, 0, none⟩)]) Tryz.func51 rfl Tryz.ntmps51 rfl ?_
  intro w0 w a hpre hl hh
  generalize hDD : List.map Prod.fst (GF gb g l Z) = D at hh ⊢
  simp only [GF] at hh
  simp only [slotsFrom, Nat.reduceAdd] at hl
  refine c_seq ?_
  refine c_seq ?_
  refine c_region ?_
  refine wl (wl_val hl rfl trivial (r_move hl rfl) ?_)
  clear hl a; intro a hl
  refine wl (wl_val hl rfl trivial (r_nilCheck hl rfl) ?_)
  clear hl a; intro a hl
  refine wl (wl_val hl rfl trivial (r_field hl rfl fld127_2) ?_)
  clear hl a; intro a hl
  refine wl (w_load hl hh rfl trivial one79 rfl (by repeat (first | exact find_head | apply find_tail | apply find_skip)) (by first | exact gtc_led _ | exact gtc_ep _ | exact gtc_vs _ | exact gtc_is _ | exact gtc_fid _ | exact gtc_ph _ | exact gtc_vd _ | exact gtc_q _ | exact gtc_rf _ | exact gtc_ys _ | exact gtc_dn _ | exact gtc_tk _ | exact gtc_au _ | exact gtc_o _ | exact gtc_off _ | exact stc_ph' _ | exact stc_fid' _ | exact stc_vd' _ | exact stc_ep' _ | exact stc_vs' _ | exact stc_is' _ | rfl) ?_)
  clear hl a; intro a hl
  refine wl (wl_val hl rfl trivial (r_lenS hl rfl slc79) ?_)
  clear hl a; intro a hl
  refine wl (wl_val hl rfl trivial (r_eql hl rfl rfl) ?_)
  clear hl a; intro a hl
  refine w_nil ?_
  have hl2 := hl.add (t := 0) (hl.add (t := 12) (hl.nil) rfl) rfl; clear hl; have hl := hl2; clear hl2
  refine then_normal ?_
  refine c_cond hl rfl ?_ ?_
  · intro hc0
    try simp only [decide_eq_true_eq, decide_eq_false_iff_not, Bool.not_eq_true', Bool.not_eq_false', Bool.not_eq_true, Bool.not_eq_false, Bool.and_eq_true, Bool.or_eq_true, Bool.and_eq_false_iff, Bool.or_eq_false_iff, Bool.not_not, ne_eq, Int.not_lt, Int.not_le, Decidable.not_not, beq_iff_eq, bne_iff_ne] at hc0
    have hq0 : g.pl.q = [] := by show g.q.map btP = []; rw [List.eq_nil_of_length_eq_zero (show g.q.length = 0 by omega)]; rfl
    refine wp_ret ?_
    refine then_ret ?_
    refine f_ret0 (F' := (gb, C (GtV.c g) 127) :: (g.st.E ++ (g.qE ++ ((g.rb, MD (kInt .u32) g.rl g.rn) :: (g.oE ++ ((g.led, C (LdV.c l) 91) :: (l.d.E ++ Z))))))) hl hh rfl (by repeat (first | exact keeps_nil | apply keeps_cons (by repeat (first | exact find_head | apply find_tail | apply find_skip)) (by first  | rfl) | exact keeps_self | exact keeps_left | apply keeps_app | apply keeps_mv | apply keeps_skip)) ?_
    exact ⟨rfl, GO.same hg hl9 (by rw [sx_0 hq0]) (by rw [sx_0 hq0]) rfl⟩
  · intro hc0
    try simp only [decide_eq_true_eq, decide_eq_false_iff_not, Bool.not_eq_true', Bool.not_eq_false', Bool.not_eq_true, Bool.not_eq_false, Bool.and_eq_true, Bool.or_eq_true, Bool.and_eq_false_iff, Bool.or_eq_false_iff, Bool.not_not, ne_eq, Int.not_lt, Int.not_le, Decidable.not_not, beq_iff_eq, bne_iff_ne] at hc0
    obtain ⟨x, qs, hqx⟩ : ∃ x qs, g.q = x :: qs := by
      cases hq8 : g.q with
      | nil => rw [hq8] at hc0; exact absurd rfl hc0
      | cons a t => exact ⟨a, t, rfl⟩
    have hql : 0 < g.q.length := by rw [hqx]; simp
    have hxq : g.q[0]? = some x := by rw [hqx]; rfl
    have hxo := hg.qo x (List.mem_of_getElem? hxq)
    obtain ⟨b9, j9, hq9, hjl9, hjc9, hE9⟩ := row_pos hg.q (by omega)
    have hql8 := hg.ql
    rw [hE9] at hh
    try simp only [List.cons_append, List.nil_append, List.append_assoc, List.append_nil] at hh
    have hd1 := fl_at btc_len hxq j9
    refine wp_skip ?_
    refine then_normal ?_
    refine c_seq ?_
    refine c_region ?_
    refine wl (wl_val hl rfl trivial (r_move hl rfl) ?_)
    clear hl a; intro a hl
    refine wl (wl_val hl rfl trivial (r_nilCheck hl rfl) ?_)
    clear hl a; intro a hl
    refine wl (wl_val hl rfl trivial (r_field hl rfl fld127_2) ?_)
    clear hl a; intro a hl
    refine wl (w_load hl hh rfl trivial one79 rfl (by repeat (first | exact find_head | apply find_tail | apply find_skip)) (by first | exact gtc_led _ | exact gtc_ep _ | exact gtc_vs _ | exact gtc_is _ | exact gtc_fid _ | exact gtc_ph _ | exact gtc_vd _ | exact gtc_q _ | exact gtc_rf _ | exact gtc_ys _ | exact gtc_dn _ | exact gtc_tk _ | exact gtc_au _ | exact gtc_o _ | exact gtc_off _ | exact stc_ph' _ | exact stc_fid' _ | exact stc_vd' _ | exact stc_ep' _ | exact stc_vs' _ | exact stc_is' _ | rfl) ?_)
    clear hl a; intro a hl
    rw [hq9] at hl
    refine wl (wl_val hl rfl trivial (r_indexS hl rfl rfl slc79 (by omega) (by omega) (by first | (simp only [Int.reduceToNat]; rfl) | exact toNat_add1 _ | exact toNat_add2 _ _ | exact toNat_emod _ _ | exact Int.toNat_natCast _ | rfl)) ?_)
    clear hl a; intro a hl
    refine wl (w_loadA hl hh rfl trivial agg141 rfl (by repeat (first | exact find_head | apply find_tail | apply find_skip)) (by first | exact hd1 | rfl) (by rfl) ?_)
    clear hl a; intro a hl
    refine wl (w_alloc hl hh rfl trivial zero141 rfl ?_)
    clear hl hh a w; intro k2 a w hl hh
    refine wl (w_storeA hl hh trivial agg141 rfl rfl (by repeat (first | exact find_head | apply find_tail | apply find_skip)) (by rfl) (by exact Nat.le_refl 2) (by rfl) (by exact setL_all rfl) ?_)
    clear hh w; intro w hh
    refine w_nil ?_
    have hl2 := hl.add (t := 0) (hl.add (t := 2) (hl.nil) rfl) rfl; clear hl; have hl := hl2; clear hl2
    refine then_normal ?_
    refine c_seq ?_
    refine c_draw [(gb, C g.c 127)] [12, 13, 14] mixed hh ?_
    clear hh w; intro w hh
    have hM : Mem [(gb, C g.c 127)] w := (memK hh (by repeat (first | exact keeps_nil | apply keeps_cons (by repeat (first | exact find_head | apply find_tail | apply find_skip)) (by first  | rfl) | exact keeps_self | exact keeps_left | apply keeps_app | apply keeps_mv | apply keeps_skip)))
    refine d_take (i := 0) hl rfl (by kernel_rfl) (by kernel_rfl) (by kernel_rfl) (by kernel_rfl) (by kernel_rfl) rfl trivial (fun _ _ _ h => h) hM (fun w hC => r_move hl rfl) rfl ?_
    clear hl a; intro a hl
    refine d_take (i := 1) hl rfl (by kernel_rfl) (by kernel_rfl) (by kernel_rfl) (by kernel_rfl) (by kernel_rfl) rfl trivial (fun _ _ _ h => h) hM (fun w hC => r_move hl rfl) rfl ?_
    clear hl a; intro a hl
    refine d_take (i := 2) hl rfl (by kernel_rfl) (by kernel_rfl) (by kernel_rfl) (by kernel_rfl) (by kernel_rfl) rfl trivial (fun _ _ _ h => h) hM (fun w hC => r_nilCheck hl rfl) rfl ?_
    clear hl a; intro a hl
    refine d_take (i := 3) hl rfl (by kernel_rfl) (by kernel_rfl) (by kernel_rfl) (by kernel_rfl) (by kernel_rfl) rfl trivial (fun _ _ _ h => h) hM (fun w hC => r_field hl rfl fld127_2) rfl ?_
    clear hl a; intro a hl
    refine d_take (i := 4) hl rfl (by kernel_rfl) (by kernel_rfl) (by kernel_rfl) (by kernel_rfl) (by kernel_rfl) rfl trivial (fun _ _ _ h => h) hM (fun w hC => r_loadC hl rfl one79 hC (by repeat (first | exact find_head | apply find_tail | apply find_skip)) (by first | exact gtc_led _ | exact gtc_ep _ | exact gtc_vs _ | exact gtc_is _ | exact gtc_fid _ | exact gtc_ph _ | exact gtc_vd _ | exact gtc_q _ | exact gtc_rf _ | exact gtc_ys _ | exact gtc_dn _ | exact gtc_tk _ | exact gtc_au _ | exact gtc_o _ | exact gtc_off _ | exact stc_ph' _ | exact stc_fid' _ | exact stc_vd' _ | exact stc_ep' _ | exact stc_vs' _ | exact stc_is' _ | rfl)) rfl ?_
    clear hl a; intro a hl
    rw [hq9] at hl
    refine d_take (i := 5) hl rfl (by kernel_rfl) (by kernel_rfl) (by kernel_rfl) (by kernel_rfl) (by kernel_rfl) rfl trivial (fun _ _ _ h => h) hM (fun w hC => r_sliceS01 (by intro q e; first | (cases e; rfl) | (cases e; done)) hl rfl rfl slc79 (by omega) (by first | (simp only [Int.reduceToNat]; rfl) | exact toNat_add1 _ | exact toNat_add2 _ _ | exact toNat_emod _ _ | exact Int.toNat_natCast _ | rfl)) rfl ?_
    clear hl a; intro a hl
    refine d_take (i := 6) hl rfl (by kernel_rfl) (by kernel_rfl) (by kernel_rfl) (by kernel_rfl) (by kernel_rfl) rfl trivial (fun _ _ _ h => h) hM (fun w hC => r_move hl rfl) rfl ?_
    clear hl a; intro a hl
    refine d_take (i := 7) hl rfl (by kernel_rfl) (by kernel_rfl) (by kernel_rfl) (by kernel_rfl) (by kernel_rfl) rfl trivial (fun _ _ _ h => h) hM (fun w hC => r_nilCheck hl rfl) rfl ?_
    clear hl a; intro a hl
    refine d_take (i := 8) hl rfl (by kernel_rfl) (by kernel_rfl) (by kernel_rfl) (by kernel_rfl) (by kernel_rfl) rfl trivial (fun _ _ _ h => h) hM (fun w hC => r_field hl rfl fld127_2) rfl ?_
    clear hl a; intro a hl
    refine d_take (i := 9) hl rfl (by kernel_rfl) (by kernel_rfl) (by kernel_rfl) (by kernel_rfl) (by kernel_rfl) rfl trivial (fun _ _ _ h => h) hM (fun w hC => r_loadC hl rfl one79 hC (by repeat (first | exact find_head | apply find_tail | apply find_skip)) (by first | exact gtc_led _ | exact gtc_ep _ | exact gtc_vs _ | exact gtc_is _ | exact gtc_fid _ | exact gtc_ph _ | exact gtc_vd _ | exact gtc_q _ | exact gtc_rf _ | exact gtc_ys _ | exact gtc_dn _ | exact gtc_tk _ | exact gtc_au _ | exact gtc_o _ | exact gtc_off _ | exact stc_ph' _ | exact stc_fid' _ | exact stc_vd' _ | exact stc_ep' _ | exact stc_vs' _ | exact stc_is' _ | rfl)) rfl ?_
    clear hl a; intro a hl
    rw [hq9] at hl
    refine d_take (i := 10) hl rfl (by kernel_rfl) (by kernel_rfl) (by kernel_rfl) (by kernel_rfl) (by kernel_rfl) rfl trivial (fun _ _ _ h => h) hM (fun w hC => r_sliceS10x hl rfl rfl slc79 (by omega) (by first | (simp only [Int.reduceToNat]; rfl) | exact toNat_add1 _ | exact toNat_add2 _ _ | exact toNat_emod _ _ | exact Int.toNat_natCast _ | rfl)) rfl ?_
    clear hl a; intro a hl
    obtain ⟨o2, ho1, ho2, hodv⟩ := from_of b9 g.qc (0 + 1) 2
    rw [hodv] at hl
    obtain ⟨m, hmv⟩ : ∃ m, m = g.q.length - (0 + 1) := ⟨_, rfl⟩
    rw [← hmv] at hl
    refine d_one (i := 11) (by kernel_rfl) rfl ?_
    try clear hM
    refine id (w_appendCut hl hh rfl trivial app79 rfl rfl (by repeat (first | exact find_head | apply find_tail | apply find_skip)) (by omega) hjl9 (by rw [hjl9]; omega) (fl_take_one btc_len btc_one _ _ _ _ (by omega)) rfl ?_)
    clear hl hh a w; intro a w hl hh
    obtain ⟨j6, hj1, hj2⟩ := del_set btc_len g.q j9 0 o2 m hql (by omega) (by omega)
    rw [hj1] at hh
    rw [show 0 + m = (delP g.q 0).length by rw [delP_len hql]; omega] at hl
    have hM : Mem [(gb, C g.c 127)] w := (memK hh (by repeat (first | exact keeps_nil | apply keeps_cons (by repeat (first | exact find_head | apply find_tail | apply find_skip)) (by first  | rfl) | exact keeps_self | exact keeps_left | apply keeps_app | apply keeps_mv | apply keeps_skip)))
    refine d_step (fun _ => hM) ?_
    refine d_takeL (i := 12) hl rfl (by kernel_rfl) (by kernel_rfl) (by kernel_rfl) (by kernel_rfl) (by kernel_rfl) rfl trivial (fun _ _ _ h => h) (fun w => r_nilCheck hl rfl) rfl ?_
    clear hl a; intro a hl
    refine d_takeL (i := 13) hl rfl (by kernel_rfl) (by kernel_rfl) (by kernel_rfl) (by kernel_rfl) (by kernel_rfl) rfl trivial (fun _ _ _ h => h) (fun w => r_field hl rfl fld127_2) rfl ?_
    clear hl a; intro a hl
    refine d_one (i := 14) (by kernel_rfl) rfl ?_
    try clear hM
    refine id (w_store hl hh trivial one79 rfl rfl (by repeat (first | exact find_head | apply find_tail | apply find_skip)) (by first | (simp; done) | (simp; omega) | (rw [gtc_len]; omega) | (rw [gtc_len]; simp; done) | (rw [stc_len]; omega) | (rw [stc_len]; simp; done)) (by first | rfl | assumption | (apply Row.one; assumption)) (by first | exact gtc_sys _ _ | exact gtc_sdn _ _ | exact gtc_stk _ _ | exact gtc_sau _ _ | exact gtc_soff _ _ | exact gtc_sq _ _ _ _ [(b9, C (fl btc (delP g.q 0) ++ j6) 141)] | exact gtc_ssl _ (by omega) _ | (simp only [setL, List.getElem?_cons_zero, List.getElem?_cons_succ, Value.cells, List.take_zero, List.take_succ_cons, List.take_nil, List.drop_zero, List.drop_succ_cons, List.drop_nil, List.length_cons, List.length_nil, List.cons_append, List.nil_append, List.append_nil, Nat.zero_add, Nat.add_zero, Nat.reduceAdd, Nat.reduceBEq, Nat.reduceEqDiff, Nat.ble, BEq.rfl, Bool.and_true, Bool.and_self, cond_true, beq_self_eq_true]; rfl)) ?_)
    clear hh w; intro w hh
    refine d_step (fun h => absurd h (by decide)) ?_
    refine d_done (by kernel_rfl) ?_
    try clear hM
    have hl2 := hl.add (t := 0) (hl.add (t := 2) (hl.nil) rfl) rfl; clear hl; have hl := hl2; clear hl2
    try simp only at hh
    have hgk := qd_ok (b := b9) hg hql (hj2.trans hjl9) hjc9
    have hqp : g.pl.q = btP x :: qs.map btP := by show g.q.map btP = _; rw [hqx]; rfl
    have hpq : GtV.pl { g with q := delP g.q 0, qp := some ⟨b9, 0, none⟩, qE := [(b9, C (fl btc (delP g.q 0) ++ j6) 141)] } = { g.pl with q := qs.map btP } := by unfold GtV.pl; simp only [GtP.mk.injEq, true_and, and_true]; rw [delP_map, hqx]; rfl
    refine then_normal ?_
    refine c_seq ?_
    refine c_region ?_
    refine wl (wl_val hl rfl trivial (r_move hl rfl) ?_)
    clear hl a; intro a hl
    refine wl (w_loadA hl hh rfl trivial agg141 rfl (by repeat (first | exact find_head | apply find_tail | apply find_skip)) (by first | exact hd1 | rfl) (by rfl) ?_)
    clear hl a; intro a hl
    refine wl (w_call hl hh rfl trivial rfl cal60 rfl (validate_spec Z gb { g with q := delP g.q 0, qp := some ⟨b9, 0, none⟩, qE := [(b9, C (fl btc (delP g.q 0) ++ j6) 141)] } hgk x hxo) (by repeat (first | exact keeps_nil | apply keeps_cons (by repeat (first | exact find_head | apply find_tail | apply find_skip)) (by first  | rfl) | exact keeps_self | exact keeps_left | apply keeps_app | apply keeps_mv | apply keeps_skip)) trivial ?_)
    clear hl hh a w; intro vc Fc a w hR hl hh
    obtain ⟨n2, G9, hn2, hap, rfl, rfl⟩ := hR
    try simp only [List.cons_append, List.nil_append, List.append_assoc, List.append_nil] at hh
    change vcP g.pl x.cs = 0 → apP (lastV g.pl) x.cs = some n2.pl at hap
    rw [show vcP (GtV.pl { g with q := delP g.q 0, qp := some ⟨b9, 0, none⟩, qE := [(b9, C (fl btc (delP g.q 0) ++ j6) 141)] }) x.cs = vcP g.pl x.cs from rfl] at hl
    try simp only [List.append_assoc, List.cons_append, List.nil_append] at hh
    replace hgk := hgk.app (G := G9)
    have hg9 := hg.app (G := G9)
    refine wl (wl_val hl rfl trivial (r_move hl rfl) ?_)
    clear hl a; intro a hl
    refine wl (wl_val hl rfl trivial (r_extract hl rfl (by simp only [List.getElem?_toArray, List.getElem?_cons_zero, List.getElem?_cons_succ]; rfl)) ?_)
    clear hl a; intro a hl
    refine wl (wl_val hl rfl trivial (r_extract hl rfl (by simp only [List.getElem?_toArray, List.getElem?_cons_zero, List.getElem?_cons_succ]; rfl)) ?_)
    clear hl a; intro a hl
    refine wl (w_alloc hl hh rfl trivial zero66 rfl ?_)
    clear hl hh a w; intro k3 a w hl hh
    refine wl (w_storeA hl hh trivial agg66 rfl rfl (by repeat (first | exact find_head | apply find_tail | apply find_skip)) (by exact NtV.len hn2) (by exact Nat.le_refl 64) (by exact NtV.one) (by exact setL_all (show 64 = _ from (NtV.len hn2).symm)) ?_)
    clear hh w; intro w hh
    refine wl (wl_val hl rfl trivial (r_assign hl rfl) ?_)
    clear hl a; intro a hl
    refine w_nil ?_
    have hl2 := hl.add (t := 0) (hl.add (t := 2) (hl.add (t := 3) (hl.add (t := 4) (hl.nil) rfl) rfl) rfl) rfl; clear hl; have hl := hl2; clear hl2
    refine then_normal ?_
    refine c_seq ?_
    refine c_seq ?_
    refine c_region ?_
    refine wl (wl_val hl rfl trivial (r_move hl rfl) ?_)
    clear hl a; intro a hl
    refine wl (wl_val hl rfl trivial (r_eql hl rfl rfl) ?_)
    clear hl a; intro a hl
    refine w_nil ?_
    have hl2 := hl.add (t := 0) (hl.add (t := 2) (hl.add (t := 3) (hl.add (t := 4) (hl.add (t := 40) (hl.nil) rfl) rfl) rfl) rfl) rfl; clear hl; have hl := hl2; clear hl2
    refine then_normal ?_
    refine c_cond hl rfl ?_ ?_
    · intro hc1
      try simp only [decide_eq_true_eq, decide_eq_false_iff_not, Bool.not_eq_true', Bool.not_eq_false', Bool.not_eq_true, Bool.not_eq_false, Bool.and_eq_true, Bool.or_eq_true, Bool.and_eq_false_iff, Bool.or_eq_false_iff, Bool.not_not, ne_eq, Int.not_lt, Int.not_le, Decidable.not_not, beq_iff_eq, bne_iff_ne] at hc1
      have hv0 : vcP g.pl (btP x).2 = 0 := hc1
      refine c_seq ?_
      refine c_region ?_
      refine wl (wl_val hl rfl trivial (r_move hl rfl) ?_)
      clear hl a; intro a hl
      refine wl (wl_val hl rfl trivial (r_nilCheck hl rfl) ?_)
      clear hl a; intro a hl
      refine wl (wl_val hl rfl trivial (r_field hl rfl fld127_1) ?_)
      clear hl a; intro a hl
      refine wl (w_loadA hl hh rfl trivial agg89 rfl (by repeat (first | exact find_head | apply find_tail | apply find_skip)) (by first | exact gtc_st _ | exact stc_all _) (by exact stc_len _) ?_)
      clear hl a; intro a hl
      refine wl (w_call hl hh rfl trivial rfl cal27 rfl (cln_spec (Z ++ G9) g.st hg9.st) (by repeat (first | exact keeps_nil | apply keeps_cons (by repeat (first | exact find_head | apply find_tail | apply find_skip)) (by first  | rfl) | exact keeps_self | exact keeps_left | apply keeps_app | apply keeps_mv | apply keeps_skip)) trivial ?_)
      clear hl hh a w; intro vc Fc a w hR hl hh
      obtain ⟨s1, hs1, hps1, rfl, rfl⟩ := hR
      try simp only [List.cons_append, List.nil_append, List.append_assoc, List.append_nil] at hh
      rw [StV.E_eq s1] at hh
      try simp only [List.append_assoc, List.cons_append, List.nil_append] at hh
      have hrs : StV.pl { s1 with fid := x.id, ph := 1, fn := n2 } = stNx g.pl (btP x).1 n2.pl := by unfold stNx; rw [show g.pl.st = s1.pl from hps1.symm]; rfl
      refine wl (w_alloc hl hh rfl trivial zero89 rfl ?_)
      clear hl hh a w; intro k5 a w hl hh
      refine wl (w_storeA hl hh trivial agg89 rfl rfl (by repeat (first | exact find_head | apply find_tail | apply find_skip)) (by exact stc_len _) (by first | exact Nat.le_refl 70 | (rw [gtc_len]; omega)) (by exact stc_one _) (by first | exact setL_all (show 70 = _ from (stc_len _).symm) | exact gtc_sst _ _) ?_)
      clear hh w; intro w hh
      refine w_nil ?_
      have hl2 := hl.add (t := 0) (hl.add (t := 2) (hl.add (t := 3) (hl.add (t := 5) (hl.nil) rfl) rfl) rfl) rfl; clear hl; have hl := hl2; clear hl2
      refine then_normal ?_
      refine c_seq ?_
      refine c_region ?_
      refine wl (wl_val hl rfl trivial (r_field hl rfl fld141_0) ?_)
      clear hl a; intro a hl
      refine wl (w_load hl hh rfl trivial one36 rfl (by repeat (first | exact find_head | apply find_tail | apply find_skip)) (by first | exact gtc_led _ | exact gtc_ep _ | exact gtc_vs _ | exact gtc_is _ | exact gtc_fid _ | exact gtc_ph _ | exact gtc_vd _ | exact gtc_q _ | exact gtc_rf _ | exact gtc_ys _ | exact gtc_dn _ | exact gtc_tk _ | exact gtc_au _ | exact gtc_o _ | exact gtc_off _ | exact stc_ph' _ | exact stc_fid' _ | exact stc_vd' _ | exact stc_ep' _ | exact stc_vs' _ | exact stc_is' _ | rfl) ?_)
      clear hl a; intro a hl
      refine wl (w_loadA hl hh rfl trivial agg66 rfl (by repeat (first | exact find_head | apply find_tail | apply find_skip)) (by exact NtV.whole hn2) (by exact NtV.len hn2) ?_)
      clear hl a; intro a hl
      rw [← ntk_eq hn2] at hl
      refine wl (wl_val hl rfl trivial (r_build hl rfl zero87 bld87 (fill45 rfl _ _ _)) ?_)
      clear hl a; intro a hl
      refine wl (wl_val hl rfl trivial (r_field hl rfl fld89_3) ?_)
      clear hl a; intro a hl
      refine wl (w_storeA hl hh trivial agg87 rfl rfl (by repeat (first | exact find_head | apply find_tail | apply find_skip)) (by (simp [ntk_len]; done)) (by (rw [stc_len]; omega)) (by (rw [List.all_cons, List.all_cons, ntk_one]; rfl)) (by exact stc_sfl' _ _ _ _) ?_)
      clear hh w; intro w hh
      refine w_nil ?_
      have hl2 := hl.add (t := 0) (hl.add (t := 2) (hl.add (t := 3) (hl.add (t := 5) (hl.nil) rfl) rfl) rfl) rfl; clear hl; have hl := hl2; clear hl2
      refine then_normal ?_
      refine c_region ?_
      refine wl (wl_val hl rfl trivial (r_move hl rfl) ?_)
      clear hl a; intro a hl
      refine wl (w_loadA hl hh rfl trivial agg89 rfl (by repeat (first | exact find_head | apply find_tail | apply find_skip)) (by first | exact gtc_st _ | exact stc_all _) (by exact stc_len _) ?_)
      clear hl a; intro a hl
      refine wl (w_call hl hh rfl trivial rfl cal46 rfl (gstore3 (Z ++ G9) gb { g with q := delP g.q 0, qp := some ⟨b9, 0, none⟩, qE := [(b9, C (fl btc (delP g.q 0) ++ j6) 141)] } l hl9.app { s1 with fid := x.id, ph := 1, fn := n2 } (fli_ok hs1 hxo.id (by omega) hn2) true) (by repeat (first | exact keeps_nil | apply keeps_cons (by repeat (first | exact find_head | apply find_tail | apply find_skip)) (by first  | rfl) | exact keeps_self | exact keeps_left | apply keeps_app | apply keeps_mv | apply keeps_skip)) trivial ?_)
      clear hl hh a w; intro vc Fc a w hR hl hh
      rcases hR with ⟨l', hr, hl', hp', rfl, rfl⟩ | ⟨l', hr, hl', hp', rfl, rfl⟩ | ⟨l', hr, hl', hp', rfl, rfl⟩
      ·
        try simp only [List.cons_append, List.nil_append, List.append_nil] at hh
        try simp only [List.append_assoc, List.cons_append, List.nil_append] at hh
        have href := ref_0
        refine wl (w_call hl hh rfl trivial rfl cal45 rfl (href) (by repeat (first | exact keeps_nil | apply keeps_cons (by repeat (first | exact find_head | apply find_tail | apply find_skip)) (by first  | rfl) | exact keeps_self | exact keeps_left | apply keeps_app | apply keeps_mv | apply keeps_skip)) trivial ?_)
        clear hl hh a w; intro vc Fc a w hR hl hh
        obtain ⟨rfl, rfl⟩ := hR
        try simp only [List.cons_append, List.nil_append, List.append_assoc, List.append_nil] at hh
        refine wl (wl_val hl rfl trivial (r_assign hl rfl) ?_)
        clear hl a; intro a hl
        refine w_nil ?_
        have hl2 := hl.add (t := 0) (hl.add (t := 2) (hl.add (t := 3) (hl.add (t := 4) (hl.nil) rfl) rfl) rfl) rfl; clear hl; have hl := hl2; clear hl2
        refine then_normal ?_
        refine c_seq ?_
        refine c_seq ?_
        refine c_region ?_
        refine wl (wl_val hl rfl trivial (r_move hl rfl) ?_)
        clear hl a; intro a hl
        refine wl (wl_val hl rfl trivial (r_eql hl rfl rfl) ?_)
        clear hl a; intro a hl
        refine w_nil ?_
        have hl2 := hl.add (t := 0) (hl.add (t := 2) (hl.add (t := 3) (hl.add (t := 4) (hl.add (t := 56) (hl.nil) rfl) rfl) rfl) rfl) rfl; clear hl; have hl := hl2; clear hl2
        refine then_normal ?_
        refine c_condF hl rfl ?_
        refine wp_skip ?_
        refine then_normal ?_
        refine c_seq ?_
        refine c_seq ?_
        refine c_region ?_
        refine wl (wl_val hl rfl trivial (r_move hl rfl) ?_)
        clear hl a; intro a hl
        refine wl (wl_val hl rfl trivial (r_neq hl rfl rfl) ?_)
        clear hl a; intro a hl
        refine w_nil ?_
        have hl2 := hl.add (t := 0) (hl.add (t := 2) (hl.add (t := 3) (hl.add (t := 4) (hl.add (t := 58) (hl.nil) rfl) rfl) rfl) rfl) rfl; clear hl; have hl := hl2; clear hl2
        refine then_normal ?_
        refine c_condF hl rfl ?_
        refine wp_skip ?_
        refine then_normal ?_
        refine c_seq ?_
        refine c_seq ?_
        refine c_region ?_
        refine wl (wl_val hl rfl trivial (r_move hl rfl) ?_)
        clear hl a; intro a hl
        refine w_nil ?_
        have hl2 := hl.add (t := 0) (hl.add (t := 3) (hl.add (t := 66) (hl.nil) rfl) rfl) rfl; clear hl; have hl := hl2; clear hl2
        refine then_normal ?_
        refine wp_block ?_
        obtain ⟨KS0, hKS0, hk⟩ := (hl.add (t := 0) (hl.add (t := 3) (hl.nil) rfl) rfl).name
        obtain ⟨HS0, hHS0, hh2⟩ := hh.name (keeps_cons (b := gb) (o' := C (GtV.c { g with q := delP g.q 0, qp := some ⟨b9, 0, none⟩, qE := [(b9, C (fl btc (delP g.q 0) ++ j6) 141)], st := { s1 with fid := x.id, ph := 1, fn := n2 } }) 127) (by repeat (first | exact find_head | apply find_tail | apply find_skip)) (by first | rfl) (keeps_nil))
        refine c_loop (α := Nat) (fun i => 16 - i) (fun i a w => (i ≤ 16) ∧ Sl 92 ([(66, .int .i64 (i : Int))] ++ KS0) a ∧ Has _ w0 ([(gb, C (GtV.c { g with q := delP g.q 0, qp := some ⟨b9, 0, none⟩, qE := [(b9, C (fl btc (delP g.q 0) ++ j6) 141)], st := { s1 with fid := x.id, ph := 1, fn := n2 }, sl := slF g.sl n2.pl i }) 127)] ++ HS0) w) 0 ⟨Nat.zero_le _, hl.addE (t := 66) (hk) rfl (by first | rfl), (by simp only [slF_0]; exact hh2)⟩ ?_
        clear hk hh2 hl hh a w
        intro i a w hI
        obtain ⟨hi, hl, hh⟩ := hI
        subst hKS0; subst hHS0
        simp only [List.cons_append, List.nil_append, List.append_nil, List.append_assoc] at hl hh
        refine c_seq ?_
        refine c_region ?_
        refine wl (wl_val hl rfl trivial (r_lss hl rfl rfl) ?_)
        clear hl a; intro a hl
        refine w_nil ?_
        have hl2 := hl.add (t := 0) (hl.add (t := 3) (hl.add (t := 66) (hl.add (t := 67) (hl.nil) rfl) rfl) rfl) rfl; clear hl; have hl := hl2; clear hl2
        refine then_normal ?_
        refine c_seq ?_
        refine c_cond hl rfl ?_ ?_
        · intro hc4
          try simp only [decide_eq_true_eq, decide_eq_false_iff_not, Bool.not_eq_true', Bool.not_eq_false', Bool.not_eq_true, Bool.not_eq_false, Bool.and_eq_true, Bool.or_eq_true, Bool.and_eq_false_iff, Bool.or_eq_false_iff, Bool.not_not, ne_eq, Int.not_lt, Int.not_le, Decidable.not_not, beq_iff_eq, bne_iff_ne] at hc4
          refine wp_skip ?_
          refine then_normal ?_
          refine c_seq ?_
          refine wp_block ?_
          refine c_seq ?_
          refine c_region ?_
          refine wl (wl_val hl rfl trivial (r_move hl rfl) ?_)
          clear hl a; intro a hl
          refine wl (wl_val hl rfl trivial (r_assign hl rfl) ?_)
          clear hl a; intro a hl
          refine w_nil ?_
          have hl2 := hl.add (t := 0) (hl.add (t := 3) (hl.add (t := 6) (hl.add (t := 66) (hl.nil) rfl) rfl) rfl) rfl; clear hl; have hl := hl2; clear hl2
          refine then_normal ?_
          refine c_draw [(k3, C n2.c 66)] [7, 8] mixed hh ?_
          clear hh w; intro w hh
          have hM : Mem [(k3, C n2.c 66)] w := (memK hh (by repeat (first | exact keeps_nil | apply keeps_cons (by repeat (first | exact find_head | apply find_tail | apply find_skip)) (by first  | rfl) | exact keeps_self | exact keeps_left | apply keeps_app | apply keeps_mv | apply keeps_skip)))
          refine d_take (i := 0) hl rfl (by kernel_rfl) (by kernel_rfl) (by kernel_rfl) (by kernel_rfl) (by kernel_rfl) rfl trivial (fun _ _ _ h => h) hM (fun w hC => r_move hl rfl) rfl ?_
          clear hl a; intro a hl
          refine d_take (i := 1) hl rfl (by kernel_rfl) (by kernel_rfl) (by kernel_rfl) (by kernel_rfl) (by kernel_rfl) rfl trivial (fun _ _ _ h => h) hM (fun w hC => r_move hl rfl) rfl ?_
          clear hl a; intro a hl
          refine d_take (i := 2) hl rfl (by kernel_rfl) (by kernel_rfl) (by kernel_rfl) (by kernel_rfl) (by kernel_rfl) rfl trivial (fun _ _ _ h => h) hM (fun w hC => r_loadCA hl rfl agg66 hC (by repeat (first | exact find_head | apply find_tail | apply find_skip)) (by exact NtV.whole hn2) (by exact NtV.len hn2)) rfl ?_
          clear hl a; intro a hl
          refine d_take (i := 3) hl rfl (by kernel_rfl) (by kernel_rfl) (by kernel_rfl) (by kernel_rfl) (by kernel_rfl) rfl trivial (fun _ _ _ h => h) hM (fun w hC => r_move hl rfl) rfl ?_
          clear hl a; intro a hl
          refine d_take (i := 5) hl rfl (by kernel_rfl) (by kernel_rfl) (by kernel_rfl) (by kernel_rfl) (by kernel_rfl) rfl trivial (fun _ _ _ h => h) hM (fun w hC => r_nilCheck hl rfl) rfl ?_
          clear hl a; intro a hl
          refine d_take (i := 6) hl rfl (by kernel_rfl) (by kernel_rfl) (by kernel_rfl) (by kernel_rfl) (by kernel_rfl) rfl trivial (fun _ _ _ h => h) hM (fun w hC => r_field hl rfl fld127_4) rfl ?_
          clear hl a; intro a hl
          refine d_one (i := 4) (by kernel_rfl) rfl ?_
          try clear hM
          refine id (w_call hl hh rfl trivial rfl cal9 rfl (slice_spec (Z ++ G9) n2 hn2 i (by omega)) (by repeat (first | exact keeps_nil | apply keeps_cons (by repeat (first | exact find_head | apply find_tail | apply find_skip)) (by first  | rfl) | exact keeps_self | exact keeps_left | apply keeps_app | apply keeps_mv | apply keeps_skip)) (fun b o m => (by rcases List.mem_append.1 m with m | m; exact memK (E := Z) hh (by repeat (first | exact keeps_nil | apply keeps_cons (by repeat (first | exact find_head | apply find_tail | apply find_skip)) (by first  | rfl) | exact keeps_self | exact keeps_left | apply keeps_app | apply keeps_mv | apply keeps_skip)) b o m; exact memK (E := G9) hh (by repeat (first | exact keeps_nil | apply keeps_cons (by repeat (first | exact find_head | apply find_tail | apply find_skip)) (by first  | rfl) | exact keeps_self | exact keeps_left | apply keeps_app | apply keeps_mv | apply keeps_skip)) b o m)) ?_)
          clear hl hh a w; intro vc Fc a w hR hl hh
          obtain ⟨rfl, rfl⟩ := hR
          try simp only [List.cons_append, List.nil_append, List.append_assoc, List.append_nil] at hh
          have hM : Mem [(k3, C n2.c 66)] w := (memK hh (by repeat (first | exact keeps_nil | apply keeps_cons (by repeat (first | exact find_head | apply find_tail | apply find_skip)) (by first  | rfl) | exact keeps_self | exact keeps_left | apply keeps_app | apply keeps_mv | apply keeps_skip)))
          refine d_step (fun _ => hM) ?_
          refine d_takeL (i := 7) hl rfl (by kernel_rfl) (by kernel_rfl) (by kernel_rfl) (by kernel_rfl) (by kernel_rfl) rfl trivial (fun _ _ _ h => h) (fun w => r_indexA hl rfl rfl arr125 (by omega) (by omega) (by first | (simp only [Int.reduceToNat]; rfl) | exact toNat_add1 _ | exact toNat_add2 _ _ | exact toNat_emod _ _ | exact Int.toNat_natCast _ | rfl)) rfl ?_
          clear hl a; intro a hl
          refine d_one (i := 8) (by kernel_rfl) rfl ?_
          try clear hM
          refine id (w_store hl hh trivial one9 rfl rfl (by repeat (first | exact find_head | apply find_tail | apply find_skip)) (by first | (simp; done) | (simp; omega) | (rw [gtc_len]; omega) | (rw [gtc_len]; simp; done) | (rw [stc_len]; omega) | (rw [stc_len]; simp; done)) (by first | rfl | assumption | (apply Row.one; assumption)) (by first | exact gtc_sys _ _ | exact gtc_sdn _ _ | exact gtc_stk _ _ | exact gtc_sau _ _ | exact gtc_soff _ _ | exact gtc_sq _ _ _ _ [(b9, C (fl btc (delP g.q 0) ++ j6) 141)] | exact gtc_ssl _ (by omega) _ | (simp only [setL, List.getElem?_cons_zero, List.getElem?_cons_succ, Value.cells, List.take_zero, List.take_succ_cons, List.take_nil, List.drop_zero, List.drop_succ_cons, List.drop_nil, List.length_cons, List.length_nil, List.cons_append, List.nil_append, List.append_nil, Nat.zero_add, Nat.add_zero, Nat.reduceAdd, Nat.reduceBEq, Nat.reduceEqDiff, Nat.ble, BEq.rfl, Bool.and_true, Bool.and_self, cond_true, beq_self_eq_true]; rfl)) ?_)
          clear hh w; intro w hh
          refine d_step (fun h => absurd h (by decide)) ?_
          refine d_done (by kernel_rfl) ?_
          try clear hM
          have hl2 := hl.add (t := 0) (hl.add (t := 3) (hl.add (t := 66) (hl.nil) rfl) rfl) rfl; clear hl; have hl := hl2; clear hl2
          refine blk_normal ?_
          refine then_normal ?_
          refine c_region ?_
          first | refine wl (wl_val hl rfl trivial (r_add hl rfl rfl (by simp only [Fits]; omega)) ?_) | refine wl (wl_val hl rfl trivial (r_addW hl rfl rfl) ?_)
          clear hl a; intro a hl
          refine wl (wl_val hl rfl trivial (r_move hl rfl) ?_)
          clear hl a; intro a hl
          refine w_nil ?_
          have hl2 := hl.add (t := 0) (hl.add (t := 3) (hl.add (t := 66) (hl.nil) rfl) rfl) rfl; clear hl; have hl := hl2; clear hl2
          refine then_normal ?_
          refine ⟨i + 1, (by omega), (by omega), hl.addE (t := 66) (hl.addE (t := 0) (hl.addE (t := 3) (hl.nil) rfl (by first | rfl | exact congrArg (Value.int .i64) (show (i : Int) + 1 = ((i + 1 : Nat) : Int) by omega))) rfl (by first | rfl | exact congrArg (Value.int .i64) (show (i : Int) + 1 = ((i + 1 : Nat) : Int) by omega))) rfl (by first | rfl | exact congrArg (Value.int .i64) (show (i : Int) + 1 = ((i + 1 : Nat) : Int) by omega)), hh.keep (by repeat (first | exact keeps_nil | apply keeps_cons (by repeat (first | exact find_head | apply find_tail | apply find_skip)) (by first  | (rw [← slF_up]; done) | rfl) | exact keeps_self | exact keeps_left | apply keeps_app | apply keeps_mv | apply keeps_skip))⟩
        · intro hc4
          try simp only [decide_eq_true_eq, decide_eq_false_iff_not, Bool.not_eq_true', Bool.not_eq_false', Bool.not_eq_true, Bool.not_eq_false, Bool.and_eq_true, Bool.or_eq_true, Bool.and_eq_false_iff, Bool.or_eq_false_iff, Bool.not_not, ne_eq, Int.not_lt, Int.not_le, Decidable.not_not, beq_iff_eq, bne_iff_ne] at hc4
          have hie : i = 16 := by omega
          subst hie
          refine wp_exit ?_
          refine then_exit ?_
          refine then_exit ?_
          refine blk_exit ?_
          refine then_normal ?_
          refine c_seq ?_
          refine c_region ?_
          refine wl (wl_val hl rfl trivial (r_move hl rfl) ?_)
          clear hl a; intro a hl
          refine wl (wl_val hl rfl trivial (r_move hl rfl) ?_)
          clear hl a; intro a hl
          refine wl (wl_val hl rfl trivial (r_move hl rfl) ?_)
          clear hl a; intro a hl
          refine wl (wl_val hl rfl trivial (r_move hl rfl) ?_)
          clear hl a; intro a hl
          refine wl (wl_val hl rfl trivial (r_nilCheck hl rfl) ?_)
          clear hl a; intro a hl
          refine wl (wl_val hl rfl trivial (r_field hl rfl fld127_5) ?_)
          clear hl a; intro a hl
          refine wl (w_store hl hh trivial one60 rfl rfl (by repeat (first | exact find_head | apply find_tail | apply find_skip)) (by first | (simp; done) | (simp; omega) | (rw [gtc_len]; omega) | (rw [gtc_len]; simp; done) | (rw [stc_len]; omega) | (rw [stc_len]; simp; done)) (by first | rfl | assumption | (apply Row.one; assumption)) (by first | exact gtc_sys _ _ | exact gtc_sdn _ _ | exact gtc_stk _ _ | exact gtc_sau _ _ | exact gtc_soff _ _ | exact gtc_sq _ _ _ _ [(b9, C (fl btc (delP g.q 0) ++ j6) 141)] | exact gtc_ssl _ (by omega) _ | (simp only [setL, List.getElem?_cons_zero, List.getElem?_cons_succ, Value.cells, List.take_zero, List.take_succ_cons, List.take_nil, List.drop_zero, List.drop_succ_cons, List.drop_nil, List.length_cons, List.length_nil, List.cons_append, List.nil_append, List.append_nil, Nat.zero_add, Nat.add_zero, Nat.reduceAdd, Nat.reduceBEq, Nat.reduceEqDiff, Nat.ble, BEq.rfl, Bool.and_true, Bool.and_self, cond_true, beq_self_eq_true]; rfl)) ?_)
          clear hh w; intro w hh
          refine wl (wl_val hl rfl trivial (r_nilCheck hl rfl) ?_)
          clear hl a; intro a hl
          refine wl (wl_val hl rfl trivial (r_field hl rfl fld127_6) ?_)
          clear hl a; intro a hl
          refine wl (w_store hl hh trivial one60 rfl rfl (by repeat (first | exact find_head | apply find_tail | apply find_skip)) (by first | (simp; done) | (simp; omega) | (rw [gtc_len]; omega) | (rw [gtc_len]; simp; done) | (rw [stc_len]; omega) | (rw [stc_len]; simp; done)) (by first | rfl | assumption | (apply Row.one; assumption)) (by first | exact gtc_sys _ _ | exact gtc_sdn _ _ | exact gtc_stk _ _ | exact gtc_sau _ _ | exact gtc_soff _ _ | exact gtc_sq _ _ _ _ [(b9, C (fl btc (delP g.q 0) ++ j6) 141)] | exact gtc_ssl _ (by omega) _ | (simp only [setL, List.getElem?_cons_zero, List.getElem?_cons_succ, Value.cells, List.take_zero, List.take_succ_cons, List.take_nil, List.drop_zero, List.drop_succ_cons, List.drop_nil, List.length_cons, List.length_nil, List.cons_append, List.nil_append, List.append_nil, Nat.zero_add, Nat.add_zero, Nat.reduceAdd, Nat.reduceBEq, Nat.reduceEqDiff, Nat.ble, BEq.rfl, Bool.and_true, Bool.and_self, cond_true, beq_self_eq_true]; rfl)) ?_)
          clear hh w; intro w hh
          refine wl (wl_val hl rfl trivial (r_nilCheck hl rfl) ?_)
          clear hl a; intro a hl
          refine wl (wl_val hl rfl trivial (r_field hl rfl fld127_7) ?_)
          clear hl a; intro a hl
          refine wl (w_store hl hh trivial one3 rfl rfl (by repeat (first | exact find_head | apply find_tail | apply find_skip)) (by first | (simp; done) | (simp; omega) | (rw [gtc_len]; omega) | (rw [gtc_len]; simp; done) | (rw [stc_len]; omega) | (rw [stc_len]; simp; done)) (by first | rfl | assumption | (apply Row.one; assumption)) (by first | exact gtc_sys _ _ | exact gtc_sdn _ _ | exact gtc_stk _ _ | exact gtc_sau _ _ | exact gtc_soff _ _ | exact gtc_sq _ _ _ _ [(b9, C (fl btc (delP g.q 0) ++ j6) 141)] | exact gtc_ssl _ (by omega) _ | (simp only [setL, List.getElem?_cons_zero, List.getElem?_cons_succ, Value.cells, List.take_zero, List.take_succ_cons, List.take_nil, List.drop_zero, List.drop_succ_cons, List.drop_nil, List.length_cons, List.length_nil, List.cons_append, List.nil_append, List.append_nil, Nat.zero_add, Nat.add_zero, Nat.reduceAdd, Nat.reduceBEq, Nat.reduceEqDiff, Nat.ble, BEq.rfl, Bool.and_true, Bool.and_self, cond_true, beq_self_eq_true]; rfl)) ?_)
          clear hh w; intro w hh
          refine wl (wl_val hl rfl trivial (r_nilCheck hl rfl) ?_)
          clear hl a; intro a hl
          refine wl (wl_val hl rfl trivial (r_field hl rfl fld127_8) ?_)
          clear hl a; intro a hl
          refine wl (w_store hl hh trivial one4 rfl rfl (by repeat (first | exact find_head | apply find_tail | apply find_skip)) (by first | (simp; done) | (simp; omega) | (rw [gtc_len]; omega) | (rw [gtc_len]; simp; done) | (rw [stc_len]; omega) | (rw [stc_len]; simp; done)) (by first | rfl | assumption | (apply Row.one; assumption)) (by first | exact gtc_sys _ _ | exact gtc_sdn _ _ | exact gtc_stk _ _ | exact gtc_sau _ _ | exact gtc_soff _ _ | exact gtc_sq _ _ _ _ [(b9, C (fl btc (delP g.q 0) ++ j6) 141)] | exact gtc_ssl _ (by omega) _ | (simp only [setL, List.getElem?_cons_zero, List.getElem?_cons_succ, Value.cells, List.take_zero, List.take_succ_cons, List.take_nil, List.drop_zero, List.drop_succ_cons, List.drop_nil, List.length_cons, List.length_nil, List.cons_append, List.nil_append, List.append_nil, Nat.zero_add, Nat.add_zero, Nat.reduceAdd, Nat.reduceBEq, Nat.reduceEqDiff, Nat.ble, BEq.rfl, Bool.and_true, Bool.and_self, cond_true, beq_self_eq_true]; rfl)) ?_)
          clear hh w; intro w hh
          refine w_nil ?_
          have hl2 := hl.add (t := 0) (hl.nil) rfl; clear hl; have hl := hl2; clear hl2
          refine then_normal ?_
          refine c_region ?_
          refine wl (wl_val hl rfl trivial (r_move hl rfl) ?_)
          clear hl a; intro a hl
          refine wl (w_call hl hh rfl trivial rfl cal31 rfl (push_spec gb { g with q := delP g.q 0, qp := some ⟨b9, 0, none⟩, qE := [(b9, C (fl btc (delP g.q 0) ++ j6) 141)], st := { s1 with fid := x.id, ph := 1, fn := n2 }, sl := slF g.sl n2.pl 16, ys := 0, dn := 0, tk := 0, au := false } hg.o (by simp only; omega) (by simp)) (by repeat (first | exact keeps_nil | apply keeps_cons (by repeat (first | exact find_head | apply find_tail | apply find_skip)) (by first  | rfl) | exact keeps_self | exact keeps_left | apply keeps_app | apply keeps_mv | apply keeps_skip)) trivial ?_)
          clear hl hh a w; intro vc Fc a w hR hl hh
          obtain ⟨rfl, p6, c6, E6, hR6, rfl⟩ := hR
          try simp only [List.cons_append, List.nil_append, List.append_assoc, List.append_nil] at hh
          refine w_nil ?_
          have hl2 := hl.nil; clear hl; have hl := hl2; clear hl2
          refine f_end0 (F' := (gb, C (GtV.c { g with q := delP g.q 0, qp := some ⟨b9, 0, none⟩, qE := [(b9, C (fl btc (delP g.q 0) ++ j6) 141)], st := { s1 with fid := x.id, ph := 1, fn := n2 }, sl := slF g.sl n2.pl 16, ys := 0, dn := 0, tk := 0, au := false, out := g.out ++ pushP (GtV.pl { g with q := delP g.q 0, qp := some ⟨b9, 0, none⟩, qE := [(b9, C (fl btc (delP g.q 0) ++ j6) 141)], st := { s1 with fid := x.id, ph := 1, fn := n2 }, sl := slF g.sl n2.pl 16, ys := 0, dn := 0, tk := 0, au := false }), op := p6, oc := c6, oE := E6 }) 127) :: ((StV.E { s1 with fid := x.id, ph := 1, fn := n2 }) ++ ([(b9, C (fl btc (delP g.q 0) ++ j6) 141)] ++ ((g.rb, MD (kInt .u32) g.rl g.rn) :: (E6 ++ ((g.led, C (LdV.c l') 91) :: (l'.d.E ++ (Z ++ G9)))))))) hl hh rfl (by repeat (first | exact keeps_nil | apply keeps_cons (by repeat (first | exact find_head | apply find_tail | apply find_skip)) (by first  | rfl) | exact keeps_self | exact keeps_left | apply keeps_app | apply keeps_mv | apply keeps_skip)) ?_
          have hqd : (delP g.q 0).map btP = qs.map btP := by rw [delP_map, hqx]; rfl
          exact ⟨rfl, GO.grow (g' := { g with q := delP g.q 0, qp := some ⟨b9, 0, none⟩, qE := [(b9, C (fl btc (delP g.q 0) ++ j6) 141)], st := { s1 with fid := x.id, ph := 1, fn := n2 }, sl := slF g.sl n2.pl 16, ys := 0, dn := 0, tk := 0, au := false, out := g.out ++ pushP (GtV.pl { g with q := delP g.q 0, qp := some ⟨b9, 0, none⟩, qE := [(b9, C (fl btc (delP g.q 0) ++ j6) 141)], st := { s1 with fid := x.id, ph := 1, fn := n2 }, sl := slF g.sl n2.pl 16, ys := 0, dn := 0, tk := 0, au := false }), op := p6, oc := c6, oE := E6 }) (put_ok hgk (fli_ok hs1 hxo.id (by omega) hn2) (by have := push_len (GtV.pl { g with q := delP g.q 0, qp := some ⟨b9, 0, none⟩, qE := [(b9, C (fl btc (delP g.q 0) ++ j6) 141)], st := { s1 with fid := x.id, ph := 1, fn := n2 }, sl := slF g.sl n2.pl 16, ys := 0, dn := 0, tk := 0, au := false }); omega) hol hR6 (push_ok hs1.ep hxo.id) (by omega) (by omega) (by omega) false _) hl' (by rw [sx_y (g := g.pl) (l := l.pl) (b := btP x) (q := qs.map btP) hqp hv0 (hap hv0) (hrs ▸ hr)]; exact pl54 hrs hqd) (by rw [sx_y (g := g.pl) (l := l.pl) (b := btP x) (q := qs.map btP) hqp hv0 (hap hv0) (hrs ▸ hr), hp', hrs]; rfl) rfl⟩
      ·
        try simp only [List.cons_append, List.nil_append, List.append_nil] at hh
        try simp only [List.append_assoc, List.cons_append, List.nil_append] at hh
        have href := ref_1
        refine wl (w_call hl hh rfl trivial rfl cal45 rfl (href) (by repeat (first | exact keeps_nil | apply keeps_cons (by repeat (first | exact find_head | apply find_tail | apply find_skip)) (by first  | rfl) | exact keeps_self | exact keeps_left | apply keeps_app | apply keeps_mv | apply keeps_skip)) trivial ?_)
        clear hl hh a w; intro vc Fc a w hR hl hh
        obtain ⟨rfl, rfl⟩ := hR
        try simp only [List.cons_append, List.nil_append, List.append_assoc, List.append_nil] at hh
        refine wl (wl_val hl rfl trivial (r_assign hl rfl) ?_)
        clear hl a; intro a hl
        refine w_nil ?_
        have hl2 := hl.add (t := 0) (hl.add (t := 2) (hl.add (t := 3) (hl.add (t := 4) (hl.nil) rfl) rfl) rfl) rfl; clear hl; have hl := hl2; clear hl2
        refine then_normal ?_
        refine c_seq ?_
        refine c_seq ?_
        refine c_region ?_
        refine wl (wl_val hl rfl trivial (r_move hl rfl) ?_)
        clear hl a; intro a hl
        refine wl (wl_val hl rfl trivial (r_eql hl rfl rfl) ?_)
        clear hl a; intro a hl
        refine w_nil ?_
        have hl2 := hl.add (t := 0) (hl.add (t := 2) (hl.add (t := 3) (hl.add (t := 4) (hl.add (t := 56) (hl.nil) rfl) rfl) rfl) rfl) rfl; clear hl; have hl := hl2; clear hl2
        refine then_normal ?_
        refine c_condF hl rfl ?_
        refine wp_skip ?_
        refine then_normal ?_
        refine c_seq ?_
        refine c_seq ?_
        refine c_region ?_
        refine wl (wl_val hl rfl trivial (r_move hl rfl) ?_)
        clear hl a; intro a hl
        refine wl (wl_val hl rfl trivial (r_neq hl rfl rfl) ?_)
        clear hl a; intro a hl
        refine w_nil ?_
        have hl2 := hl.add (t := 0) (hl.add (t := 2) (hl.add (t := 3) (hl.add (t := 4) (hl.add (t := 58) (hl.nil) rfl) rfl) rfl) rfl) rfl; clear hl; have hl := hl2; clear hl2
        refine then_normal ?_
        refine c_condT hl rfl ?_
        refine c_seq ?_
        refine c_draw [(gb, C (GtV.c { g with q := delP g.q 0, qp := some ⟨b9, 0, none⟩, qE := [(b9, C (fl btc (delP g.q 0) ++ j6) 141)] }) 127), (k2, C (btc x) 141)] [7] mixed hh ?_
        clear hh w; intro w hh
        have hM : Mem [(gb, C (GtV.c { g with q := delP g.q 0, qp := some ⟨b9, 0, none⟩, qE := [(b9, C (fl btc (delP g.q 0) ++ j6) 141)] }) 127), (k2, C (btc x) 141)] w := (memK hh (by repeat (first | exact keeps_nil | apply keeps_cons (by repeat (first | exact find_head | apply find_tail | apply find_skip)) (by first  | rfl) | exact keeps_self | exact keeps_left | apply keeps_app | apply keeps_mv | apply keeps_skip)))
        refine d_take (i := 0) hl rfl (by kernel_rfl) (by kernel_rfl) (by kernel_rfl) (by kernel_rfl) (by kernel_rfl) rfl trivial (fun _ _ _ h => h) hM (fun w hC => r_move hl rfl) rfl ?_
        clear hl a; intro a hl
        refine d_take (i := 1) hl rfl (by kernel_rfl) (by kernel_rfl) (by kernel_rfl) (by kernel_rfl) (by kernel_rfl) rfl trivial (fun _ _ _ h => h) hM (fun w hC => r_nilCheck hl rfl) rfl ?_
        clear hl a; intro a hl
        refine d_take (i := 2) hl rfl (by kernel_rfl) (by kernel_rfl) (by kernel_rfl) (by kernel_rfl) (by kernel_rfl) rfl trivial (fun _ _ _ h => h) hM (fun w hC => r_field hl rfl fld127_3) rfl ?_
        clear hl a; intro a hl
        refine d_take (i := 3) hl rfl (by kernel_rfl) (by kernel_rfl) (by kernel_rfl) (by kernel_rfl) (by kernel_rfl) rfl trivial (fun _ _ _ h => h) hM (fun w hC => r_loadC hl rfl one74 hC (by repeat (first | exact find_head | apply find_tail | apply find_skip)) (by first | exact gtc_led _ | exact gtc_ep _ | exact gtc_vs _ | exact gtc_is _ | exact gtc_fid _ | exact gtc_ph _ | exact gtc_vd _ | exact gtc_q _ | exact gtc_rf _ | exact gtc_ys _ | exact gtc_dn _ | exact gtc_tk _ | exact gtc_au _ | exact gtc_o _ | exact gtc_off _ | exact stc_ph' _ | exact stc_fid' _ | exact stc_vd' _ | exact stc_ep' _ | exact stc_vs' _ | exact stc_is' _ | rfl)) rfl ?_
        clear hl a; intro a hl
        refine d_take (i := 4) hl rfl (by kernel_rfl) (by kernel_rfl) (by kernel_rfl) (by kernel_rfl) (by kernel_rfl) rfl trivial (fun _ _ _ h => h) hM (fun w hC => r_field hl rfl fld141_0) rfl ?_
        clear hl a; intro a hl
        refine d_take (i := 5) hl rfl (by kernel_rfl) (by kernel_rfl) (by kernel_rfl) (by kernel_rfl) (by kernel_rfl) rfl trivial (fun _ _ _ h => h) hM (fun w hC => r_loadC hl rfl one36 hC (by repeat (first | exact find_head | apply find_tail | apply find_skip)) (by first | exact gtc_led _ | exact gtc_ep _ | exact gtc_vs _ | exact gtc_is _ | exact gtc_fid _ | exact gtc_ph _ | exact gtc_vd _ | exact gtc_q _ | exact gtc_rf _ | exact gtc_ys _ | exact gtc_dn _ | exact gtc_tk _ | exact gtc_au _ | exact gtc_o _ | exact gtc_off _ | exact stc_ph' _ | exact stc_fid' _ | exact stc_vd' _ | exact stc_ep' _ | exact stc_vs' _ | exact stc_is' _ | rfl)) rfl ?_
        clear hl a; intro a hl
        refine d_take (i := 6) hl rfl (by kernel_rfl) (by kernel_rfl) (by kernel_rfl) (by kernel_rfl) (by kernel_rfl) rfl trivial (fun _ _ _ h => h) hM (fun w hC => r_move hl rfl) rfl ?_
        clear hl a; intro a hl
        refine d_one (i := 7) (by kernel_rfl) rfl ?_
        try clear hM
        refine id (w_mapUpdG kd36 (keyInt Tryz.underlying36) Tryz.underlying74 hl hh trivial rfl rfl rfl (by repeat (first | exact find_head | apply find_tail | apply find_skip)) ?_)
        clear hh w; intro w hh
        refine d_step (fun h => absurd h (by decide)) ?_
        refine d_done (by kernel_rfl) ?_
        try clear hM
        have hl2 := hl.nil; clear hl; have hl := hl2; clear hl2
        refine then_normal ?_
        refine wp_ret ?_
        refine then_ret ?_
        first
        | (have hvn2 := hvn; rw [← gtc_rl { g with q := delP g.q 0, qp := some ⟨b9, 0, none⟩, qE := [(b9, C (fl btc (delP g.q 0) ++ j6) 141)] } (dput g.rl x.id (.int .u8 (vcP g.pl x.cs)) g.rn).1 (dput g.rl x.id (.int .u8 (vcP g.pl x.cs)) g.rn).2] at hh; simp only at hh; refine f_ret0 (F' := (gb, C (GtV.c { g with q := delP g.q 0, qp := some ⟨b9, 0, none⟩, qE := [(b9, C (fl btc (delP g.q 0) ++ j6) 141)], rl := (dput g.rl x.id (.int .u8 (vcP g.pl x.cs)) g.rn).1, rn := (dput g.rl x.id (.int .u8 (vcP g.pl x.cs)) g.rn).2 }) 127) :: (g.st.E ++ ([(b9, C (fl btc (delP g.q 0) ++ j6) 141)] ++ ((g.rb, MD (kInt .u32) (dput g.rl x.id (.int .u8 (vcP g.pl x.cs)) g.rn).1 (dput g.rl x.id (.int .u8 (vcP g.pl x.cs)) g.rn).2) :: (g.oE ++ ((g.led, C (LdV.c l) 91) :: (l.d.E ++ (Z ++ G9)))))))) hl hh rfl (by repeat (first | exact keeps_nil | apply keeps_cons (by repeat (first | exact find_head | apply find_tail | apply find_skip)) (by first  | rfl) | exact keeps_self | exact keeps_left | apply keeps_app | apply keeps_mv | apply keeps_skip)) ?_; refine ⟨rfl, GO.grow (g' := { g with q := delP g.q 0, qp := some ⟨b9, 0, none⟩, qE := [(b9, C (fl btc (delP g.q 0) ++ j6) 141)], rl := (dput g.rl x.id (.int .u8 (vcP g.pl x.cs)) g.rn).1, rn := (dput g.rl x.id (.int .u8 (vcP g.pl x.cs)) g.rn).2 }) (rf_ok hgk (by have hv := vc_b g.pl x.cs; omega)) hl9.app ?_ ?_ rfl⟩; (rw [sx_r (g := g.pl) (l := l.pl) (b := btP x) (q := qs.map btP) hqp hvn]; refine (rf_pl { g with q := delP g.q 0, qp := some ⟨b9, 0, none⟩, qE := [(b9, C (fl btc (delP g.q 0) ++ j6) 141)] } x.id _).trans ?_; rw [hpq]; rfl); (rw [sx_r (g := g.pl) (l := l.pl) (b := btP x) (q := qs.map btP) hqp hvn]))
        | (rw [← gtc_rl { g with q := delP g.q 0, qp := some ⟨b9, 0, none⟩, qE := [(b9, C (fl btc (delP g.q 0) ++ j6) 141)] } (dput g.rl x.id (.int .u8 11) g.rn).1 (dput g.rl x.id (.int .u8 11) g.rn).2] at hh; simp only at hh; refine f_ret0 (F' := (gb, C (GtV.c { g with q := delP g.q 0, qp := some ⟨b9, 0, none⟩, qE := [(b9, C (fl btc (delP g.q 0) ++ j6) 141)], rl := (dput g.rl x.id (.int .u8 11) g.rn).1, rn := (dput g.rl x.id (.int .u8 11) g.rn).2 }) 127) :: (g.st.E ++ ([(b9, C (fl btc (delP g.q 0) ++ j6) 141)] ++ ((g.rb, MD (kInt .u32) (dput g.rl x.id (.int .u8 11) g.rn).1 (dput g.rl x.id (.int .u8 11) g.rn).2) :: (g.oE ++ ((g.led, C (LdV.c l') 91) :: (l'.d.E ++ (Z ++ G9)))))))) hl hh rfl (by repeat (first | exact keeps_nil | apply keeps_cons (by repeat (first | exact find_head | apply find_tail | apply find_skip)) (by first  | rfl) | exact keeps_self | exact keeps_left | apply keeps_app | apply keeps_mv | apply keeps_skip)) ?_; refine ⟨rfl, GO.grow (g' := { g with q := delP g.q 0, qp := some ⟨b9, 0, none⟩, qE := [(b9, C (fl btc (delP g.q 0) ++ j6) 141)], rl := (dput g.rl x.id (.int .u8 11) g.rn).1, rn := (dput g.rl x.id (.int .u8 11) g.rn).2 }) (rf_ok hgk (by omega)) hl' ?_ ?_ rfl⟩; (rw [sx_1 (g := g.pl) (l := l.pl) (b := btP x) (q := qs.map btP) hqp hv0 (hap hv0) (hrs ▸ hr)]; refine (rf_pl { g with q := delP g.q 0, qp := some ⟨b9, 0, none⟩, qE := [(b9, C (fl btc (delP g.q 0) ++ j6) 141)] } x.id _).trans ?_; rw [hpq]; rfl); (rw [sx_1 (g := g.pl) (l := l.pl) (b := btP x) (q := qs.map btP) hqp hv0 (hap hv0) (hrs ▸ hr), hp', hrs]; rfl))
      ·
        try simp only [List.cons_append, List.nil_append, List.append_nil] at hh
        try simp only [List.append_assoc, List.cons_append, List.nil_append] at hh
        have href := ref_2
        refine wl (w_call hl hh rfl trivial rfl cal45 rfl (href) (by repeat (first | exact keeps_nil | apply keeps_cons (by repeat (first | exact find_head | apply find_tail | apply find_skip)) (by first  | rfl) | exact keeps_self | exact keeps_left | apply keeps_app | apply keeps_mv | apply keeps_skip)) trivial ?_)
        clear hl hh a w; intro vc Fc a w hR hl hh
        obtain ⟨rfl, rfl⟩ := hR
        try simp only [List.cons_append, List.nil_append, List.append_assoc, List.append_nil] at hh
        refine wl (wl_val hl rfl trivial (r_assign hl rfl) ?_)
        clear hl a; intro a hl
        refine w_nil ?_
        have hl2 := hl.add (t := 0) (hl.add (t := 2) (hl.add (t := 3) (hl.add (t := 4) (hl.nil) rfl) rfl) rfl) rfl; clear hl; have hl := hl2; clear hl2
        refine then_normal ?_
        refine c_seq ?_
        refine c_seq ?_
        refine c_region ?_
        refine wl (wl_val hl rfl trivial (r_move hl rfl) ?_)
        clear hl a; intro a hl
        refine wl (wl_val hl rfl trivial (r_eql hl rfl rfl) ?_)
        clear hl a; intro a hl
        refine w_nil ?_
        have hl2 := hl.add (t := 0) (hl.add (t := 2) (hl.add (t := 3) (hl.add (t := 4) (hl.add (t := 56) (hl.nil) rfl) rfl) rfl) rfl) rfl; clear hl; have hl := hl2; clear hl2
        refine then_normal ?_
        refine c_condT hl rfl ?_
        refine wp_ret ?_
        refine then_ret ?_
        refine f_ret0 (F' := (gb, C (GtV.c (GtV.offd { g with q := delP g.q 0, qp := some ⟨b9, 0, none⟩, qE := [(b9, C (fl btc (delP g.q 0) ++ j6) 141)] })) 127) :: (g.st.E ++ ([(b9, C (fl btc (delP g.q 0) ++ j6) 141)] ++ ((g.rb, MD (kInt .u32) g.rl g.rn) :: ([] ++ ((g.led, C (LdV.c l') 91) :: (l'.d.E ++ (Z ++ G9)))))))) hl hh rfl (by repeat (first | exact keeps_nil | apply keeps_cons (by repeat (first | exact find_head | apply find_tail | apply find_skip)) (by first  | rfl) | exact keeps_self | exact keeps_left | apply keeps_app | apply keeps_mv | apply keeps_skip)) ?_
        exact ⟨rfl, GO.grow (g' := GtV.offd { g with q := delP g.q 0, qp := some ⟨b9, 0, none⟩, qE := [(b9, C (fl btc (delP g.q 0) ++ j6) 141)] }) (offd_ok hgk) hl' (by rw [sx_2 (g := g.pl) (l := l.pl) (b := btP x) (q := qs.map btP) hqp hv0 (hap hv0) (hrs ▸ hr), offd_pl, hpq]) (by rw [sx_2 (g := g.pl) (l := l.pl) (b := btP x) (q := qs.map btP) hqp hv0 (hap hv0) (hrs ▸ hr), hp', hrs]; rfl) rfl⟩
    · intro hc1
      try simp only [decide_eq_true_eq, decide_eq_false_iff_not, Bool.not_eq_true', Bool.not_eq_false', Bool.not_eq_true, Bool.not_eq_false, Bool.and_eq_true, Bool.or_eq_true, Bool.and_eq_false_iff, Bool.or_eq_false_iff, Bool.not_not, ne_eq, Int.not_lt, Int.not_le, Decidable.not_not, beq_iff_eq, bne_iff_ne] at hc1
      have hvn : ¬ vcP g.pl (btP x).2 = 0 := hc1
      have hvb := vc_b g.pl x.cs
      refine wp_skip ?_
      refine then_normal ?_
      refine c_seq ?_
      refine c_seq ?_
      refine c_region ?_
      refine wl (wl_val hl rfl trivial (r_move hl rfl) ?_)
      clear hl a; intro a hl
      refine wl (wl_val hl rfl trivial (r_eql hl rfl rfl) ?_)
      clear hl a; intro a hl
      refine w_nil ?_
      have hl2 := hl.add (t := 0) (hl.add (t := 2) (hl.add (t := 3) (hl.add (t := 4) (hl.add (t := 56) (hl.nil) rfl) rfl) rfl) rfl) rfl; clear hl; have hl := hl2; clear hl2
      refine then_normal ?_
      refine c_condF hl (congrArg (fun b => some (Value.bool b)) (decide_eq_false (show ¬ vcP g.pl x.cs = 14 by omega))) ?_
      refine wp_skip ?_
      refine then_normal ?_
      refine c_seq ?_
      refine c_seq ?_
      refine c_region ?_
      refine wl (wl_val hl rfl trivial (r_move hl rfl) ?_)
      clear hl a; intro a hl
      refine wl (wl_val hl rfl trivial (r_neq hl rfl rfl) ?_)
      clear hl a; intro a hl
      refine w_nil ?_
      have hl2 := hl.add (t := 0) (hl.add (t := 2) (hl.add (t := 3) (hl.add (t := 4) (hl.add (t := 58) (hl.nil) rfl) rfl) rfl) rfl) rfl; clear hl; have hl := hl2; clear hl2
      refine then_normal ?_
      refine c_condT hl (congrArg (fun b => some (Value.bool b)) (decide_eq_true (show vcP g.pl x.cs ≠ 0 by omega))) ?_
      refine c_seq ?_
      refine c_draw [(gb, C (GtV.c { g with q := delP g.q 0, qp := some ⟨b9, 0, none⟩, qE := [(b9, C (fl btc (delP g.q 0) ++ j6) 141)] }) 127), (k2, C (btc x) 141)] [7] mixed hh ?_
      clear hh w; intro w hh
      have hM : Mem [(gb, C (GtV.c { g with q := delP g.q 0, qp := some ⟨b9, 0, none⟩, qE := [(b9, C (fl btc (delP g.q 0) ++ j6) 141)] }) 127), (k2, C (btc x) 141)] w := (memK hh (by repeat (first | exact keeps_nil | apply keeps_cons (by repeat (first | exact find_head | apply find_tail | apply find_skip)) (by first  | rfl) | exact keeps_self | exact keeps_left | apply keeps_app | apply keeps_mv | apply keeps_skip)))
      refine d_take (i := 0) hl rfl (by kernel_rfl) (by kernel_rfl) (by kernel_rfl) (by kernel_rfl) (by kernel_rfl) rfl trivial (fun _ _ _ h => h) hM (fun w hC => r_move hl rfl) rfl ?_
      clear hl a; intro a hl
      refine d_take (i := 1) hl rfl (by kernel_rfl) (by kernel_rfl) (by kernel_rfl) (by kernel_rfl) (by kernel_rfl) rfl trivial (fun _ _ _ h => h) hM (fun w hC => r_nilCheck hl rfl) rfl ?_
      clear hl a; intro a hl
      refine d_take (i := 2) hl rfl (by kernel_rfl) (by kernel_rfl) (by kernel_rfl) (by kernel_rfl) (by kernel_rfl) rfl trivial (fun _ _ _ h => h) hM (fun w hC => r_field hl rfl fld127_3) rfl ?_
      clear hl a; intro a hl
      refine d_take (i := 3) hl rfl (by kernel_rfl) (by kernel_rfl) (by kernel_rfl) (by kernel_rfl) (by kernel_rfl) rfl trivial (fun _ _ _ h => h) hM (fun w hC => r_loadC hl rfl one74 hC (by repeat (first | exact find_head | apply find_tail | apply find_skip)) (by first | exact gtc_led _ | exact gtc_ep _ | exact gtc_vs _ | exact gtc_is _ | exact gtc_fid _ | exact gtc_ph _ | exact gtc_vd _ | exact gtc_q _ | exact gtc_rf _ | exact gtc_ys _ | exact gtc_dn _ | exact gtc_tk _ | exact gtc_au _ | exact gtc_o _ | exact gtc_off _ | exact stc_ph' _ | exact stc_fid' _ | exact stc_vd' _ | exact stc_ep' _ | exact stc_vs' _ | exact stc_is' _ | rfl)) rfl ?_
      clear hl a; intro a hl
      refine d_take (i := 4) hl rfl (by kernel_rfl) (by kernel_rfl) (by kernel_rfl) (by kernel_rfl) (by kernel_rfl) rfl trivial (fun _ _ _ h => h) hM (fun w hC => r_field hl rfl fld141_0) rfl ?_
      clear hl a; intro a hl
      refine d_take (i := 5) hl rfl (by kernel_rfl) (by kernel_rfl) (by kernel_rfl) (by kernel_rfl) (by kernel_rfl) rfl trivial (fun _ _ _ h => h) hM (fun w hC => r_loadC hl rfl one36 hC (by repeat (first | exact find_head | apply find_tail | apply find_skip)) (by first | exact gtc_led _ | exact gtc_ep _ | exact gtc_vs _ | exact gtc_is _ | exact gtc_fid _ | exact gtc_ph _ | exact gtc_vd _ | exact gtc_q _ | exact gtc_rf _ | exact gtc_ys _ | exact gtc_dn _ | exact gtc_tk _ | exact gtc_au _ | exact gtc_o _ | exact gtc_off _ | exact stc_ph' _ | exact stc_fid' _ | exact stc_vd' _ | exact stc_ep' _ | exact stc_vs' _ | exact stc_is' _ | rfl)) rfl ?_
      clear hl a; intro a hl
      refine d_take (i := 6) hl rfl (by kernel_rfl) (by kernel_rfl) (by kernel_rfl) (by kernel_rfl) (by kernel_rfl) rfl trivial (fun _ _ _ h => h) hM (fun w hC => r_move hl rfl) rfl ?_
      clear hl a; intro a hl
      refine d_one (i := 7) (by kernel_rfl) rfl ?_
      try clear hM
      refine id (w_mapUpdG kd36 (keyInt Tryz.underlying36) Tryz.underlying74 hl hh trivial rfl rfl rfl (by repeat (first | exact find_head | apply find_tail | apply find_skip)) ?_)
      clear hh w; intro w hh
      refine d_step (fun h => absurd h (by decide)) ?_
      refine d_done (by kernel_rfl) ?_
      try clear hM
      have hl2 := hl.nil; clear hl; have hl := hl2; clear hl2
      refine then_normal ?_
      refine wp_ret ?_
      refine then_ret ?_
      first
      | (have hvn2 := hvn; rw [← gtc_rl { g with q := delP g.q 0, qp := some ⟨b9, 0, none⟩, qE := [(b9, C (fl btc (delP g.q 0) ++ j6) 141)] } (dput g.rl x.id (.int .u8 (vcP g.pl x.cs)) g.rn).1 (dput g.rl x.id (.int .u8 (vcP g.pl x.cs)) g.rn).2] at hh; simp only at hh; refine f_ret0 (F' := (gb, C (GtV.c { g with q := delP g.q 0, qp := some ⟨b9, 0, none⟩, qE := [(b9, C (fl btc (delP g.q 0) ++ j6) 141)], rl := (dput g.rl x.id (.int .u8 (vcP g.pl x.cs)) g.rn).1, rn := (dput g.rl x.id (.int .u8 (vcP g.pl x.cs)) g.rn).2 }) 127) :: (g.st.E ++ ([(b9, C (fl btc (delP g.q 0) ++ j6) 141)] ++ ((g.rb, MD (kInt .u32) (dput g.rl x.id (.int .u8 (vcP g.pl x.cs)) g.rn).1 (dput g.rl x.id (.int .u8 (vcP g.pl x.cs)) g.rn).2) :: (g.oE ++ ((g.led, C (LdV.c l) 91) :: (l.d.E ++ (Z ++ G9)))))))) hl hh rfl (by repeat (first | exact keeps_nil | apply keeps_cons (by repeat (first | exact find_head | apply find_tail | apply find_skip)) (by first  | rfl) | exact keeps_self | exact keeps_left | apply keeps_app | apply keeps_mv | apply keeps_skip)) ?_; refine ⟨rfl, GO.grow (g' := { g with q := delP g.q 0, qp := some ⟨b9, 0, none⟩, qE := [(b9, C (fl btc (delP g.q 0) ++ j6) 141)], rl := (dput g.rl x.id (.int .u8 (vcP g.pl x.cs)) g.rn).1, rn := (dput g.rl x.id (.int .u8 (vcP g.pl x.cs)) g.rn).2 }) (rf_ok hgk (by have hv := vc_b g.pl x.cs; omega)) hl9.app ?_ ?_ rfl⟩; (rw [sx_r (g := g.pl) (l := l.pl) (b := btP x) (q := qs.map btP) hqp hvn]; refine (rf_pl { g with q := delP g.q 0, qp := some ⟨b9, 0, none⟩, qE := [(b9, C (fl btc (delP g.q 0) ++ j6) 141)] } x.id _).trans ?_; rw [hpq]; rfl); (rw [sx_r (g := g.pl) (l := l.pl) (b := btP x) (q := qs.map btP) hqp hvn]))
      | (rw [← gtc_rl { g with q := delP g.q 0, qp := some ⟨b9, 0, none⟩, qE := [(b9, C (fl btc (delP g.q 0) ++ j6) 141)] } (dput g.rl x.id (.int .u8 11) g.rn).1 (dput g.rl x.id (.int .u8 11) g.rn).2] at hh; simp only at hh; refine f_ret0 (F' := (gb, C (GtV.c { g with q := delP g.q 0, qp := some ⟨b9, 0, none⟩, qE := [(b9, C (fl btc (delP g.q 0) ++ j6) 141)], rl := (dput g.rl x.id (.int .u8 11) g.rn).1, rn := (dput g.rl x.id (.int .u8 11) g.rn).2 }) 127) :: (g.st.E ++ ([(b9, C (fl btc (delP g.q 0) ++ j6) 141)] ++ ((g.rb, MD (kInt .u32) (dput g.rl x.id (.int .u8 11) g.rn).1 (dput g.rl x.id (.int .u8 11) g.rn).2) :: (g.oE ++ ((g.led, C (LdV.c l') 91) :: (l'.d.E ++ (Z ++ G9)))))))) hl hh rfl (by repeat (first | exact keeps_nil | apply keeps_cons (by repeat (first | exact find_head | apply find_tail | apply find_skip)) (by first  | rfl) | exact keeps_self | exact keeps_left | apply keeps_app | apply keeps_mv | apply keeps_skip)) ?_; refine ⟨rfl, GO.grow (g' := { g with q := delP g.q 0, qp := some ⟨b9, 0, none⟩, qE := [(b9, C (fl btc (delP g.q 0) ++ j6) 141)], rl := (dput g.rl x.id (.int .u8 11) g.rn).1, rn := (dput g.rl x.id (.int .u8 11) g.rn).2 }) (rf_ok hgk (by omega)) hl' ?_ ?_ rfl⟩; (rw [sx_1 (g := g.pl) (l := l.pl) (b := btP x) (q := qs.map btP) hqp hv0 (hap hv0) (hrs ▸ hr)]; refine (rf_pl { g with q := delP g.q 0, qp := some ⟨b9, 0, none⟩, qE := [(b9, C (fl btc (delP g.q 0) ++ j6) 141)] } x.id _).trans ?_; rw [hpq]; rfl); (rw [sx_1 (g := g.pl) (l := l.pl) (b := btP x) (q := qs.map btP) hqp hv0 (hap hv0) (hrs ▸ hr), hp', hrs]; rfl))
end Go.Proofs.Qxb6500908aGreat

import Derived.Test.Qxb6500908aGreatW12
namespace Go.Proofs.Qxb6500908aGreat
open Go.Eng
set_option linter.unusedVariables false
set_option linter.unusedSimpArgs false
theorem cal51 : callable Tryz.prog 51 = true := by kernel_rfl
theorem cal47 : callable Tryz.prog 47 = true := by kernel_rfl
/-- time passes -/
def tickP (g : GtP) (l : LdP) : GtP × LdP :=
  if g.off then (g, l)
  else if g.st.ph = 0 then startP g l
  else if g.st.ph = 1 then (if 8 ≤ g.tk + 1 then decP { g with tk := g.tk + 1 } l false else ({ g with tk := g.tk + 1, out := g.out ++ pushP { g with tk := g.tk + 1 } }, l))
  else ({ g with out := g.out ++ pushP g }, l)
section tks
variable {g : GtP} {l : LdP}
theorem tk_off (h : g.off = true) : tickP g l = (g, l) := by unfold tickP; rw [if_pos h]
theorem tk_0 (h : g.off = false) (h1 : g.st.ph = 0) : tickP g l = startP g l := by unfold tickP; rw [if_neg (by rw [h]; simp), if_pos h1]
theorem tk_1t (h : g.off = false) (h1 : g.st.ph = 1) (h2 : 8 ≤ g.tk + 1) : tickP g l = decP { g with tk := g.tk + 1 } l false := by unfold tickP; rw [if_neg (by rw [h]; simp), if_neg (by omega), if_pos h1, if_pos h2]
theorem tk_1f (h : g.off = false) (h1 : g.st.ph = 1) (h2 : ¬ 8 ≤ g.tk + 1) : tickP g l = ({ g with tk := g.tk + 1, out := g.out ++ pushP { g with tk := g.tk + 1 } }, l) := by unfold tickP; rw [if_neg (by rw [h]; simp), if_neg (by omega), if_pos h1, if_neg h2]
theorem tk_2 (h : g.off = false) (h1 : ¬ g.st.ph = 0) (h2 : ¬ g.st.ph = 1) : tickP g l = ({ g with out := g.out ++ pushP g }, l) := by unfold tickP; rw [if_neg (by rw [h]; simp), if_neg h1, if_neg h2]
end tks
theorem tk_ok {Z : List (Nat × Obj)} {g : GtV} (h : g.ok Z) {t : Int} (ht : 0 ≤ t ∧ t ≤ 1000000000) : GtV.ok Z { g with tk := t } := ⟨h.st, h.q, h.qo, h.ql, h.rv, h.rk, h.ys, h.dn, ht, h.o, h.oo, h.ol⟩
theorem ys_ok {Z : List (Nat × Obj)} {g : GtV} (h : g.ok Z) {t : Int} (ht : 0 ≤ t ∧ t ≤ 65535) : GtV.ok Z { g with ys := t } := ⟨h.st, h.q, h.qo, h.ql, h.rv, h.rk, ht, h.dn, h.tk, h.o, h.oo, h.ol⟩
/-- a message comes in -/
def Heed (g : GtP) (m : Ms) : Prop := g.off = false ∧ ¬ g.st.ph = 0 ∧ m.d < 16 ∧ m.e = g.st.ep ∧ m.b = g.st.fid
instance (g : GtP) (m : Ms) : Decidable (Heed g m) := by unfold Heed; infer_instance
def delvP (g : GtP) (l : LdP) (m : Ms) : GtP × LdP :=
  if Heed g m then
    (if m.k = 4 ∧ g.st.ph = 1 then
      (if m.y = false then decP g l false else if orB g.ys (sh1 m.d) = 65535 then decP { g with ys := orB g.ys (sh1 m.d) } l true else ({ g with ys := orB g.ys (sh1 m.d) }, l))
    else if m.k = 5 ∧ ¬ g.st.ph = 1 ∧ g.au = false then cnfP g l (sh1 m.d)
    else if m.k = 6 ∧ g.st.ph = 2 ∧ g.au = true then (if m.r = g.st.fid ∧ m.s = 0 then cnfP g l (sh1 m.d) else (g, l))
    else if m.k = 6 ∧ g.st.ph = 3 ∧ g.au = true then (if ¬ m.r = g.st.fid ∧ m.s = 0 then cnfP g l (sh1 m.d) else (g, l))
    else (g, l))
  else (g, l)
section dls
variable {g : GtP} {l : LdP} {m : Ms}
theorem dl_n (h : ¬ Heed g m) : delvP g l m = (g, l) := by unfold delvP; rw [if_neg h]
theorem dl_4n (h : Heed g m) (h1 : m.k = 4 ∧ g.st.ph = 1) (h2 : m.y = false) : delvP g l m = decP g l false := by unfold delvP; rw [if_pos h, if_pos h1, if_pos h2]
theorem dl_4y (h : Heed g m) (h1 : m.k = 4 ∧ g.st.ph = 1) (h2 : m.y = true) (h3 : orB g.ys (sh1 m.d) = 65535) : delvP g l m = decP { g with ys := orB g.ys (sh1 m.d) } l true := by unfold delvP; rw [if_pos h, if_pos h1, if_neg (by rw [h2]; simp), if_pos h3]
theorem dl_4w (h : Heed g m) (h1 : m.k = 4 ∧ g.st.ph = 1) (h2 : m.y = true) (h3 : ¬ orB g.ys (sh1 m.d) = 65535) : delvP g l m = ({ g with ys := orB g.ys (sh1 m.d) }, l) := by unfold delvP; rw [if_pos h, if_pos h1, if_neg (by rw [h2]; simp), if_neg h3]
theorem dl_5 (h : Heed g m) (h1 : m.k = 5 ∧ ¬ g.st.ph = 1 ∧ g.au = false) : delvP g l m = cnfP g l (sh1 m.d) := by unfold delvP; rw [if_pos h, if_neg (by omega), if_pos h1]
theorem dl_6y (h : Heed g m) (h1 : m.k = 6 ∧ g.st.ph = 2 ∧ g.au = true) (h2 : m.r = g.st.fid ∧ m.s = 0) : delvP g l m = cnfP g l (sh1 m.d) := by unfold delvP; rw [if_pos h, if_neg (by omega), if_neg (by omega), if_pos h1, if_pos h2]
theorem dl_6n (h : Heed g m) (h1 : m.k = 6 ∧ g.st.ph = 2 ∧ g.au = true) (h2 : ¬ (m.r = g.st.fid ∧ m.s = 0)) : delvP g l m = (g, l) := by unfold delvP; rw [if_pos h, if_neg (by omega), if_neg (by omega), if_pos h1, if_neg h2]
theorem dl_7y (h : Heed g m) (h1 : m.k = 6 ∧ g.st.ph = 3 ∧ g.au = true) (h2 : ¬ m.r = g.st.fid ∧ m.s = 0) : delvP g l m = cnfP g l (sh1 m.d) := by unfold delvP; rw [if_pos h, if_neg (by omega), if_neg (by omega), if_neg (by omega), if_pos h1, if_pos h2]
theorem dl_7n (h : Heed g m) (h1 : m.k = 6 ∧ g.st.ph = 3 ∧ g.au = true) (h2 : ¬ (¬ m.r = g.st.fid ∧ m.s = 0)) : delvP g l m = (g, l) := by unfold delvP; rw [if_pos h, if_neg (by omega), if_neg (by omega), if_neg (by omega), if_pos h1, if_neg h2]
theorem dl_x (h : Heed g m) (h1 : ¬ (m.k = 4 ∧ g.st.ph = 1)) (h2 : ¬ (m.k = 5 ∧ ¬ g.st.ph = 1 ∧ g.au = false)) (h3 : ¬ (m.k = 6 ∧ g.st.ph = 2 ∧ g.au = true)) (h4 : ¬ (m.k = 6 ∧ g.st.ph = 3 ∧ g.au = true)) : delvP g l m = (g, l) := by unfold delvP; rw [if_pos h, if_neg h1, if_neg h2, if_neg h3, if_neg h4]
end dls
/-- where a batch stands in the queue -/
def qix (q : List (Int × List Ch)) (id : Int) : Int := match q.findIdx? (fun b => decide (b.1 = id)) with
  | some i => (i : Int)
  | none => -1
theorem find_hit {α : Type} {p : α → Bool} : ∀ {l : List α} {i : Nat} {x : α}, l[i]? = some x → p x = true → (∀ k y, k < i → l[k]? = some y → p y = false) → l.findIdx? p = some i := by
  intro l i x hx hp ha
  rw [List.findIdx?_eq_some_iff_getElem]
  obtain ⟨h1, h2⟩ := List.getElem?_eq_some_iff.1 hx
  refine ⟨h1, by rw [h2]; exact hp, fun j hj => ?_⟩
  have := ha j _ hj (List.getElem?_eq_getElem (by omega))
  rw [this]; simp
theorem find_none {α : Type} {p : α → Bool} {l : List α} (ha : ∀ k y, k < l.length → l[k]? = some y → p y = false) : l.findIdx? p = none := by
  rw [List.findIdx?_eq_none_iff]
  intro x hx
  obtain ⟨k, hk, rfl⟩ := List.mem_iff_getElem.1 hx
  exact ha k _ hk (List.getElem?_eq_getElem hk)
theorem qix_hit {q : List Bt} {id : Int} {i : Nat} {x : Bt} (h : q[i]? = some x) (he : x.id = id) (ha : ∀ k y, k < i → q[k]? = some y → ¬ y.id = id) : qix (q.map btP) id = (i : Int) := by
  unfold qix
  rw [find_hit (i := i) (x := btP x) (by rw [List.getElem?_map, h]; rfl) (decide_eq_true he) (fun k y hk hy => ?_)]
  rw [List.getElem?_map] at hy
  cases hz : q[k]? with
  | none => rw [hz] at hy; cases hy
  | some z => rw [hz] at hy; injection hy with hy; subst hy; exact decide_eq_false (ha k z hk hz)
theorem qix_none {q : List Bt} {id : Int} (ha : ∀ k y, k < q.length → q[k]? = some y → ¬ y.id = id) : qix (q.map btP) id = -1 := by
  unfold qix
  rw [find_none fun k y hk hy => ?_]
  rw [List.getElem?_map] at hy
  cases hz : q[k]? with
  | none => rw [hz] at hy; cases hy
  | some z => rw [hz] at hy; injection hy with hy; subst hy; exact decide_eq_false (ha k z (by rw [List.length_map] at hk; exact hk) hz)
theorem qix_b (q : List (Int × List Ch)) (id : Int) : qix q id = -1 ∨ ∃ i : Nat, qix q id = (i : Int) ∧ i < q.length := by
  unfold qix
  cases h : q.findIdx? (fun b => decide (b.1 = id)) with
  | none => exact .inl rfl
  | some i => exact .inr ⟨i, rfl, (List.findIdx?_eq_some_iff_getElem.1 h).1⟩
/-- where an invariant stands -/
def hix (is : List Iv) (v : Iv) : Int := match is.findIdx? (fun b => decide (b = v)) with
  | some i => (i : Int)
  | none => -1
theorem hix_hit {q : List Iv} {v : Iv} {i : Nat} {x : Iv} (h : q[i]? = some x) (he : x = v) (ha : ∀ k y, k < i → q[k]? = some y → ¬ y = v) : hix q v = (i : Int) := by
  unfold hix
  rw [find_hit h (decide_eq_true he) (fun k y hk hy => decide_eq_false (ha k y hk hy))]
theorem hix_none {q : List Iv} {v : Iv} (ha : ∀ k y, k < q.length → q[k]? = some y → ¬ y = v) : hix q v = -1 := by
  unfold hix
  rw [find_none fun k y hk hy => decide_eq_false (ha k y hk hy)]
theorem hix_b (q : List Iv) (v : Iv) : hix q v = -1 ∨ ∃ i : Nat, hix q v = (i : Int) ∧ i < q.length := by
  unfold hix
  cases h : q.findIdx? (fun b => decide (b = v)) with
  | none => exact .inl rfl
  | some i => exact .inr ⟨i, rfl, (List.findIdx?_eq_some_iff_getElem.1 h).1⟩
theorem all_snoc {α : Type} {l : List α} {i : Nat} {x : α} {p : α → Prop} (ha : ∀ k y, k < i → l[k]? = some y → p y) (hx : l[i]? = some x) (hp : p x) : ∀ k y, k < i + 1 → l[k]? = some y → p y := by
  intro k y hk hy
  by_cases e : k = i
  · subst e; rw [hx] at hy; injection hy with hy; subst hy; exact hp
  · exact ha k y (by omega) hy
/-- an accepted configuration -/
def verP (vs : List (Int × NtP)) (id : Int) : Option NtP := (vs.find? (fun v => decide (v.1 = id))).map Prod.snd
theorem litsI {v : Iv} (h : v.ok) : LitsFit [.int .u8, .int .u8, .int .u8, .int .u8, .int .u8, .int .u8] [.int .u8 v.k, .int .u8 v.a, .int .u8 v.b, .int .u8 v.w, .int .u8 v.da, .int .u8 v.dl] := by
  obtain ⟨h1, h2, h3, h4, h5, h6⟩ := h
  refine ⟨?_⟩
  simp only [LitsOk, litOk, Fits, and_true, true_and]
  omega
theorem eqI {v u : Iv} (h : v.ok) (h' : u.ok) : eqLits [.int .u8 v.k, .int .u8 v.a, .int .u8 v.b, .int .u8 v.w, .int .u8 v.da, .int .u8 v.dl] [.int .u8 u.k, .int .u8 u.a, .int .u8 u.b, .int .u8 u.w, .int .u8 u.da, .int .u8 u.dl] = true ↔ v = u := by
  rw [eqLits_iff (litsI h).ok (litsI h').ok]
  obtain ⟨a1, a2, a3, a4, a5, a6⟩ := v
  obtain ⟨b1, b2, b3, b4, b5, b6⟩ := u
  simp only [List.cons.injEq, Lit.int.injEq, true_and, and_true, Iv.mk.injEq]
theorem eqI_f {v u : Iv} (h : v.ok) (h' : u.ok) (e : eqLits [.int .u8 v.k, .int .u8 v.a, .int .u8 v.b, .int .u8 v.w, .int .u8 v.da, .int .u8 v.dl] [.int .u8 u.k, .int .u8 u.a, .int .u8 u.b, .int .u8 u.w, .int .u8 u.da, .int .u8 u.dl] = false) : ¬ v = u := fun h9 => by rw [(eqI h h').2 h9] at e; cases e
theorem litsP {a b : Int} (h : 0 ≤ a ∧ a ≤ 255) (h2 : 0 ≤ b ∧ b ≤ 255) : LitsFit [.int .u8, .int .u8] [.int .u8 a, .int .u8 b] := by
  refine ⟨?_⟩
  simp only [LitsOk, litOk, Fits, and_true, true_and]
  omega
theorem eqP9 {a b : Int} (h : 0 ≤ a ∧ a ≤ 255) (h2 : 0 ≤ b ∧ b ≤ 255) : eqLits [.int .u8 a, .int .u8 b] [.int .u8 0, .int .u8 0] = decide (a = 0 ∧ b = 0) := by
  have h9 := eqLits_iff (litsP h h2).ok (litsP (a := 0) (b := 0) (by omega) (by omega)).ok
  simp only [List.cons.injEq, Lit.int.injEq, true_and, and_true] at h9
  by_cases e : a = 0 ∧ b = 0
  · rw [h9.2 e, decide_eq_true e]
  · rw [decide_eq_false e]
    cases hq : eqLits [.int .u8 a, .int .u8 b] [.int .u8 0, .int .u8 0] with
    | false => rfl
    | true => exact absurd (h9.1 hq) e
/-- an invariant's shape -/
def wfI (v : Iv) : Bool :=
  if v.k = 0 then decide (v.a < 16) && decide (v.b < 16) && !decide (v.a = v.b) && decide (v.w = 0) && gpF v.da v.dl
  else if v.k = 1 then decide (v.a < 16) && decide (v.b < 16) && !decide (v.a = v.b) && decide (v.w = 0) && decide (v.da = 0 ∧ v.dl = 0)
  else if v.k = 2 then decide (v.a < 16) && decide (v.b < 16) && !decide (v.a = v.b) && decide (v.w < 16) && decide (v.da = 0 ∧ v.dl = 0)
  else if v.k = 3 ∨ v.k = 4 then decide (v = ⟨v.k, 0, 0, 0, 0, 0⟩)
  else false
theorem eqI9 {v : Iv} (h : v.ok) : eqLits [.int .u8 v.k, .int .u8 v.a, .int .u8 v.b, .int .u8 v.w, .int .u8 v.da, .int .u8 v.dl] [.int .u8 v.k, .int .u8 0, .int .u8 0, .int .u8 0, .int .u8 0, .int .u8 0] = decide (v = ⟨v.k, 0, 0, 0, 0, 0⟩) := by
  have h9 := eqI h (u := ⟨v.k, 0, 0, 0, 0, 0⟩) ⟨h.k, by simp, by simp, by simp, by simp, by simp⟩
  by_cases e : v = ⟨v.k, 0, 0, 0, 0, 0⟩
  · rw [decide_eq_true e]; exact h9.2 e
  · rw [decide_eq_false e]
    cases hq : eqLits [.int .u8 v.k, .int .u8 v.a, .int .u8 v.b, .int .u8 v.w, .int .u8 v.da, .int .u8 v.dl] [.int .u8 v.k, .int .u8 0, .int .u8 0, .int .u8 0, .int .u8 0, .int .u8 0] with
    | false => rfl
    | true => exact absurd (h9.1 hq) e


attribute [local irreducible] NtV.k StV.c LdV.c StV.E GtV.c GtV.t orB

set_option maxHeartbeats 4000000 in
theorem tick_spec (Z : List (Nat × Obj)) (gb : Nat) (g : GtV) (l : LdV) (hg : g.ok Z) (hl9 : l.ok Z) (hol : g.out.length ≤ 40) (htk : g.tk ≤ 1000) : Sp Tryz.prog 38 #[.pointer (some ⟨gb, 0, none⟩)] (GF gb g l Z) (fun v F' => v = .tuple #[] ∧ GO gb g.led (tickP g.pl l.pl) Z F') := by
  refine f_enter (args := [.pointer (some ⟨gb, 0, none⟩)]) Tryz.func38 rfl Tryz.ntmps38 rfl ?_
  intro w0 w a hpre hl hh
  generalize hDD : List.map Prod.fst (GF gb g l Z) = D at hh ⊢
  simp only [GF] at hh
  have htk0 := hg.tk
  simp only [slotsFrom, Nat.reduceAdd] at hl
  refine c_seq ?_
  refine c_seq ?_
  refine c_region ?_
  refine wl (wl_val hl rfl trivial (r_move hl rfl) ?_)
  clear hl a; intro a hl
  refine wl (wl_val hl rfl trivial (r_nilCheck hl rfl) ?_)
  clear hl a; intro a hl
  refine wl (wl_val hl rfl trivial (r_field hl rfl fld127_10) ?_)
  clear hl a; intro a hl
  refine wl (w_load hl hh rfl trivial one4 rfl (by repeat (first | exact find_head | apply find_tail | apply find_skip)) (by first | exact gtc_led _ | exact gtc_ep _ | exact gtc_vs _ | exact gtc_is _ | exact gtc_fid _ | exact gtc_ph _ | exact gtc_vd _ | exact gtc_q _ | exact gtc_rf _ | exact gtc_ys _ | exact gtc_dn _ | exact gtc_tk _ | exact gtc_au _ | exact gtc_o _ | exact gtc_off _ | rfl) ?_)
  clear hl a; intro a hl
  refine w_nil ?_
  have hl2 := hl.add (t := 0) (hl.add (t := 5) (hl.nil) rfl) rfl; clear hl; have hl := hl2; clear hl2
  refine then_normal ?_
  refine c_cond hl rfl ?_ ?_
  · intro hc0
    try simp only [decide_eq_true_eq, decide_eq_false_iff_not, Bool.not_eq_true', Bool.not_eq_false', Bool.not_eq_true, Bool.not_eq_false, Bool.and_eq_true, Bool.or_eq_true, Bool.and_eq_false_iff, Bool.or_eq_false_iff, Bool.not_not, ne_eq, Int.not_lt, Int.not_le, Decidable.not_not, beq_iff_eq, bne_iff_ne] at hc0
    have hf := tk_off (g := g.pl) (l := l.pl) hc0
    refine wp_ret ?_
    refine then_ret ?_
    refine f_ret0 (F' := (gb, C (GtV.c g) 127) :: (g.st.E ++ (g.qE ++ ((g.rb, MD (kInt .u32) g.rl g.rn) :: (g.oE ++ ((g.led, C (LdV.c l) 91) :: (l.d.E ++ Z))))))) hl hh rfl (by repeat (first | exact keeps_nil | apply keeps_cons (by repeat (first | exact find_head | apply find_tail | apply find_skip)) (by first  | rfl) | exact keeps_self | exact keeps_left | apply keeps_app | apply keeps_mv | apply keeps_skip)) ?_
    exact ⟨rfl, GO.same hg hl9 (by rw [hf]) (by rw [hf]) rfl⟩
  · intro hc0
    try simp only [decide_eq_true_eq, decide_eq_false_iff_not, Bool.not_eq_true', Bool.not_eq_false', Bool.not_eq_true, Bool.not_eq_false, Bool.and_eq_true, Bool.or_eq_true, Bool.and_eq_false_iff, Bool.or_eq_false_iff, Bool.not_not, ne_eq, Int.not_lt, Int.not_le, Decidable.not_not, beq_iff_eq, bne_iff_ne] at hc0
    refine wp_skip ?_
    refine then_normal ?_
    refine c_seq ?_
    refine c_region ?_
    refine wl (wl_val hl rfl trivial (r_move hl rfl) ?_)
    clear hl a; intro a hl
    refine wl (wl_val hl rfl trivial (r_nilCheck hl rfl) ?_)
    clear hl a; intro a hl
    refine wl (wl_val hl rfl trivial (r_field hl rfl fld127_1) ?_)
    clear hl a; intro a hl
    refine wl (wl_val hl rfl trivial (r_field hl rfl fld89_3) ?_)
    clear hl a; intro a hl
    refine wl (wl_val hl rfl trivial (r_field hl rfl fld87_1) ?_)
    clear hl a; intro a hl
    refine wl (w_load hl hh rfl trivial one76 rfl (by repeat (first | exact find_head | apply find_tail | apply find_skip)) (by first | exact gtc_led _ | exact gtc_ep _ | exact gtc_vs _ | exact gtc_is _ | exact gtc_fid _ | exact gtc_ph _ | exact gtc_vd _ | exact gtc_q _ | exact gtc_rf _ | exact gtc_ys _ | exact gtc_dn _ | exact gtc_tk _ | exact gtc_au _ | exact gtc_o _ | exact gtc_off _ | rfl) ?_)
    clear hl a; intro a hl
    refine w_nil ?_
    have hl2 := hl.add (t := 0) (hl.add (t := 11) (hl.nil) rfl) rfl; clear hl; have hl := hl2; clear hl2
    refine then_normal ?_
    refine wp_block ?_
    refine c_seq ?_
    refine c_region ?_
    refine wl (wl_val hl rfl trivial (r_eql hl rfl rfl) ?_)
    clear hl a; intro a hl
    refine wl (wl_val hl rfl trivial (r_assign hl rfl) ?_)
    clear hl a; intro a hl
    refine w_nil ?_
    have hl2 := hl.add (t := 0) (hl.add (t := 11) (hl.add (t := 14) (hl.nil) rfl) rfl) rfl; clear hl; have hl := hl2; clear hl2
    refine then_normal ?_
    refine c_cond hl rfl ?_ ?_
    · intro hc1
      try simp only [decide_eq_true_eq, decide_eq_false_iff_not, Bool.not_eq_true', Bool.not_eq_false', Bool.not_eq_true, Bool.not_eq_false, Bool.and_eq_true, Bool.or_eq_true, Bool.and_eq_false_iff, Bool.or_eq_false_iff, Bool.not_not, ne_eq, Int.not_lt, Int.not_le, Decidable.not_not, beq_iff_eq, bne_iff_ne] at hc1
      have hf := tk_0 (g := g.pl) (l := l.pl) hc0 hc1
      refine c_region ?_
      refine wl (wl_val hl rfl trivial (r_move hl rfl) ?_)
      clear hl a; intro a hl
      refine wl (w_call hl hh rfl trivial rfl cal51 rfl (start_spec Z gb g l hg hl9 hol) (by repeat (first | exact keeps_nil | apply keeps_cons (by repeat (first | exact find_head | apply find_tail | apply find_skip)) (by first  | rfl) | exact keeps_self | exact keeps_left | apply keeps_app | apply keeps_mv | apply keeps_skip)) trivial ?_)
      clear hl hh a w; intro vc Fc a w hR hl hh
      obtain ⟨rfl, g', l', G9, he9, hg', hl', hp1, hp2, rfl⟩ := hR
      try simp only [List.cons_append, List.nil_append, List.append_assoc, List.append_nil] at hh
      refine w_nil ?_
      have hl2 := hl.nil; clear hl; have hl := hl2; clear hl2
      refine blk_normal ?_
      first
      | (have hqq := hc3; first | (refine f_end0 (F' := GF gb g' l' (Z ++ G9)) hl hh rfl (by repeat (first | exact keeps_nil | apply keeps_cons (by repeat (first | exact find_head | apply find_tail | apply find_skip)) (by first  | rfl) | exact keeps_self | exact keeps_left | apply keeps_app | apply keeps_mv | apply keeps_skip)) ?_; exact ⟨rfl, g', l', G9, he9, hg', hl', hp1.trans (by rw [hf]; rfl), hp2.trans (by rw [hf]; rfl), rfl⟩) | (refine f_end0 (F' := (gb, C (GtV.c { g with tk := g.tk + 1, out := g.out ++ pushP (GtV.pl { g with tk := g.tk + 1 }), op := p6, oc := c6, oE := E6 }) 127) :: (g.st.E ++ (g.qE ++ ((g.rb, MD (kInt .u32) g.rl g.rn) :: (E6 ++ ((g.led, C (LdV.c l) 91) :: (l.d.E ++ Z))))))) hl hh rfl (by repeat (first | exact keeps_nil | apply keeps_cons (by repeat (first | exact find_head | apply find_tail | apply find_skip)) (by first  | rfl) | exact keeps_self | exact keeps_left | apply keeps_app | apply keeps_mv | apply keeps_skip)) ?_; exact ⟨rfl, GO.same (g' := { g with tk := g.tk + 1, out := g.out ++ pushP (GtV.pl { g with tk := g.tk + 1 }), op := p6, oc := c6, oE := E6 }) (put_ok hg hg.st (by have := push_len (GtV.pl { g with tk := g.tk + 1 }); omega) hol hR6 (push_ok hg.st.ep hg.st.fid) hg.ys hg.dn (by omega) g.au g.sl) hl9 (by rw [hf]; rfl) (by rw [hf]) rfl⟩))
      | (have hqq := hc2; refine f_end0 (F' := (gb, C (GtV.c { g with out := g.out ++ pushP g.pl, op := p6, oc := c6, oE := E6 }) 127) :: (g.st.E ++ (g.qE ++ ((g.rb, MD (kInt .u32) g.rl g.rn) :: (E6 ++ ((g.led, C (LdV.c l) 91) :: (l.d.E ++ Z))))))) hl hh rfl (by repeat (first | exact keeps_nil | apply keeps_cons (by repeat (first | exact find_head | apply find_tail | apply find_skip)) (by first  | rfl) | exact keeps_self | exact keeps_left | apply keeps_app | apply keeps_mv | apply keeps_skip)) ?_; exact ⟨rfl, GO.same (g' := { g with out := g.out ++ pushP g.pl, op := p6, oc := c6, oE := E6 }) (put_ok hg hg.st (by have := push_len g.pl; omega) hol hR6 (push_ok hg.st.ep hg.st.fid) hg.ys hg.dn hg.tk g.au g.sl) hl9 (by rw [hf]; rfl) (by rw [hf]) rfl⟩)
      | (refine f_end0 (F' := GF gb g' l' (Z ++ G9)) hl hh rfl (by repeat (first | exact keeps_nil | apply keeps_cons (by repeat (first | exact find_head | apply find_tail | apply find_skip)) (by first  | rfl) | exact keeps_self | exact keeps_left | apply keeps_app | apply keeps_mv | apply keeps_skip)) ?_; exact ⟨rfl, g', l', G9, he9, hg', hl', hp1.trans (by rw [hf]), hp2.trans (by rw [hf]), rfl⟩)
    · intro hc1
      try simp only [decide_eq_true_eq, decide_eq_false_iff_not, Bool.not_eq_true', Bool.not_eq_false', Bool.not_eq_true, Bool.not_eq_false, Bool.and_eq_true, Bool.or_eq_true, Bool.and_eq_false_iff, Bool.or_eq_false_iff, Bool.not_not, ne_eq, Int.not_lt, Int.not_le, Decidable.not_not, beq_iff_eq, bne_iff_ne] at hc1
      refine c_seq ?_
      refine c_region ?_
      refine wl (wl_val hl rfl trivial (r_eql hl rfl rfl) ?_)
      clear hl a; intro a hl
      refine wl (wl_val hl rfl trivial (r_assign hl rfl) ?_)
      clear hl a; intro a hl
      refine w_nil ?_
      have hl2 := hl.add (t := 0) (hl.add (t := 18) (hl.nil) rfl) rfl; clear hl; have hl := hl2; clear hl2
      refine then_normal ?_
      refine c_cond hl rfl ?_ ?_
      · intro hc2
        try simp only [decide_eq_true_eq, decide_eq_false_iff_not, Bool.not_eq_true', Bool.not_eq_false', Bool.not_eq_true, Bool.not_eq_false, Bool.and_eq_true, Bool.or_eq_true, Bool.and_eq_false_iff, Bool.or_eq_false_iff, Bool.not_not, ne_eq, Int.not_lt, Int.not_le, Decidable.not_not, beq_iff_eq, bne_iff_ne] at hc2
        refine c_seq ?_
        refine c_region ?_
        refine wl (wl_val hl rfl trivial (r_move hl rfl) ?_)
        clear hl a; intro a hl
        refine wl (wl_val hl rfl trivial (r_nilCheck hl rfl) ?_)
        clear hl a; intro a hl
        refine wl (wl_val hl rfl trivial (r_field hl rfl fld127_7) ?_)
        clear hl a; intro a hl
        refine wl (w_load hl hh rfl trivial one3 rfl (by repeat (first | exact find_head | apply find_tail | apply find_skip)) (by first | exact gtc_led _ | exact gtc_ep _ | exact gtc_vs _ | exact gtc_is _ | exact gtc_fid _ | exact gtc_ph _ | exact gtc_vd _ | exact gtc_q _ | exact gtc_rf _ | exact gtc_ys _ | exact gtc_dn _ | exact gtc_tk _ | exact gtc_au _ | exact gtc_o _ | exact gtc_off _ | rfl) ?_)
        clear hl a; intro a hl
        first | refine wl (wl_val hl rfl trivial (r_add hl rfl rfl (by simp only [Fits]; omega)) ?_) | refine wl (wl_val hl rfl trivial (r_addW hl rfl rfl) ?_)
        clear hl a; intro a hl
        refine wl (wl_val hl rfl trivial (r_nilCheck hl rfl) ?_)
        clear hl a; intro a hl
        refine wl (wl_val hl rfl trivial (r_field hl rfl fld127_7) ?_)
        clear hl a; intro a hl
        refine wl (w_store hl hh trivial one3 rfl rfl (by repeat (first | exact find_head | apply find_tail | apply find_skip)) (by first | (simp; done) | (simp; omega) | (rw [gtc_len]; omega) | (rw [gtc_len]; simp; done)) (by first | rfl | assumption | (apply Row.one; assumption)) (by first | exact gtc_sys _ _ | exact gtc_sdn _ _ | exact gtc_stk _ _ | exact gtc_sau _ _ | exact gtc_soff _ _ | (simp only [setL, List.getElem?_cons_zero, List.getElem?_cons_succ, Value.cells, List.take_zero, List.take_succ_cons, List.take_nil, List.drop_zero, List.drop_succ_cons, List.drop_nil, List.length_cons, List.length_nil, List.cons_append, List.nil_append, List.append_nil, Nat.zero_add, Nat.add_zero, Nat.reduceAdd, Nat.reduceBEq, Nat.reduceEqDiff, Nat.ble, BEq.rfl, Bool.and_true, Bool.and_self, cond_true, beq_self_eq_true]; rfl)) ?_)
        clear hh w; intro w hh
        refine w_nil ?_
        have hl2 := hl.add (t := 0) (hl.nil) rfl; clear hl; have hl := hl2; clear hl2
        refine then_normal ?_
        refine c_seq ?_
        refine c_region ?_
        refine wl (wl_val hl rfl trivial (r_move hl rfl) ?_)
        clear hl a; intro a hl
        refine wl (wl_val hl rfl trivial (r_nilCheck hl rfl) ?_)
        clear hl a; intro a hl
        refine wl (wl_val hl rfl trivial (r_field hl rfl fld127_7) ?_)
        clear hl a; intro a hl
        refine wl (w_load hl hh rfl trivial one3 rfl (by repeat (first | exact find_head | apply find_tail | apply find_skip)) (by first | exact gtc_led _ | exact gtc_ep _ | exact gtc_vs _ | exact gtc_is _ | exact gtc_fid _ | exact gtc_ph _ | exact gtc_vd _ | exact gtc_q _ | exact gtc_rf _ | exact gtc_ys _ | exact gtc_dn _ | exact gtc_tk _ | exact gtc_au _ | exact gtc_o _ | exact gtc_off _ | rfl) ?_)
        clear hl a; intro a hl
        refine wl (wl_val hl rfl trivial (r_geq hl rfl rfl) ?_)
        clear hl a; intro a hl
        refine w_nil ?_
        have hl2 := hl.add (t := 0) (hl.add (t := 31) (hl.nil) rfl) rfl; clear hl; have hl := hl2; clear hl2
        refine then_normal ?_
        refine c_cond hl rfl ?_ ?_
        · intro hc3
          try simp only [decide_eq_true_eq, decide_eq_false_iff_not, Bool.not_eq_true', Bool.not_eq_false', Bool.not_eq_true, Bool.not_eq_false, Bool.and_eq_true, Bool.or_eq_true, Bool.and_eq_false_iff, Bool.or_eq_false_iff, Bool.not_not, ne_eq, Int.not_lt, Int.not_le, Decidable.not_not, beq_iff_eq, bne_iff_ne] at hc3
          have hf := tk_1t (g := g.pl) (l := l.pl) hc0 hc2 hc3
          refine c_region ?_
          refine wl (wl_val hl rfl trivial (r_move hl rfl) ?_)
          clear hl a; intro a hl
          refine wl (w_call hl hh rfl trivial rfl cal47 rfl (decide_spec Z gb { g with tk := g.tk + 1 } l (tk_ok hg (by omega)) hl9 hol false) (by repeat (first | exact keeps_nil | apply keeps_cons (by repeat (first | exact find_head | apply find_tail | apply find_skip)) (by first  | rfl) | exact keeps_self | exact keeps_left | apply keeps_app | apply keeps_mv | apply keeps_skip)) trivial ?_)
          clear hl hh a w; intro vc Fc a w hR hl hh
          obtain ⟨rfl, g', l', G9, he9, hg', hl', hp1, hp2, rfl⟩ := hR
          try simp only [List.cons_append, List.nil_append, List.append_assoc, List.append_nil] at hh
          refine w_nil ?_
          have hl2 := hl.nil; clear hl; have hl := hl2; clear hl2
          refine blk_normal ?_
          first
          | (have hqq := hc3; first | (refine f_end0 (F' := GF gb g' l' (Z ++ G9)) hl hh rfl (by repeat (first | exact keeps_nil | apply keeps_cons (by repeat (first | exact find_head | apply find_tail | apply find_skip)) (by first  | rfl) | exact keeps_self | exact keeps_left | apply keeps_app | apply keeps_mv | apply keeps_skip)) ?_; exact ⟨rfl, g', l', G9, he9, hg', hl', hp1.trans (by rw [hf]; rfl), hp2.trans (by rw [hf]; rfl), rfl⟩) | (refine f_end0 (F' := (gb, C (GtV.c { g with tk := g.tk + 1, out := g.out ++ pushP (GtV.pl { g with tk := g.tk + 1 }), op := p6, oc := c6, oE := E6 }) 127) :: (g.st.E ++ (g.qE ++ ((g.rb, MD (kInt .u32) g.rl g.rn) :: (E6 ++ ((g.led, C (LdV.c l) 91) :: (l.d.E ++ Z))))))) hl hh rfl (by repeat (first | exact keeps_nil | apply keeps_cons (by repeat (first | exact find_head | apply find_tail | apply find_skip)) (by first  | rfl) | exact keeps_self | exact keeps_left | apply keeps_app | apply keeps_mv | apply keeps_skip)) ?_; exact ⟨rfl, GO.same (g' := { g with tk := g.tk + 1, out := g.out ++ pushP (GtV.pl { g with tk := g.tk + 1 }), op := p6, oc := c6, oE := E6 }) (put_ok hg hg.st (by have := push_len (GtV.pl { g with tk := g.tk + 1 }); omega) hol hR6 (push_ok hg.st.ep hg.st.fid) hg.ys hg.dn (by omega) g.au g.sl) hl9 (by rw [hf]; rfl) (by rw [hf]) rfl⟩))
          | (have hqq := hc2; refine f_end0 (F' := (gb, C (GtV.c { g with out := g.out ++ pushP g.pl, op := p6, oc := c6, oE := E6 }) 127) :: (g.st.E ++ (g.qE ++ ((g.rb, MD (kInt .u32) g.rl g.rn) :: (E6 ++ ((g.led, C (LdV.c l) 91) :: (l.d.E ++ Z))))))) hl hh rfl (by repeat (first | exact keeps_nil | apply keeps_cons (by repeat (first | exact find_head | apply find_tail | apply find_skip)) (by first  | rfl) | exact keeps_self | exact keeps_left | apply keeps_app | apply keeps_mv | apply keeps_skip)) ?_; exact ⟨rfl, GO.same (g' := { g with out := g.out ++ pushP g.pl, op := p6, oc := c6, oE := E6 }) (put_ok hg hg.st (by have := push_len g.pl; omega) hol hR6 (push_ok hg.st.ep hg.st.fid) hg.ys hg.dn hg.tk g.au g.sl) hl9 (by rw [hf]; rfl) (by rw [hf]) rfl⟩)
          | (refine f_end0 (F' := GF gb g' l' (Z ++ G9)) hl hh rfl (by repeat (first | exact keeps_nil | apply keeps_cons (by repeat (first | exact find_head | apply find_tail | apply find_skip)) (by first  | rfl) | exact keeps_self | exact keeps_left | apply keeps_app | apply keeps_mv | apply keeps_skip)) ?_; exact ⟨rfl, g', l', G9, he9, hg', hl', hp1.trans (by rw [hf]), hp2.trans (by rw [hf]), rfl⟩)
        · intro hc3
          try simp only [decide_eq_true_eq, decide_eq_false_iff_not, Bool.not_eq_true', Bool.not_eq_false', Bool.not_eq_true, Bool.not_eq_false, Bool.and_eq_true, Bool.or_eq_true, Bool.and_eq_false_iff, Bool.or_eq_false_iff, Bool.not_not, ne_eq, Int.not_lt, Int.not_le, Decidable.not_not, beq_iff_eq, bne_iff_ne] at hc3
          have hf := tk_1f (g := g.pl) (l := l.pl) hc0 hc2 (by show ¬ 8 ≤ g.tk + 1; omega)
          refine c_region ?_
          refine wl (wl_val hl rfl trivial (r_move hl rfl) ?_)
          clear hl a; intro a hl
          refine wl (w_call hl hh rfl trivial rfl cal31 rfl (push_spec gb { g with tk := g.tk + 1 } hg.o (show g.out.length ≤ 60 by omega) hg.st.ph) (by repeat (first | exact keeps_nil | apply keeps_cons (by repeat (first | exact find_head | apply find_tail | apply find_skip)) (by first  | rfl) | exact keeps_self | exact keeps_left | apply keeps_app | apply keeps_mv | apply keeps_skip)) trivial ?_)
          clear hl hh a w; intro vc Fc a w hR hl hh
          obtain ⟨rfl, p6, c6, E6, hR6, rfl⟩ := hR
          try simp only [List.cons_append, List.nil_append, List.append_assoc, List.append_nil] at hh
          refine w_nil ?_
          have hl2 := hl.nil; clear hl; have hl := hl2; clear hl2
          refine blk_normal ?_
          first
          | (have hqq := hc3; first | (refine f_end0 (F' := GF gb g' l' (Z ++ G9)) hl hh rfl (by repeat (first | exact keeps_nil | apply keeps_cons (by repeat (first | exact find_head | apply find_tail | apply find_skip)) (by first  | rfl) | exact keeps_self | exact keeps_left | apply keeps_app | apply keeps_mv | apply keeps_skip)) ?_; exact ⟨rfl, g', l', G9, he9, hg', hl', hp1.trans (by rw [hf]; rfl), hp2.trans (by rw [hf]; rfl), rfl⟩) | (refine f_end0 (F' := (gb, C (GtV.c { g with tk := g.tk + 1, out := g.out ++ pushP (GtV.pl { g with tk := g.tk + 1 }), op := p6, oc := c6, oE := E6 }) 127) :: (g.st.E ++ (g.qE ++ ((g.rb, MD (kInt .u32) g.rl g.rn) :: (E6 ++ ((g.led, C (LdV.c l) 91) :: (l.d.E ++ Z))))))) hl hh rfl (by repeat (first | exact keeps_nil | apply keeps_cons (by repeat (first | exact find_head | apply find_tail | apply find_skip)) (by first  | rfl) | exact keeps_self | exact keeps_left | apply keeps_app | apply keeps_mv | apply keeps_skip)) ?_; exact ⟨rfl, GO.same (g' := { g with tk := g.tk + 1, out := g.out ++ pushP (GtV.pl { g with tk := g.tk + 1 }), op := p6, oc := c6, oE := E6 }) (put_ok hg hg.st (by have := push_len (GtV.pl { g with tk := g.tk + 1 }); omega) hol hR6 (push_ok hg.st.ep hg.st.fid) hg.ys hg.dn (by omega) g.au g.sl) hl9 (by rw [hf]; rfl) (by rw [hf]) rfl⟩))
          | (have hqq := hc2; refine f_end0 (F' := (gb, C (GtV.c { g with out := g.out ++ pushP g.pl, op := p6, oc := c6, oE := E6 }) 127) :: (g.st.E ++ (g.qE ++ ((g.rb, MD (kInt .u32) g.rl g.rn) :: (E6 ++ ((g.led, C (LdV.c l) 91) :: (l.d.E ++ Z))))))) hl hh rfl (by repeat (first | exact keeps_nil | apply keeps_cons (by repeat (first | exact find_head | apply find_tail | apply find_skip)) (by first  | rfl) | exact keeps_self | exact keeps_left | apply keeps_app | apply keeps_mv | apply keeps_skip)) ?_; exact ⟨rfl, GO.same (g' := { g with out := g.out ++ pushP g.pl, op := p6, oc := c6, oE := E6 }) (put_ok hg hg.st (by have := push_len g.pl; omega) hol hR6 (push_ok hg.st.ep hg.st.fid) hg.ys hg.dn hg.tk g.au g.sl) hl9 (by rw [hf]; rfl) (by rw [hf]) rfl⟩)
          | (refine f_end0 (F' := GF gb g' l' (Z ++ G9)) hl hh rfl (by repeat (first | exact keeps_nil | apply keeps_cons (by repeat (first | exact find_head | apply find_tail | apply find_skip)) (by first  | rfl) | exact keeps_self | exact keeps_left | apply keeps_app | apply keeps_mv | apply keeps_skip)) ?_; exact ⟨rfl, g', l', G9, he9, hg', hl', hp1.trans (by rw [hf]), hp2.trans (by rw [hf]), rfl⟩)
      · intro hc2
        try simp only [decide_eq_true_eq, decide_eq_false_iff_not, Bool.not_eq_true', Bool.not_eq_false', Bool.not_eq_true, Bool.not_eq_false, Bool.and_eq_true, Bool.or_eq_true, Bool.and_eq_false_iff, Bool.or_eq_false_iff, Bool.not_not, ne_eq, Int.not_lt, Int.not_le, Decidable.not_not, beq_iff_eq, bne_iff_ne] at hc2
        have hf := tk_2 (g := g.pl) (l := l.pl) hc0 hc1 hc2
        refine c_region ?_
        refine wl (wl_val hl rfl trivial (r_move hl rfl) ?_)
        clear hl a; intro a hl
        refine wl (w_call hl hh rfl trivial rfl cal31 rfl (push_spec gb g hg.o (show g.out.length ≤ 60 by omega) hg.st.ph) (by repeat (first | exact keeps_nil | apply keeps_cons (by repeat (first | exact find_head | apply find_tail | apply find_skip)) (by first  | rfl) | exact keeps_self | exact keeps_left | apply keeps_app | apply keeps_mv | apply keeps_skip)) trivial ?_)
        clear hl hh a w; intro vc Fc a w hR hl hh
        obtain ⟨rfl, p6, c6, E6, hR6, rfl⟩ := hR
        try simp only [List.cons_append, List.nil_append, List.append_assoc, List.append_nil] at hh
        refine w_nil ?_
        have hl2 := hl.nil; clear hl; have hl := hl2; clear hl2
        refine blk_normal ?_
        first
        | (have hqq := hc3; first | (refine f_end0 (F' := GF gb g' l' (Z ++ G9)) hl hh rfl (by repeat (first | exact keeps_nil | apply keeps_cons (by repeat (first | exact find_head | apply find_tail | apply find_skip)) (by first  | rfl) | exact keeps_self | exact keeps_left | apply keeps_app | apply keeps_mv | apply keeps_skip)) ?_; exact ⟨rfl, g', l', G9, he9, hg', hl', hp1.trans (by rw [hf]; rfl), hp2.trans (by rw [hf]; rfl), rfl⟩) | (refine f_end0 (F' := (gb, C (GtV.c { g with tk := g.tk + 1, out := g.out ++ pushP (GtV.pl { g with tk := g.tk + 1 }), op := p6, oc := c6, oE := E6 }) 127) :: (g.st.E ++ (g.qE ++ ((g.rb, MD (kInt .u32) g.rl g.rn) :: (E6 ++ ((g.led, C (LdV.c l) 91) :: (l.d.E ++ Z))))))) hl hh rfl (by repeat (first | exact keeps_nil | apply keeps_cons (by repeat (first | exact find_head | apply find_tail | apply find_skip)) (by first  | rfl) | exact keeps_self | exact keeps_left | apply keeps_app | apply keeps_mv | apply keeps_skip)) ?_; exact ⟨rfl, GO.same (g' := { g with tk := g.tk + 1, out := g.out ++ pushP (GtV.pl { g with tk := g.tk + 1 }), op := p6, oc := c6, oE := E6 }) (put_ok hg hg.st (by have := push_len (GtV.pl { g with tk := g.tk + 1 }); omega) hol hR6 (push_ok hg.st.ep hg.st.fid) hg.ys hg.dn (by omega) g.au g.sl) hl9 (by rw [hf]; rfl) (by rw [hf]) rfl⟩))
        | (have hqq := hc2; refine f_end0 (F' := (gb, C (GtV.c { g with out := g.out ++ pushP g.pl, op := p6, oc := c6, oE := E6 }) 127) :: (g.st.E ++ (g.qE ++ ((g.rb, MD (kInt .u32) g.rl g.rn) :: (E6 ++ ((g.led, C (LdV.c l) 91) :: (l.d.E ++ Z))))))) hl hh rfl (by repeat (first | exact keeps_nil | apply keeps_cons (by repeat (first | exact find_head | apply find_tail | apply find_skip)) (by first  | rfl) | exact keeps_self | exact keeps_left | apply keeps_app | apply keeps_mv | apply keeps_skip)) ?_; exact ⟨rfl, GO.same (g' := { g with out := g.out ++ pushP g.pl, op := p6, oc := c6, oE := E6 }) (put_ok hg hg.st (by have := push_len g.pl; omega) hol hR6 (push_ok hg.st.ep hg.st.fid) hg.ys hg.dn hg.tk g.au g.sl) hl9 (by rw [hf]; rfl) (by rw [hf]) rfl⟩)
        | (refine f_end0 (F' := GF gb g' l' (Z ++ G9)) hl hh rfl (by repeat (first | exact keeps_nil | apply keeps_cons (by repeat (first | exact find_head | apply find_tail | apply find_skip)) (by first  | rfl) | exact keeps_self | exact keeps_left | apply keeps_app | apply keeps_mv | apply keeps_skip)) ?_; exact ⟨rfl, g', l', G9, he9, hg', hl', hp1.trans (by rw [hf]), hp2.trans (by rw [hf]), rfl⟩)
end Go.Proofs.Qxb6500908aGreat

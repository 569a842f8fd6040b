import Derived.Test.Qxb6500908aGreatW15
import Derived.Test.Qxb6500908aGreatW16
import Derived.Test.Qxb6500908aGreatU6
namespace Go.Proofs.Qxb6500908aGreat
open Go.Eng
set_option linter.unusedVariables false
set_option linter.unusedSimpArgs false
theorem zero128 : zeroOk Tryz.prog 128 (.int .u8 0) := by unfold zeroOk; kernel_rfl
theorem cal44 : callable Tryz.prog 44 = true := by kernel_rfl
/-- what a batch's number is told -/
def statP (g : GtP) (id : Int) : Int :=
  if g.off then 14 else match g.st.vd id with
  | some c => c
  | none => if ¬ g.st.ph = 0 ∧ g.st.fid = id then 2 else if 0 ≤ qix g.q id then 1 else match g.rf id with
    | some c => c
    | none => 5
section sts
variable {g : GtP} {id c : Int}
theorem sx_off (h : g.off = true) : statP g id = 14 := by unfold statP; rw [if_pos h]
theorem sx_v (h : g.off = false) (h1 : g.st.vd id = some c) : statP g id = c := by unfold statP; rw [if_neg (by rw [h]; simp), h1]
theorem sx_f (h : g.off = false) (h1 : g.st.vd id = none) (h2 : ¬ g.st.ph = 0 ∧ g.st.fid = id) : statP g id = 2 := by unfold statP; rw [if_neg (by rw [h]; simp), h1]; simp only; rw [if_pos h2]
theorem sx_q (h : g.off = false) (h1 : g.st.vd id = none) (h2 : ¬ (¬ g.st.ph = 0 ∧ g.st.fid = id)) (h3 : 0 ≤ qix g.q id) : statP g id = 1 := by unfold statP; rw [if_neg (by rw [h]; simp), h1]; simp only; rw [if_neg h2, if_pos h3]
theorem sx_rf (h : g.off = false) (h1 : g.st.vd id = none) (h2 : ¬ (¬ g.st.ph = 0 ∧ g.st.fid = id)) (h3 : ¬ 0 ≤ qix g.q id) (h4 : g.rf id = some c) : statP g id = c := by unfold statP; rw [if_neg (by rw [h]; simp), h1]; simp only; rw [if_neg h2, if_neg h3, h4]
theorem sx_un (h : g.off = false) (h1 : g.st.vd id = none) (h2 : ¬ (¬ g.st.ph = 0 ∧ g.st.fid = id)) (h3 : ¬ 0 ≤ qix g.q id) (h4 : g.rf id = none) : statP g id = 5 := by unfold statP; rw [if_neg (by rw [h]; simp), h1]; simp only; rw [if_neg h2, if_neg h3, h4]
end sts
theorem vdx {Z : List (Nat × Obj)} {s : StV} (h : s.ok Z) (id : Int) : (∃ c, mget s.vd id = some (.int .u8 c) ∧ 0 ≤ c ∧ c ≤ 255 ∧ s.pl.vd id = some c) ∨ (mget s.vd id = none ∧ s.pl.vd id = none) := by
  cases hm : mget s.vd id with
  | none => exact .inr ⟨rfl, by show vdN (mget s.vd id) = none; rw [hm]; rfl⟩
  | some v =>
    obtain ⟨c, rfl, h1, h2⟩ := h.vd id v hm
    exact .inl ⟨c, rfl, h1, h2, by show vdN (mget s.vd id) = some c; rw [hm]; rfl⟩
theorem rfx {Z : List (Nat × Obj)} {g : GtV} (h : g.ok Z) (id : Int) : (∃ c, dget g.rl id = some (.int .u8 c) ∧ 0 ≤ c ∧ c ≤ 255 ∧ g.pl.rf id = some c) ∨ (dget g.rl id = none ∧ g.pl.rf id = none) := by
  cases hm : dget g.rl id with
  | none => exact .inr ⟨rfl, by show vdN (dget g.rl id) = none; rw [hm]; rfl⟩
  | some v =>
    obtain ⟨c, rfl, h1, h2⟩ := h.rv id v hm
    exact .inl ⟨c, rfl, h1, h2, by show vdN (dget g.rl id) = some c; rw [hm]; rfl⟩
/-- a transaction that opens new work, and its answer -/
def txP (g : GtP) (l : LdP) (s : StP) : (GtP × LdP) × Int :=
  if (admitP l s).2 = 0 then (({ g with st := s }, (admitP l s).1), 0) else if (admitP l s).2 = 1 then ((g, (admitP l s).1), 11) else ((g.offd, (admitP l s).1), 14)
theorem tx_0 {g : GtP} {l : LdP} {s : StP} (h : (admitP l s).2 = 0) : txP g l s = (({ g with st := s }, (admitP l s).1), 0) := by unfold txP; rw [if_pos h]
theorem tx_1 {g : GtP} {l : LdP} {s : StP} (h : (admitP l s).2 = 1) : txP g l s = ((g, (admitP l s).1), 11) := by unfold txP; rw [if_neg (by omega), if_pos h]
theorem tx_2 {g : GtP} {l : LdP} {s : StP} (h : (admitP l s).2 = 2) : txP g l s = ((g.offd, (admitP l s).1), 14) := by unfold txP; rw [if_neg (by omega), if_neg (by omega)]
def abS (g : GtP) (id : Int) : StP := { g.st with vd := rfU g.st.vd id 4 }
def abC (c : Int) : Int := if c = 14 then 14 else if c = 4 then 4 else if c = 3 then 13 else 5
def abR (g : GtP) (l : LdP) (id : Int) : GtP × LdP := if g.st.ph = 1 ∧ g.st.fid = id then decP g l false else (g, l)
/-- a batch is stopped -/
def abortP (g : GtP) (l : LdP) (id : Int) : (GtP × LdP) × Int :=
  if g.off then ((g, l), 14)
  else if 0 ≤ qix g.q id then
    (if (txP g l (abS g id)).2 = 0 then (({ g with st := abS g id, q := delP g.q (qix g.q id).toNat }, (admitP l (abS g id)).1), 4) else txP g l (abS g id))
  else (abR g l id, abC (statP (abR g l id).1 id))
/-- an invariant is stored, or dropped -/
def addP (g : GtP) (l : LdP) (v : Iv) : (GtP × LdP) × Int :=
  if g.off then ((g, l), 14) else if wfI v = false then ((g, l), 12) else if 0 ≤ hix g.st.is v then ((g, l), 0) else if 16 ≤ g.st.is.length then ((g, l), 12)
  else txP g l { g.st with is := g.st.is ++ [v] }
def dropP (g : GtP) (l : LdP) (v : Iv) : (GtP × LdP) × Int :=
  if g.off then ((g, l), 14) else if hix g.st.is v < 0 then ((g, l), 5)
  else txP g l { g.st with is := delP g.st.is (hix g.st.is v).toNat }
section cms
variable {g : GtP} {l : LdP} {v : Iv} {id : Int}
theorem ab_off (h : g.off = true) : abortP g l id = ((g, l), 14) := by unfold abortP; rw [if_pos h]
theorem ab_q0 (h : g.off = false) (h1 : 0 ≤ qix g.q id) (h2 : (admitP l (abS g id)).2 = 0) : abortP g l id = (({ g with st := abS g id, q := delP g.q (qix g.q id).toNat }, (admitP l (abS g id)).1), 4) := by unfold abortP; rw [if_neg (by rw [h]; simp), if_pos h1, tx_0 h2]; rfl
theorem ab_q1 (h : g.off = false) (h1 : 0 ≤ qix g.q id) (h2 : (admitP l (abS g id)).2 = 1) : abortP g l id = ((g, (admitP l (abS g id)).1), 11) := by unfold abortP; rw [if_neg (by rw [h]; simp), if_pos h1, tx_1 h2]; rfl
theorem ab_q2 (h : g.off = false) (h1 : 0 ≤ qix g.q id) (h2 : (admitP l (abS g id)).2 = 2) : abortP g l id = ((g.offd, (admitP l (abS g id)).1), 14) := by unfold abortP; rw [if_neg (by rw [h]; simp), if_pos h1, tx_2 h2]; rfl
theorem ab_r (h : g.off = false) (h1 : ¬ 0 ≤ qix g.q id) : abortP g l id = (abR g l id, abC (statP (abR g l id).1 id)) := by unfold abortP; rw [if_neg (by rw [h]; simp), if_neg h1]
theorem ad_off (h : g.off = true) : addP g l v = ((g, l), 14) := by unfold addP; rw [if_pos h]
theorem ad_w (h : g.off = false) (h1 : wfI v = false) : addP g l v = ((g, l), 12) := by unfold addP; rw [if_neg (by rw [h]; simp), if_pos h1]
theorem ad_h (h : g.off = false) (h1 : wfI v = true) (h2 : 0 ≤ hix g.st.is v) : addP g l v = ((g, l), 0) := by unfold addP; rw [if_neg (by rw [h]; simp), if_neg (by rw [h1]; simp), if_pos h2]
theorem ad_m (h : g.off = false) (h1 : wfI v = true) (h2 : ¬ 0 ≤ hix g.st.is v) (h3 : 16 ≤ g.st.is.length) : addP g l v = ((g, l), 12) := by unfold addP; rw [if_neg (by rw [h]; simp), if_neg (by rw [h1]; simp), if_neg h2, if_pos h3]
theorem ad_t (h : g.off = false) (h1 : wfI v = true) (h2 : ¬ 0 ≤ hix g.st.is v) (h3 : ¬ 16 ≤ g.st.is.length) : addP g l v = txP g l { g.st with is := g.st.is ++ [v] } := by unfold addP; rw [if_neg (by rw [h]; simp), if_neg (by rw [h1]; simp), if_neg h2, if_neg h3]
theorem dr_off (h : g.off = true) : dropP g l v = ((g, l), 14) := by unfold dropP; rw [if_pos h]
theorem dr_n (h : g.off = false) (h1 : hix g.st.is v < 0) : dropP g l v = ((g, l), 5) := by unfold dropP; rw [if_neg (by rw [h]; simp), if_pos h1]
theorem dr_t (h : g.off = false) (h1 : ¬ hix g.st.is v < 0) : dropP g l v = txP g l { g.st with is := delP g.st.is (hix g.st.is v).toNat } := by unfold dropP; rw [if_neg (by rw [h]; simp), if_neg h1]
end cms
/-- a batch is offered -/
def rfD (f : Int → Option Int) (i : Int) : Int → Option Int := fun j => if j = i then none else f j
def Dup (g : GtP) (id : Int) : Prop := (g.st.vd id).isSome = true ∨ 0 ≤ qix g.q id ∨ (¬ g.st.ph = 0 ∧ g.st.fid = id)
instance (g : GtP) (id : Int) : Decidable (Dup g id) := by unfold Dup; infer_instance
def subP (g : GtP) (r : Option (Int × List Ch)) : GtP × Int × Int :=
  if g.off then (g, 0, 14) else match r with
  | none => (g, 0, 6)
  | some (id, cs) => if id = 0 then (g, 0, 6) else if Dup g id then (g, id, 7) else if 8 ≤ g.q.length then (g, id, 8) else ({ g with rf := rfD g.rf id, q := g.q ++ [(id, cs)] }, id, 1)
section sbs
variable {g : GtP} {id : Int} {cs : List Ch} {r : Option (Int × List Ch)}
theorem sb_off (h : g.off = true) : subP g r = (g, 0, 14) := by unfold subP; rw [if_pos h]
theorem sb_n (h : g.off = false) : subP g none = (g, 0, 6) := by unfold subP; rw [if_neg (by rw [h]; simp)]
theorem sb_z (h : g.off = false) (h0 : id = 0) : subP g (some (id, cs)) = (g, 0, 6) := by unfold subP; rw [if_neg (by rw [h]; simp)]; simp only; rw [if_pos h0]
theorem sb_d (h : g.off = false) (h0 : ¬ id = 0) (h1 : Dup g id) : subP g (some (id, cs)) = (g, id, 7) := by unfold subP; rw [if_neg (by rw [h]; simp)]; simp only; rw [if_neg h0, if_pos h1]
theorem sb_f (h : g.off = false) (h0 : ¬ id = 0) (h1 : ¬ Dup g id) (h2 : 8 ≤ g.q.length) : subP g (some (id, cs)) = (g, id, 8) := by unfold subP; rw [if_neg (by rw [h]; simp)]; simp only; rw [if_neg h0, if_neg h1, if_pos h2]
theorem sb_y (h : g.off = false) (h0 : ¬ id = 0) (h1 : ¬ Dup g id) (h2 : ¬ 8 ≤ g.q.length) : subP g (some (id, cs)) = ({ g with rf := rfD g.rf id, q := g.q ++ [(id, cs)] }, id, 1) := by unfold subP; rw [if_neg (by rw [h]; simp)]; simp only; rw [if_neg h0, if_neg h1, if_neg h2]
end sbs
/-- two accepted configurations -/
def dfP (x y : NtP) : Nat → Int
  | 0 => 0
  | d + 1 => if slP x d = slP y d then dfP x y d else orB (dfP x y d) (sh1 d)
def diffP (g : GtP) (a b : Int) : Int × Int :=
  if g.off then (0, 14) else match verP g.st.vs a, verP g.st.vs b with
  | some x, some y => (dfP x y 16, 0)
  | _, _ => (0, 5)
theorem df_off {g : GtP} {a b : Int} (h : g.off = true) : diffP g a b = (0, 14) := by unfold diffP; rw [if_pos h]
theorem df_n {g : GtP} {a b : Int} (h : g.off = false) (h1 : verP g.st.vs a = none ∨ verP g.st.vs b = none) : diffP g a b = (0, 5) := by
  unfold diffP; rw [if_neg (by rw [h]; simp)]
  rcases h1 with h1 | h1 <;> rw [h1]
  cases verP g.st.vs a <;> rfl
theorem df_y {g : GtP} {a b : Int} {x y : NtP} (h : g.off = false) (h1 : verP g.st.vs a = some x) (h2 : verP g.st.vs b = some y) : diffP g a b = (dfP x y 16, 0) := by unfold diffP; rw [if_neg (by rw [h]; simp), h1, h2]
theorem dfP_b (x y : NtP) : ∀ d, 0 ≤ dfP x y d ∧ dfP x y d ≤ 65535
  | 0 => by unfold dfP; omega
  | d + 1 => by unfold dfP; split; exact dfP_b x y d; exact orB_bd _ _
theorem ver_hit {vs : List Vr} {id : Int} {i : Nat} {x : Vr} (h : vs[i]? = some x) (he : x.id = id) (ha : ∀ k y, k < i → vs[k]? = some y → ¬ y.id = id) : verP (vs.map vrP) id = some x.n.pl := by
  unfold verP
  have : (vs.map vrP).find? (fun v => decide (v.1 = id)) = some (vrP x) := by
    rw [List.find?_eq_some_iff_getElem]
    obtain ⟨h1, h2⟩ := List.getElem?_eq_some_iff.1 h
    refine ⟨decide_eq_true he, i, by rw [List.length_map]; exact h1, by rw [List.getElem_map, h2], fun j hj => ?_⟩
    rw [List.getElem_map]
    have := ha j _ hj (List.getElem?_eq_getElem (by omega))
    show (!decide (vs[j].id = id)) = true
    rw [decide_eq_false this]; rfl
  rw [this]; rfl
theorem ver_none {vs : List Vr} {id : Int} (ha : ∀ k y, k < vs.length → vs[k]? = some y → ¬ y.id = id) : verP (vs.map vrP) id = none := by
  unfold verP
  have : (vs.map vrP).find? (fun v => decide (v.1 = id)) = none := by
    rw [List.find?_eq_none]
    intro x hx
    obtain ⟨y, hy, rfl⟩ := List.mem_map.1 hx
    obtain ⟨k, hk, rfl⟩ := List.mem_iff_getElem.1 hy
    have := ha k _ hk (List.getElem?_eq_getElem hk)
    show ¬ decide (vs[k].id = id) = true
    rw [decide_eq_false this]; simp
  rw [this]; rfl
/-- the numbers of a parsed batch -/
theorem ln_dom : ∀ {ws : List ByteArray} {c : Ch}, lnM ws = some c → c.dom := by
  intro ws c h
  have hd : ∀ u, 0 ≤ dvG u ∧ dvG u ≤ 15 := dvM_g
  have hn : ∀ u m, 0 ≤ m → 0 ≤ nmG u m ∧ nmG u m ≤ m := fun u m hm => nmW_g hm
  unfold lnM at h
  split at h
  · rename_i x0 x1 x2 x3 x4 x5 x6 x7
    unfold ln8 at h
    split at h
    · injection h with h; subst h
      have a1 := hd x2; have a2 := hd x7; have a3 := hn x3 255 (by omega); have a4 := hn x5 8 (by omega)
      constructor <;> (simp only; omega)
    · cases h
  · rename_i x0 x1 x2 x3 x4 x5 x6
    unfold ln7 at h
    split at h
    · injection h with h; subst h
      have a1 := hd x2; have a3 := hn x3 255 (by omega); have a4 := hn x5 8 (by omega)
      constructor <;> (simp only; omega)
    · cases h
  · rename_i x0 x1 x2 x3 x4 x5
    unfold ln6 at h
    split at h
    · injection h with h; subst h
      have a1 := hd x2; have a3 := hn x3 255 (by omega); have a4 := hn x5 8 (by omega)
      constructor <;> (simp only; omega)
    · cases h
  · rename_i x0 x1 x2 x3 x4 x5 x6 x7 x8 x9
    unfold ln10 at h
    split at h
    · injection h with h; subst h
      have a1 := hd x2; have a2 := hn x3 63 (by omega); have a3 := hn x5 255 (by omega); have a4 := hn x7 8 (by omega); have a5 := hn x9 15 (by omega)
      constructor <;> first | (simp only; omega) | (simp only; split <;> omega)
    · cases h
  · rename_i x0 x1 x2 x3
    have a1 := hd x2; have a2 := hd x3; have a3 := hn x3 63 (by omega)
    unfold ln4 at h
    split at h
    · split at h
      · injection h with h; subst h
        constructor <;> (simp only; omega)
      · cases h
    · split at h
      · split at h
        · split at h
          · split at h
            · injection h with h; subst h
              constructor <;> (simp only; omega)
            · injection h with h; subst h
              constructor <;> (simp only; omega)
          · injection h with h; subst h
            constructor <;> (simp only; omega)
        · cases h
      · cases h
  · cases h
theorem chM_dom : ∀ {t : List (List (List Int))} {cs : List Ch}, chM t = some cs → ∀ c, c ∈ cs → c.dom
  | [], cs, h => by unfold chM at h; injection h with h; subst h; intro c hc; cases hc
  | ws :: t, cs, h => by
    unfold chM at h
    split at h
    · cases h
    · rename_i c9 h9
      split at h
      · cases hm : chM t with
        | none => rw [hm] at h; cases h
        | some cs' =>
          rw [hm] at h
          injection h with h
          subst h
          intro c hc
          rcases List.mem_cons.1 hc with e | e
          · subst e; exact ln_dom h9
          · exact chM_dom hm c e
      · cases h
theorem par_dom {src : List Int} {id : Int} {cs : List Ch} (h : parM src = some (id, cs)) : (0 ≤ id ∧ id ≤ 4294967295) ∧ ∀ c, c ∈ cs → c.dom := by
  unfold parM at h
  split at h
  · cases h
  · unfold lisM at h
    split at h
    · cases h
    · unfold topM at h
      split at h
      · split at h
        · cases h
        · rename_i i9 h9
          cases hm : chM ((_ : List (List (List Int))).drop 1).dropLast with
          | none => rw [hm] at h; cases h
          | some cs' =>
            rw [hm] at h
            injection h with h
            injection h with e1 e2
            subst e1; subst e2
            exact ⟨nmW_rng (by decide) h9, chM_dom hm⟩
      · cases h
/-- a number taken off the refused -/
theorem dget_del : ∀ (l : List (ME Int)) (a b : Int), (l.map ME.ky).Nodup → dget (ddel l a) b = if b = a then none else dget l b := by
  intro l
  have hmem : ∀ (l : List (ME Int)) (b : Int), b ∉ l.map ME.ky → dget l b = none := by
    intro l
    induction l with
    | nil => intro b _; rfl
    | cons p l ih =>
      intro b hb
      rw [List.map_cons, List.mem_cons, not_or] at hb
      rw [dget_cons, if_neg hb.1]; exact ih b hb.2
  have key : ∀ (l : List (ME Int)) (a b : Int) (q : Nat × Value), (l.map ME.ky).Nodup → dfind l a = some q → dget (l.eraseIdx q.1) b = if b = a then none else dget l b := by
    intro l
    induction l with
    | nil => intro a b q _ h; cases h
    | cons p l ih =>
      intro a b q hn h
      rw [List.map_cons, List.nodup_cons] at hn
      rw [show dfind (p :: l) a = if a = p.ky then some (0, p.vl) else (dfind l a).map (fun z => (z.1 + 1, z.2)) from rfl] at h
      split at h
      · rename_i e
        injection h with h
        subst h
        show dget l b = _
        rw [dget_cons, ← e]
        split
        · rename_i e2; rw [e2, e]; exact hmem l _ hn.1
        · rfl
      · rename_i hne
        cases hm : dfind l a with
        | none => rw [hm] at h; cases h
        | some q' =>
          rw [hm] at h
          injection h with h
          subst h
          show dget (p :: l.eraseIdx q'.1) b = _
          rw [dget_cons, dget_cons, ih a b q' hn.2 hm]
          split
          · rename_i e; rw [if_neg (fun e2 => hne (by rw [← e2]; exact e))]
          · rfl
  intro a b hn
  unfold ddel
  cases h : dfind l a with
  | some q => exact key l a b q hn h
  | none =>
    have hn2 : ∀ (l : List (ME Int)) (a : Int), dfind l a = none → dget l a = none := fun l a h => by unfold dget; rw [h]; rfl
    show dget l b = _
    split
    · rename_i e; rw [e]; exact hn2 l a h
    · rfl
theorem ddel_ky {l : List (ME Int)} {a : Int} (h : (l.map ME.ky).Nodup) : ((ddel l a).map ME.ky).Nodup := by
  unfold ddel
  cases dfind l a with
  | none => exact h
  | some q => exact (List.Sublist.map _ (List.eraseIdx_sublist l q.1)).nodup h
/-- a batch is queued -/
theorem qa_ok {Z G : List (Nat × Obj)} {g : GtV} (h : g.ok Z) {x : Bt} (hx : x.ok (Z ++ G)) {p : Option Addr} {c : Nat} {E : List (Nat × Obj)} (hl : g.q.length < 8) (hR : Row (.slice p (g.q ++ [x]).length c) (g.q ++ [x]).length (fl btc (g.q ++ [x])) 2 141 E) (id : Int) : GtV.ok (Z ++ G) { g with q := g.q ++ [x], qp := p, qc := c, qE := E, rl := ddel g.rl id } :=
  ⟨h.st.app, hR, fun y hy => by
    rcases List.mem_append.1 hy with h9 | h9
    · exact (h.qo y h9).app
    · rw [List.mem_singleton.1 h9]; exact hx, by simp only [List.length_append, List.length_singleton]; omega, fun j v e => by
    have e2 : dget (ddel g.rl id) j = some v := e
    rw [dget_del _ _ _ h.rk] at e2
    split at e2
    · cases e2
    · exact h.rv j v e2, ddel_ky h.rk, h.ys, h.dn, h.tk, h.o, h.oo, h.ol⟩
theorem qa_pl {Z : List (Nat × Obj)} {g : GtV} (h : g.ok Z) (x : Bt) (p : Option Addr) (c : Nat) (E : List (Nat × Obj)) (id : Int) : GtV.pl { g with q := g.q ++ [x], qp := p, qc := c, qE := E, rl := ddel g.rl id } = { g.pl with rf := rfD g.pl.rf id, q := g.pl.q ++ [btP x] } := by
  unfold GtV.pl rfD
  simp only [GtP.mk.injEq, true_and, and_true]
  refine ⟨by rw [List.map_append]; rfl, ?_⟩
  funext j
  rw [dget_del _ _ _ h.rk]
  split <;> rfl
theorem is_ok {Z : List (Nat × Obj)} {s : StV} (h : s.ok Z) {is : List Iv} {p : Option Addr} {c : Nat} {E : List (Nat × Obj)} (hR : Row (.slice p is.length c) is.length (fl ivc is) 6 43 E) (ho : ∀ x, x ∈ is → x.ok) (hl : is.length ≤ 16) : StV.ok Z { s with is := is, ip := p, ic := c, iE := E } := ⟨h.ep, h.v, h.vo, h.vl, h.v1, hR, ho, hl, h.fid, h.ph, h.fn, h.vd, h.vk⟩
theorem vd_ok {Z : List (Nat × Obj)} {s : StV} (h : s.ok Z) (i : Int) {c : Int} (hc : 0 ≤ c ∧ c ≤ 255) : StV.ok Z { s with vd := mput s.vd i (.int .u8 c) } := ⟨h.ep, h.v, h.vo, h.vl, h.v1, h.i, h.io, h.il, h.fid, h.ph, h.fn, fun j v e => by
    have e2 : mget (mput s.vd i (.int .u8 c)) j = some v := e
    rw [mget_mput] at e2
    split at e2
    · injection e2 with e2; exact ⟨c, e2.symm, hc⟩
    · exact h.vd j v e2, (mput_k9 h.vk).1⟩
theorem vd_pl (s : StV) (i c : Int) : StV.pl { s with vd := mput s.vd i (.int .u8 c) } = { s.pl with vd := rfU s.pl.vd i c } := by
  unfold StV.pl rfU
  simp only [StP.mk.injEq, true_and]
  funext j
  rw [mget_mput]
  split <;> rfl
theorem stc_vdl (s : StV) (l : List (Int × Value)) : StV.c { s with vd := l } = s.c := rfl
theorem vrc_nt (x : Vr) : ((vrc x).drop (0 + 1)).take 64 = x.n.k := by
  show x.n.k.take 64 = x.n.k
  rw [← ntk_len x.n, List.take_length]
theorem vrc_id (x : Vr) : (vrc x)[0 + 0]? = some (.int .u32 x.id) := rfl
theorem dfP_s (x y : NtP) (d : Nat) : dfP x y (d + 1) = if slP x d = slP y d then dfP x y d else orB (dfP x y d) (sh1 d) := rfl


attribute [local irreducible] NtV.k StV.c LdV.c StV.E GtV.c GtV.t orB sh1

set_option maxHeartbeats 4000000 in
theorem status_spec (Z : List (Nat × Obj)) (gb : Nat) (g : GtV) (l : LdV) (hg : g.ok Z) (hl9 : l.ok Z) (id : Int) (hid : 0 ≤ id ∧ id ≤ 4294967295) : Sp Tryz.prog 33 #[.pointer (some ⟨gb, 0, none⟩), .int .u32 id] (GF gb g l Z) (fun v F' => v = .int .u8 (statP g.pl id) ∧ F' = GF gb g l Z) := by
  refine f_enter (args := [.pointer (some ⟨gb, 0, none⟩), .int .u32 id]) Tryz.func33 rfl Tryz.ntmps33 rfl ?_
  intro w0 w a hpre hl hh
  generalize hDD : List.map Prod.fst (GF gb g l Z) = D at hh ⊢
  simp only [GF] at hh
  rw [StV.E_eq g.st] at hh
  simp only [List.append_assoc, List.cons_append, List.nil_append] at hh
  simp only [slotsFrom, Nat.reduceAdd] at hl
  refine c_seq ?_
  refine c_region ?_
  refine wl (wl_val hl rfl trivial (r_assign hl rfl) ?_)
  clear hl a; intro a hl
  refine w_nil ?_
  have hl2 := hl.add (t := 0) (hl.add (t := 1) (hl.nil) rfl) rfl; clear hl; have hl := hl2; clear hl2
  refine then_normal ?_
  refine c_seq ?_
  refine c_seq ?_
  refine c_region ?_
  refine wl (wl_val hl rfl trivial (r_move hl rfl) ?_)
  clear hl a; intro a hl
  refine wl (wl_val hl rfl trivial (r_nilCheck hl rfl) ?_)
  clear hl a; intro a hl
  refine wl (wl_val hl rfl trivial (r_field hl rfl fld127_10) ?_)
  clear hl a; intro a hl
  refine wl (w_load hl hh rfl trivial one4 rfl (by repeat (first | exact find_head | apply find_tail | apply find_skip)) (by first | exact gtc_led _ | exact gtc_ep _ | exact gtc_vs _ | exact gtc_is _ | exact gtc_fid _ | exact gtc_ph _ | exact gtc_vd _ | exact gtc_q _ | exact gtc_rf _ | exact gtc_ys _ | exact gtc_dn _ | exact gtc_tk _ | exact gtc_au _ | exact gtc_o _ | exact gtc_off _ | rfl) ?_)
  clear hl a; intro a hl
  refine w_nil ?_
  have hl2 := hl.add (t := 0) (hl.add (t := 1) (hl.add (t := 12) (hl.nil) rfl) rfl) rfl; clear hl; have hl := hl2; clear hl2
  refine then_normal ?_
  refine c_cond hl rfl ?_ ?_
  · intro hc0
    try simp only [decide_eq_true_eq, decide_eq_false_iff_not, Bool.not_eq_true', Bool.not_eq_false', Bool.not_eq_true, Bool.not_eq_false, Bool.and_eq_true, Bool.or_eq_true, Bool.and_eq_false_iff, Bool.or_eq_false_iff, Bool.not_not, ne_eq, Int.not_lt, Int.not_le, Decidable.not_not, beq_iff_eq, bne_iff_ne] at hc0
    refine c_seq ?_
    refine c_region ?_
    refine wl (wl_val hl rfl trivial (r_assign hl rfl) ?_)
    clear hl a; intro a hl
    refine w_nil ?_
    have hl2 := hl.add (t := 4) (hl.nil) rfl; clear hl; have hl := hl2; clear hl2
    refine then_normal ?_
    refine wp_ret ?_
    refine then_ret ?_
    refine f_ret1 (F' := (gb, C (GtV.c g) 127) :: (g.st.vE ++ (g.st.iE ++ ((g.st.vb, MO (kInt .u32) g.st.vd) :: (g.qE ++ ((g.rb, MD (kInt .u32) g.rl g.rn) :: (g.oE ++ ((g.led, C (LdV.c l) 91) :: (l.d.E ++ Z))))))))) hl hh rfl rfl (by repeat (first | exact keeps_nil | apply keeps_cons (by repeat (first | exact find_head | apply find_tail | apply find_skip)) (by first  | rfl) | exact keeps_self | exact keeps_left | apply keeps_app | apply keeps_mv | apply keeps_skip)) ?_
    exact ⟨by rw [sx_off hc0], (by simp only [GF, StV.E_eq g.st, List.append_assoc, List.cons_append, List.nil_append])⟩
  · intro hc0
    try simp only [decide_eq_true_eq, decide_eq_false_iff_not, Bool.not_eq_true', Bool.not_eq_false', Bool.not_eq_true, Bool.not_eq_false, Bool.and_eq_true, Bool.or_eq_true, Bool.and_eq_false_iff, Bool.or_eq_false_iff, Bool.not_not, ne_eq, Int.not_lt, Int.not_le, Decidable.not_not, beq_iff_eq, bne_iff_ne] at hc0
    refine wp_skip ?_
    refine then_normal ?_
    refine c_seq ?_
    refine c_seq ?_
    rcases vdx hg.st id with ⟨c9, hm9, hc1, hc2, hv9⟩ | ⟨hm9, hv9⟩
    ·
      refine c_region ?_
      refine wl (wl_val hl rfl trivial (r_move hl rfl) ?_)
      clear hl a; intro a hl
      refine wl (wl_val hl rfl trivial (r_nilCheck hl rfl) ?_)
      clear hl a; intro a hl
      refine wl (wl_val hl rfl trivial (r_field hl rfl fld127_1) ?_)
      clear hl a; intro a hl
      refine wl (wl_val hl rfl trivial (r_field hl rfl fld89_4) ?_)
      clear hl a; intro a hl
      refine wl (w_load hl hh rfl trivial one74 rfl (by repeat (first | exact find_head | apply find_tail | apply find_skip)) (by first | exact gtc_led _ | exact gtc_ep _ | exact gtc_vs _ | exact gtc_is _ | exact gtc_fid _ | exact gtc_ph _ | exact gtc_vd _ | exact gtc_q _ | exact gtc_rf _ | exact gtc_ys _ | exact gtc_dn _ | exact gtc_tk _ | exact gtc_au _ | exact gtc_o _ | exact gtc_off _ | rfl) ?_)
      clear hl a; intro a hl
      refine wl (wl_val hl rfl trivial (r_move hl rfl) ?_)
      clear hl a; intro a hl
      refine wl (w_lookup2 (keyInt Tryz.underlying36) Tryz.underlying74 zero128 hl hh rfl trivial rfl rfl (by repeat (first | exact find_head | apply find_tail | apply find_skip)) ?_)
      clear hl a; intro a hl
      rw [hm9] at hl
      try simp only [Option.getD_some, Option.isSome_some] at hl
      refine wl (wl_val hl rfl trivial (r_move hl rfl) ?_)
      clear hl a; intro a hl
      refine wl (wl_val hl rfl trivial (r_extract hl rfl (by simp only [List.getElem?_toArray, List.getElem?_cons_zero, List.getElem?_cons_succ]; rfl)) ?_)
      clear hl a; intro a hl
      refine wl (wl_val hl rfl trivial (r_extract hl rfl (by simp only [List.getElem?_toArray, List.getElem?_cons_zero, List.getElem?_cons_succ]; rfl)) ?_)
      clear hl a; intro a hl
      refine wl (wl_val hl rfl trivial (r_assign hl rfl) ?_)
      clear hl a; intro a hl
      refine wl (wl_val hl rfl trivial (r_assign hl rfl) ?_)
      clear hl a; intro a hl
      refine w_nil ?_
      have hl2 := hl.add (t := 0) (hl.add (t := 1) (hl.add (t := 5) (hl.add (t := 6) (hl.nil) rfl) rfl) rfl) rfl; clear hl; have hl := hl2; clear hl2
      refine then_normal ?_
      refine c_seq ?_
      refine c_region ?_
      refine wl (wl_val hl rfl trivial (r_move hl rfl) ?_)
      clear hl a; intro a hl
      refine w_nil ?_
      have hl2 := hl.add (t := 0) (hl.add (t := 1) (hl.add (t := 5) (hl.add (t := 23) (hl.nil) rfl) rfl) rfl) rfl; clear hl; have hl := hl2; clear hl2
      refine then_normal ?_
      refine c_condT hl rfl ?_
      refine c_seq ?_
      refine c_region ?_
      refine wl (wl_val hl rfl trivial (r_move hl rfl) ?_)
      clear hl a; intro a hl
      refine wl (wl_val hl rfl trivial (r_assign hl rfl) ?_)
      clear hl a; intro a hl
      refine w_nil ?_
      have hl2 := hl.add (t := 4) (hl.nil) rfl; clear hl; have hl := hl2; clear hl2
      refine then_normal ?_
      refine wp_ret ?_
      refine then_ret ?_
      refine f_ret1 (F' := (gb, C (GtV.c g) 127) :: (g.st.vE ++ (g.st.iE ++ ((g.st.vb, MO (kInt .u32) g.st.vd) :: (g.qE ++ ((g.rb, MD (kInt .u32) g.rl g.rn) :: (g.oE ++ ((g.led, C (LdV.c l) 91) :: (l.d.E ++ Z))))))))) hl hh rfl rfl (by repeat (first | exact keeps_nil | apply keeps_cons (by repeat (first | exact find_head | apply find_tail | apply find_skip)) (by first  | rfl) | exact keeps_self | exact keeps_left | apply keeps_app | apply keeps_mv | apply keeps_skip)) ?_
      exact ⟨by rw [sx_v hc0 hv9], (by simp only [GF, StV.E_eq g.st, List.append_assoc, List.cons_append, List.nil_append])⟩
    ·
      refine c_region ?_
      refine wl (wl_val hl rfl trivial (r_move hl rfl) ?_)
      clear hl a; intro a hl
      refine wl (wl_val hl rfl trivial (r_nilCheck hl rfl) ?_)
      clear hl a; intro a hl
      refine wl (wl_val hl rfl trivial (r_field hl rfl fld127_1) ?_)
      clear hl a; intro a hl
      refine wl (wl_val hl rfl trivial (r_field hl rfl fld89_4) ?_)
      clear hl a; intro a hl
      refine wl (w_load hl hh rfl trivial one74 rfl (by repeat (first | exact find_head | apply find_tail | apply find_skip)) (by first | exact gtc_led _ | exact gtc_ep _ | exact gtc_vs _ | exact gtc_is _ | exact gtc_fid _ | exact gtc_ph _ | exact gtc_vd _ | exact gtc_q _ | exact gtc_rf _ | exact gtc_ys _ | exact gtc_dn _ | exact gtc_tk _ | exact gtc_au _ | exact gtc_o _ | exact gtc_off _ | rfl) ?_)
      clear hl a; intro a hl
      refine wl (wl_val hl rfl trivial (r_move hl rfl) ?_)
      clear hl a; intro a hl
      refine wl (w_lookup2 (keyInt Tryz.underlying36) Tryz.underlying74 zero128 hl hh rfl trivial rfl rfl (by repeat (first | exact find_head | apply find_tail | apply find_skip)) ?_)
      clear hl a; intro a hl
      rw [hm9] at hl
      try simp only [Option.getD_none, Option.isSome_none] at hl
      refine wl (wl_val hl rfl trivial (r_move hl rfl) ?_)
      clear hl a; intro a hl
      refine wl (wl_val hl rfl trivial (r_extract hl rfl (by simp only [List.getElem?_toArray, List.getElem?_cons_zero, List.getElem?_cons_succ]; rfl)) ?_)
      clear hl a; intro a hl
      refine wl (wl_val hl rfl trivial (r_extract hl rfl (by simp only [List.getElem?_toArray, List.getElem?_cons_zero, List.getElem?_cons_succ]; rfl)) ?_)
      clear hl a; intro a hl
      refine wl (wl_val hl rfl trivial (r_assign hl rfl) ?_)
      clear hl a; intro a hl
      refine wl (wl_val hl rfl trivial (r_assign hl rfl) ?_)
      clear hl a; intro a hl
      refine w_nil ?_
      have hl2 := hl.add (t := 0) (hl.add (t := 1) (hl.add (t := 5) (hl.add (t := 6) (hl.nil) rfl) rfl) rfl) rfl; clear hl; have hl := hl2; clear hl2
      refine then_normal ?_
      refine c_seq ?_
      refine c_region ?_
      refine wl (wl_val hl rfl trivial (r_move hl rfl) ?_)
      clear hl a; intro a hl
      refine w_nil ?_
      have hl2 := hl.add (t := 0) (hl.add (t := 1) (hl.add (t := 5) (hl.add (t := 23) (hl.nil) rfl) rfl) rfl) rfl; clear hl; have hl := hl2; clear hl2
      refine then_normal ?_
      refine c_condF hl rfl ?_
      refine wp_skip ?_
      refine then_normal ?_
      refine c_seq ?_
      refine c_seq ?_
      refine c_region ?_
      refine wl (wl_val hl rfl trivial (r_move hl rfl) ?_)
      clear hl a; intro a hl
      refine wl (wl_val hl rfl trivial (r_nilCheck hl rfl) ?_)
      clear hl a; intro a hl
      refine wl (wl_val hl rfl trivial (r_field hl rfl fld127_1) ?_)
      clear hl a; intro a hl
      refine wl (wl_val hl rfl trivial (r_field hl rfl fld89_3) ?_)
      clear hl a; intro a hl
      refine wl (wl_val hl rfl trivial (r_field hl rfl fld87_1) ?_)
      clear hl a; intro a hl
      refine wl (w_load hl hh rfl trivial one76 rfl (by repeat (first | exact find_head | apply find_tail | apply find_skip)) (by first | exact gtc_led _ | exact gtc_ep _ | exact gtc_vs _ | exact gtc_is _ | exact gtc_fid _ | exact gtc_ph _ | exact gtc_vd _ | exact gtc_q _ | exact gtc_rf _ | exact gtc_ys _ | exact gtc_dn _ | exact gtc_tk _ | exact gtc_au _ | exact gtc_o _ | exact gtc_off _ | rfl) ?_)
      clear hl a; intro a hl
      refine wl (wl_val hl rfl trivial (r_neq hl rfl rfl) ?_)
      clear hl a; intro a hl
      refine wl (wl_val hl rfl trivial (r_move hl rfl) ?_)
      clear hl a; intro a hl
      refine sl_split (t := 32) hl rfl ?_ ?_
      · intro hg1; clear hl; intro hl
        try simp only [decide_eq_true_eq, decide_eq_false_iff_not, Bool.not_eq_true', Bool.not_eq_false', Bool.not_eq_true, Bool.not_eq_false, Bool.and_eq_true, Bool.or_eq_true, Bool.and_eq_false_iff, Bool.or_eq_false_iff, Bool.not_not, ne_eq, Int.not_lt, Int.not_le, Decidable.not_not, beq_iff_eq, bne_iff_ne] at hg1
        refine wl (wl_val hl rfl ⟨_, _, rfl, rfl, rfl⟩ (r_move hl rfl) ?_)
        clear hl a; intro a hl
        refine wl (wl_val hl rfl ⟨_, _, rfl, rfl, rfl⟩ (r_nilCheck hl rfl) ?_)
        clear hl a; intro a hl
        refine wl (wl_val hl rfl ⟨_, _, rfl, rfl, rfl⟩ (r_field hl rfl fld127_1) ?_)
        clear hl a; intro a hl
        refine wl (wl_val hl rfl ⟨_, _, rfl, rfl, rfl⟩ (r_field hl rfl fld89_3) ?_)
        clear hl a; intro a hl
        refine wl (wl_val hl rfl ⟨_, _, rfl, rfl, rfl⟩ (r_field hl rfl fld87_0) ?_)
        clear hl a; intro a hl
        refine wl (w_load hl hh rfl ⟨_, _, rfl, rfl, rfl⟩ one36 rfl (by repeat (first | exact find_head | apply find_tail | apply find_skip)) (by first | exact gtc_led _ | exact gtc_ep _ | exact gtc_vs _ | exact gtc_is _ | exact gtc_fid _ | exact gtc_ph _ | exact gtc_vd _ | exact gtc_q _ | exact gtc_rf _ | exact gtc_ys _ | exact gtc_dn _ | exact gtc_tk _ | exact gtc_au _ | exact gtc_o _ | exact gtc_off _ | rfl) ?_)
        clear hl a; intro a hl
        refine wl (wl_val hl rfl ⟨_, _, rfl, rfl, rfl⟩ (r_move hl rfl) ?_)
        clear hl a; intro a hl
        refine wl (wl_val hl rfl ⟨_, _, rfl, rfl, rfl⟩ (r_eql hl rfl rfl) ?_)
        clear hl a; intro a hl
        refine wl (wl_val hl rfl trivial (r_pickT hl rfl rfl) ?_)
        clear hl a; intro a hl
        refine w_nil ?_
        have hl2 := hl.add (t := 0) (hl.add (t := 1) (hl.add (t := 41) (hl.nil) rfl) rfl) rfl; clear hl; have hl := hl2; clear hl2
        refine then_normal ?_
        refine c_cond hl rfl ?_ ?_
        · intro hc2
          try simp only [decide_eq_true_eq, decide_eq_false_iff_not, Bool.not_eq_true', Bool.not_eq_false', Bool.not_eq_true, Bool.not_eq_false, Bool.and_eq_true, Bool.or_eq_true, Bool.and_eq_false_iff, Bool.or_eq_false_iff, Bool.not_not, ne_eq, Int.not_lt, Int.not_le, Decidable.not_not, beq_iff_eq, bne_iff_ne] at hc2
          have hf2 : ¬ g.pl.st.ph = 0 ∧ g.pl.st.fid = id := ⟨(show ¬ g.st.ph = 0 by omega), (show g.st.fid = id by omega)⟩
          refine c_seq ?_
          refine c_region ?_
          refine wl (wl_val hl rfl trivial (r_assign hl rfl) ?_)
          clear hl a; intro a hl
          refine w_nil ?_
          have hl2 := hl.add (t := 4) (hl.nil) rfl; clear hl; have hl := hl2; clear hl2
          refine then_normal ?_
          refine wp_ret ?_
          refine then_ret ?_
          refine f_ret1 (F' := (gb, C (GtV.c g) 127) :: (g.st.vE ++ (g.st.iE ++ ((g.st.vb, MO (kInt .u32) g.st.vd) :: (g.qE ++ ((g.rb, MD (kInt .u32) g.rl g.rn) :: (g.oE ++ ((g.led, C (LdV.c l) 91) :: (l.d.E ++ Z))))))))) hl hh rfl rfl (by repeat (first | exact keeps_nil | apply keeps_cons (by repeat (first | exact find_head | apply find_tail | apply find_skip)) (by first  | rfl) | exact keeps_self | exact keeps_left | apply keeps_app | apply keeps_mv | apply keeps_skip)) ?_
          exact ⟨by rw [sx_f hc0 hv9 hf2], (by simp only [GF, StV.E_eq g.st, List.append_assoc, List.cons_append, List.nil_append])⟩
        · intro hc2
          try simp only [decide_eq_true_eq, decide_eq_false_iff_not, Bool.not_eq_true', Bool.not_eq_false', Bool.not_eq_true, Bool.not_eq_false, Bool.and_eq_true, Bool.or_eq_true, Bool.and_eq_false_iff, Bool.or_eq_false_iff, Bool.not_not, ne_eq, Int.not_lt, Int.not_le, Decidable.not_not, beq_iff_eq, bne_iff_ne] at hc2
          have hf2 : ¬ (¬ g.pl.st.ph = 0 ∧ g.pl.st.fid = id) := fun ⟨q1, q2⟩ => by have q1 : ¬ g.st.ph = 0 := q1; have q2 : g.st.fid = id := q2; omega
          refine wp_skip ?_
          refine then_normal ?_
          refine c_seq ?_
          refine c_seq ?_
          refine c_region ?_
          refine wl (wl_val hl rfl trivial (r_move hl rfl) ?_)
          clear hl a; intro a hl
          refine wl (wl_val hl rfl trivial (r_move hl rfl) ?_)
          clear hl a; intro a hl
          refine wl (w_call hl hh rfl trivial rfl cal44 rfl (queued_spec Z gb g hg id hid) (by repeat (first | exact keeps_nil | apply keeps_cons (by repeat (first | exact find_head | apply find_tail | apply find_skip)) (by first  | rfl) | exact keeps_self | exact keeps_left | apply keeps_app | apply keeps_mv | apply keeps_skip)) trivial ?_)
          clear hl hh a w; intro vc Fc a w hR hl hh
          obtain ⟨rfl, rfl⟩ := hR
          try simp only [List.cons_append, List.nil_append, List.append_assoc, List.append_nil] at hh
          refine wl (wl_val hl rfl trivial (r_geq hl rfl rfl) ?_)
          clear hl a; intro a hl
          refine w_nil ?_
          have hl2 := hl.add (t := 0) (hl.add (t := 1) (hl.add (t := 45) (hl.nil) rfl) rfl) rfl; clear hl; have hl := hl2; clear hl2
          refine then_normal ?_
          refine c_cond hl rfl ?_ ?_
          · intro hc3
            try simp only [decide_eq_true_eq, decide_eq_false_iff_not, Bool.not_eq_true', Bool.not_eq_false', Bool.not_eq_true, Bool.not_eq_false, Bool.and_eq_true, Bool.or_eq_true, Bool.and_eq_false_iff, Bool.or_eq_false_iff, Bool.not_not, ne_eq, Int.not_lt, Int.not_le, Decidable.not_not, beq_iff_eq, bne_iff_ne] at hc3
            refine c_seq ?_
            refine c_region ?_
            refine wl (wl_val hl rfl trivial (r_assign hl rfl) ?_)
            clear hl a; intro a hl
            refine w_nil ?_
            have hl2 := hl.add (t := 4) (hl.nil) rfl; clear hl; have hl := hl2; clear hl2
            refine then_normal ?_
            refine wp_ret ?_
            refine then_ret ?_
            refine f_ret1 (F' := (gb, C (GtV.c g) 127) :: (g.st.vE ++ (g.st.iE ++ ((g.st.vb, MO (kInt .u32) g.st.vd) :: (g.qE ++ ((g.rb, MD (kInt .u32) g.rl g.rn) :: (g.oE ++ ((g.led, C (LdV.c l) 91) :: (l.d.E ++ Z))))))))) hl hh rfl rfl (by repeat (first | exact keeps_nil | apply keeps_cons (by repeat (first | exact find_head | apply find_tail | apply find_skip)) (by first  | rfl) | exact keeps_self | exact keeps_left | apply keeps_app | apply keeps_mv | apply keeps_skip)) ?_
            exact ⟨by rw [sx_q hc0 hv9 hf2 hc3], (by simp only [GF, StV.E_eq g.st, List.append_assoc, List.cons_append, List.nil_append])⟩
          · intro hc3
            try simp only [decide_eq_true_eq, decide_eq_false_iff_not, Bool.not_eq_true', Bool.not_eq_false', Bool.not_eq_true, Bool.not_eq_false, Bool.and_eq_true, Bool.or_eq_true, Bool.and_eq_false_iff, Bool.or_eq_false_iff, Bool.not_not, ne_eq, Int.not_lt, Int.not_le, Decidable.not_not, beq_iff_eq, bne_iff_ne] at hc3
            refine wp_skip ?_
            refine then_normal ?_
            refine c_seq ?_
            refine c_seq ?_
            rcases rfx hg id with ⟨c8, hm8, hc3, hc4, hv8⟩ | ⟨hm8, hv8⟩
            ·
              refine c_region ?_
              refine wl (wl_val hl rfl trivial (r_move hl rfl) ?_)
              clear hl a; intro a hl
              refine wl (wl_val hl rfl trivial (r_nilCheck hl rfl) ?_)
              clear hl a; intro a hl
              refine wl (wl_val hl rfl trivial (r_field hl rfl fld127_3) ?_)
              clear hl a; intro a hl
              refine wl (w_load hl hh rfl trivial one74 rfl (by repeat (first | exact find_head | apply find_tail | apply find_skip)) (by first | exact gtc_led _ | exact gtc_ep _ | exact gtc_vs _ | exact gtc_is _ | exact gtc_fid _ | exact gtc_ph _ | exact gtc_vd _ | exact gtc_q _ | exact gtc_rf _ | exact gtc_ys _ | exact gtc_dn _ | exact gtc_tk _ | exact gtc_au _ | exact gtc_o _ | exact gtc_off _ | rfl) ?_)
              clear hl a; intro a hl
              refine wl (wl_val hl rfl trivial (r_move hl rfl) ?_)
              clear hl a; intro a hl
              refine wl (wl_val hl rfl trivial (r_lookupD kd36 Tryz.underlying74 zero128 hl rfl rfl (hh.mem _ _ (Find.mem (by repeat (first | exact find_head | apply find_tail | apply find_skip))))) ?_)
              clear hl a; intro a hl
              rw [hm8] at hl
              try simp only [Option.getD_some, Option.isSome_some] at hl
              refine wl (wl_val hl rfl trivial (r_move hl rfl) ?_)
              clear hl a; intro a hl
              refine wl (wl_val hl rfl trivial (r_extract hl rfl (by simp only [List.getElem?_toArray, List.getElem?_cons_zero, List.getElem?_cons_succ]; rfl)) ?_)
              clear hl a; intro a hl
              refine wl (wl_val hl rfl trivial (r_extract hl rfl (by simp only [List.getElem?_toArray, List.getElem?_cons_zero, List.getElem?_cons_succ]; rfl)) ?_)
              clear hl a; intro a hl
              refine wl (wl_val hl rfl trivial (r_assign hl rfl) ?_)
              clear hl a; intro a hl
              refine wl (wl_val hl rfl trivial (r_assign hl rfl) ?_)
              clear hl a; intro a hl
              refine w_nil ?_
              have hl2 := hl.add (t := 7) (hl.add (t := 8) (hl.nil) rfl) rfl; clear hl; have hl := hl2; clear hl2
              refine then_normal ?_
              refine c_seq ?_
              refine c_region ?_
              refine wl (wl_val hl rfl trivial (r_move hl rfl) ?_)
              clear hl a; intro a hl
              refine w_nil ?_
              have hl2 := hl.add (t := 7) (hl.add (t := 55) (hl.nil) rfl) rfl; clear hl; have hl := hl2; clear hl2
              refine then_normal ?_
              refine c_condT hl rfl ?_
              refine c_seq ?_
              refine c_region ?_
              refine wl (wl_val hl rfl trivial (r_move hl rfl) ?_)
              clear hl a; intro a hl
              refine wl (wl_val hl rfl trivial (r_assign hl rfl) ?_)
              clear hl a; intro a hl
              refine w_nil ?_
              have hl2 := hl.add (t := 4) (hl.nil) rfl; clear hl; have hl := hl2; clear hl2
              refine then_normal ?_
              refine wp_ret ?_
              refine then_ret ?_
              refine f_ret1 (F' := (gb, C (GtV.c g) 127) :: (g.st.vE ++ (g.st.iE ++ ((g.st.vb, MO (kInt .u32) g.st.vd) :: (g.qE ++ ((g.rb, MD (kInt .u32) g.rl g.rn) :: (g.oE ++ ((g.led, C (LdV.c l) 91) :: (l.d.E ++ Z))))))))) hl hh rfl rfl (by repeat (first | exact keeps_nil | apply keeps_cons (by repeat (first | exact find_head | apply find_tail | apply find_skip)) (by first  | rfl) | exact keeps_self | exact keeps_left | apply keeps_app | apply keeps_mv | apply keeps_skip)) ?_
              exact ⟨by rw [sx_rf hc0 hv9 hf2 (by omega) hv8], (by simp only [GF, StV.E_eq g.st, List.append_assoc, List.cons_append, List.nil_append])⟩
            ·
              refine c_region ?_
              refine wl (wl_val hl rfl trivial (r_move hl rfl) ?_)
              clear hl a; intro a hl
              refine wl (wl_val hl rfl trivial (r_nilCheck hl rfl) ?_)
              clear hl a; intro a hl
              refine wl (wl_val hl rfl trivial (r_field hl rfl fld127_3) ?_)
              clear hl a; intro a hl
              refine wl (w_load hl hh rfl trivial one74 rfl (by repeat (first | exact find_head | apply find_tail | apply find_skip)) (by first | exact gtc_led _ | exact gtc_ep _ | exact gtc_vs _ | exact gtc_is _ | exact gtc_fid _ | exact gtc_ph _ | exact gtc_vd _ | exact gtc_q _ | exact gtc_rf _ | exact gtc_ys _ | exact gtc_dn _ | exact gtc_tk _ | exact gtc_au _ | exact gtc_o _ | exact gtc_off _ | rfl) ?_)
              clear hl a; intro a hl
              refine wl (wl_val hl rfl trivial (r_move hl rfl) ?_)
              clear hl a; intro a hl
              refine wl (wl_val hl rfl trivial (r_lookupD kd36 Tryz.underlying74 zero128 hl rfl rfl (hh.mem _ _ (Find.mem (by repeat (first | exact find_head | apply find_tail | apply find_skip))))) ?_)
              clear hl a; intro a hl
              rw [hm8] at hl
              try simp only [Option.getD_none, Option.isSome_none] at hl
              refine wl (wl_val hl rfl trivial (r_move hl rfl) ?_)
              clear hl a; intro a hl
              refine wl (wl_val hl rfl trivial (r_extract hl rfl (by simp only [List.getElem?_toArray, List.getElem?_cons_zero, List.getElem?_cons_succ]; rfl)) ?_)
              clear hl a; intro a hl
              refine wl (wl_val hl rfl trivial (r_extract hl rfl (by simp only [List.getElem?_toArray, List.getElem?_cons_zero, List.getElem?_cons_succ]; rfl)) ?_)
              clear hl a; intro a hl
              refine wl (wl_val hl rfl trivial (r_assign hl rfl) ?_)
              clear hl a; intro a hl
              refine wl (wl_val hl rfl trivial (r_assign hl rfl) ?_)
              clear hl a; intro a hl
              refine w_nil ?_
              have hl2 := hl.add (t := 7) (hl.add (t := 8) (hl.nil) rfl) rfl; clear hl; have hl := hl2; clear hl2
              refine then_normal ?_
              refine c_seq ?_
              refine c_region ?_
              refine wl (wl_val hl rfl trivial (r_move hl rfl) ?_)
              clear hl a; intro a hl
              refine w_nil ?_
              have hl2 := hl.add (t := 7) (hl.add (t := 55) (hl.nil) rfl) rfl; clear hl; have hl := hl2; clear hl2
              refine then_normal ?_
              refine c_condF hl rfl ?_
              refine wp_skip ?_
              refine then_normal ?_
              refine c_seq ?_
              refine c_region ?_
              refine wl (wl_val hl rfl trivial (r_assign hl rfl) ?_)
              clear hl a; intro a hl
              refine w_nil ?_
              have hl2 := hl.add (t := 4) (hl.nil) rfl; clear hl; have hl := hl2; clear hl2
              refine then_normal ?_
              refine wp_ret ?_
              refine f_ret1 (F' := (gb, C (GtV.c g) 127) :: (g.st.vE ++ (g.st.iE ++ ((g.st.vb, MO (kInt .u32) g.st.vd) :: (g.qE ++ ((g.rb, MD (kInt .u32) g.rl g.rn) :: (g.oE ++ ((g.led, C (LdV.c l) 91) :: (l.d.E ++ Z))))))))) hl hh rfl rfl (by repeat (first | exact keeps_nil | apply keeps_cons (by repeat (first | exact find_head | apply find_tail | apply find_skip)) (by first  | rfl) | exact keeps_self | exact keeps_left | apply keeps_app | apply keeps_mv | apply keeps_skip)) ?_
              exact ⟨by rw [sx_un hc0 hv9 hf2 (by omega) hv8], (by simp only [GF, StV.E_eq g.st, List.append_assoc, List.cons_append, List.nil_append])⟩
      · intro hg1; clear hl; intro hl
        try simp only [decide_eq_true_eq, decide_eq_false_iff_not, Bool.not_eq_true', Bool.not_eq_false', Bool.not_eq_true, Bool.not_eq_false, Bool.and_eq_true, Bool.or_eq_true, Bool.and_eq_false_iff, Bool.or_eq_false_iff, Bool.not_not, ne_eq, Int.not_lt, Int.not_le, Decidable.not_not, beq_iff_eq, bne_iff_ne] at hg1
        refine wl (wl_skip hl rfl ⟨_, _, rfl, rfl, rfl⟩ ?_)
        clear hl a; intro a hl
        refine wl (wl_skip hl rfl ⟨_, _, rfl, rfl, rfl⟩ ?_)
        clear hl a; intro a hl
        refine wl (wl_skip hl rfl ⟨_, _, rfl, rfl, rfl⟩ ?_)
        clear hl a; intro a hl
        refine wl (wl_skip hl rfl ⟨_, _, rfl, rfl, rfl⟩ ?_)
        clear hl a; intro a hl
        refine wl (wl_skip hl rfl ⟨_, _, rfl, rfl, rfl⟩ ?_)
        clear hl a; intro a hl
        refine wl (wl_skip hl rfl ⟨_, _, rfl, rfl, rfl⟩ ?_)
        clear hl a; intro a hl
        refine wl (wl_skip hl rfl ⟨_, _, rfl, rfl, rfl⟩ ?_)
        clear hl a; intro a hl
        refine wl (wl_skip hl rfl ⟨_, _, rfl, rfl, rfl⟩ ?_)
        clear hl a; intro a hl
        refine wl (wl_val hl rfl trivial (r_pickF hl rfl rfl) ?_)
        clear hl a; intro a hl
        refine w_nil ?_
        have hl2 := hl.add (t := 0) (hl.add (t := 1) (hl.add (t := 41) (hl.nil) rfl) rfl) rfl; clear hl; have hl := hl2; clear hl2
        refine then_normal ?_
        refine c_condF hl rfl ?_
        have hf2 : ¬ (¬ g.pl.st.ph = 0 ∧ g.pl.st.fid = id) := fun ⟨q1, q2⟩ => by have q1 : ¬ g.st.ph = 0 := q1; have q2 : g.st.fid = id := q2; omega
        refine wp_skip ?_
        refine then_normal ?_
        refine c_seq ?_
        refine c_seq ?_
        refine c_region ?_
        refine wl (wl_val hl rfl trivial (r_move hl rfl) ?_)
        clear hl a; intro a hl
        refine wl (wl_val hl rfl trivial (r_move hl rfl) ?_)
        clear hl a; intro a hl
        refine wl (w_call hl hh rfl trivial rfl cal44 rfl (queued_spec Z gb g hg id hid) (by repeat (first | exact keeps_nil | apply keeps_cons (by repeat (first | exact find_head | apply find_tail | apply find_skip)) (by first  | rfl) | exact keeps_self | exact keeps_left | apply keeps_app | apply keeps_mv | apply keeps_skip)) trivial ?_)
        clear hl hh a w; intro vc Fc a w hR hl hh
        obtain ⟨rfl, rfl⟩ := hR
        try simp only [List.cons_append, List.nil_append, List.append_assoc, List.append_nil] at hh
        refine wl (wl_val hl rfl trivial (r_geq hl rfl rfl) ?_)
        clear hl a; intro a hl
        refine w_nil ?_
        have hl2 := hl.add (t := 0) (hl.add (t := 1) (hl.add (t := 45) (hl.nil) rfl) rfl) rfl; clear hl; have hl := hl2; clear hl2
        refine then_normal ?_
        refine c_cond hl rfl ?_ ?_
        · intro hc3
          try simp only [decide_eq_true_eq, decide_eq_false_iff_not, Bool.not_eq_true', Bool.not_eq_false', Bool.not_eq_true, Bool.not_eq_false, Bool.and_eq_true, Bool.or_eq_true, Bool.and_eq_false_iff, Bool.or_eq_false_iff, Bool.not_not, ne_eq, Int.not_lt, Int.not_le, Decidable.not_not, beq_iff_eq, bne_iff_ne] at hc3
          refine c_seq ?_
          refine c_region ?_
          refine wl (wl_val hl rfl trivial (r_assign hl rfl) ?_)
          clear hl a; intro a hl
          refine w_nil ?_
          have hl2 := hl.add (t := 4) (hl.nil) rfl; clear hl; have hl := hl2; clear hl2
          refine then_normal ?_
          refine wp_ret ?_
          refine then_ret ?_
          refine f_ret1 (F' := (gb, C (GtV.c g) 127) :: (g.st.vE ++ (g.st.iE ++ ((g.st.vb, MO (kInt .u32) g.st.vd) :: (g.qE ++ ((g.rb, MD (kInt .u32) g.rl g.rn) :: (g.oE ++ ((g.led, C (LdV.c l) 91) :: (l.d.E ++ Z))))))))) hl hh rfl rfl (by repeat (first | exact keeps_nil | apply keeps_cons (by repeat (first | exact find_head | apply find_tail | apply find_skip)) (by first  | rfl) | exact keeps_self | exact keeps_left | apply keeps_app | apply keeps_mv | apply keeps_skip)) ?_
          exact ⟨by rw [sx_q hc0 hv9 hf2 hc3], (by simp only [GF, StV.E_eq g.st, List.append_assoc, List.cons_append, List.nil_append])⟩
        · intro hc3
          try simp only [decide_eq_true_eq, decide_eq_false_iff_not, Bool.not_eq_true', Bool.not_eq_false', Bool.not_eq_true, Bool.not_eq_false, Bool.and_eq_true, Bool.or_eq_true, Bool.and_eq_false_iff, Bool.or_eq_false_iff, Bool.not_not, ne_eq, Int.not_lt, Int.not_le, Decidable.not_not, beq_iff_eq, bne_iff_ne] at hc3
          refine wp_skip ?_
          refine then_normal ?_
          refine c_seq ?_
          refine c_seq ?_
          rcases rfx hg id with ⟨c8, hm8, hc3, hc4, hv8⟩ | ⟨hm8, hv8⟩
          ·
            refine c_region ?_
            refine wl (wl_val hl rfl trivial (r_move hl rfl) ?_)
            clear hl a; intro a hl
            refine wl (wl_val hl rfl trivial (r_nilCheck hl rfl) ?_)
            clear hl a; intro a hl
            refine wl (wl_val hl rfl trivial (r_field hl rfl fld127_3) ?_)
            clear hl a; intro a hl
            refine wl (w_load hl hh rfl trivial one74 rfl (by repeat (first | exact find_head | apply find_tail | apply find_skip)) (by first | exact gtc_led _ | exact gtc_ep _ | exact gtc_vs _ | exact gtc_is _ | exact gtc_fid _ | exact gtc_ph _ | exact gtc_vd _ | exact gtc_q _ | exact gtc_rf _ | exact gtc_ys _ | exact gtc_dn _ | exact gtc_tk _ | exact gtc_au _ | exact gtc_o _ | exact gtc_off _ | rfl) ?_)
            clear hl a; intro a hl
            refine wl (wl_val hl rfl trivial (r_move hl rfl) ?_)
            clear hl a; intro a hl
            refine wl (wl_val hl rfl trivial (r_lookupD kd36 Tryz.underlying74 zero128 hl rfl rfl (hh.mem _ _ (Find.mem (by repeat (first | exact find_head | apply find_tail | apply find_skip))))) ?_)
            clear hl a; intro a hl
            rw [hm8] at hl
            try simp only [Option.getD_some, Option.isSome_some] at hl
            refine wl (wl_val hl rfl trivial (r_move hl rfl) ?_)
            clear hl a; intro a hl
            refine wl (wl_val hl rfl trivial (r_extract hl rfl (by simp only [List.getElem?_toArray, List.getElem?_cons_zero, List.getElem?_cons_succ]; rfl)) ?_)
            clear hl a; intro a hl
            refine wl (wl_val hl rfl trivial (r_extract hl rfl (by simp only [List.getElem?_toArray, List.getElem?_cons_zero, List.getElem?_cons_succ]; rfl)) ?_)
            clear hl a; intro a hl
            refine wl (wl_val hl rfl trivial (r_assign hl rfl) ?_)
            clear hl a; intro a hl
            refine wl (wl_val hl rfl trivial (r_assign hl rfl) ?_)
            clear hl a; intro a hl
            refine w_nil ?_
            have hl2 := hl.add (t := 7) (hl.add (t := 8) (hl.nil) rfl) rfl; clear hl; have hl := hl2; clear hl2
            refine then_normal ?_
            refine c_seq ?_
            refine c_region ?_
            refine wl (wl_val hl rfl trivial (r_move hl rfl) ?_)
            clear hl a; intro a hl
            refine w_nil ?_
            have hl2 := hl.add (t := 7) (hl.add (t := 55) (hl.nil) rfl) rfl; clear hl; have hl := hl2; clear hl2
            refine then_normal ?_
            refine c_condT hl rfl ?_
            refine c_seq ?_
            refine c_region ?_
            refine wl (wl_val hl rfl trivial (r_move hl rfl) ?_)
            clear hl a; intro a hl
            refine wl (wl_val hl rfl trivial (r_assign hl rfl) ?_)
            clear hl a; intro a hl
            refine w_nil ?_
            have hl2 := hl.add (t := 4) (hl.nil) rfl; clear hl; have hl := hl2; clear hl2
            refine then_normal ?_
            refine wp_ret ?_
            refine then_ret ?_
            refine f_ret1 (F' := (gb, C (GtV.c g) 127) :: (g.st.vE ++ (g.st.iE ++ ((g.st.vb, MO (kInt .u32) g.st.vd) :: (g.qE ++ ((g.rb, MD (kInt .u32) g.rl g.rn) :: (g.oE ++ ((g.led, C (LdV.c l) 91) :: (l.d.E ++ Z))))))))) hl hh rfl rfl (by repeat (first | exact keeps_nil | apply keeps_cons (by repeat (first | exact find_head | apply find_tail | apply find_skip)) (by first  | rfl) | exact keeps_self | exact keeps_left | apply keeps_app | apply keeps_mv | apply keeps_skip)) ?_
            exact ⟨by rw [sx_rf hc0 hv9 hf2 (by omega) hv8], (by simp only [GF, StV.E_eq g.st, List.append_assoc, List.cons_append, List.nil_append])⟩
          ·
            refine c_region ?_
            refine wl (wl_val hl rfl trivial (r_move hl rfl) ?_)
            clear hl a; intro a hl
            refine wl (wl_val hl rfl trivial (r_nilCheck hl rfl) ?_)
            clear hl a; intro a hl
            refine wl (wl_val hl rfl trivial (r_field hl rfl fld127_3) ?_)
            clear hl a; intro a hl
            refine wl (w_load hl hh rfl trivial one74 rfl (by repeat (first | exact find_head | apply find_tail | apply find_skip)) (by first | exact gtc_led _ | exact gtc_ep _ | exact gtc_vs _ | exact gtc_is _ | exact gtc_fid _ | exact gtc_ph _ | exact gtc_vd _ | exact gtc_q _ | exact gtc_rf _ | exact gtc_ys _ | exact gtc_dn _ | exact gtc_tk _ | exact gtc_au _ | exact gtc_o _ | exact gtc_off _ | rfl) ?_)
            clear hl a; intro a hl
            refine wl (wl_val hl rfl trivial (r_move hl rfl) ?_)
            clear hl a; intro a hl
            refine wl (wl_val hl rfl trivial (r_lookupD kd36 Tryz.underlying74 zero128 hl rfl rfl (hh.mem _ _ (Find.mem (by repeat (first | exact find_head | apply find_tail | apply find_skip))))) ?_)
            clear hl a; intro a hl
            rw [hm8] at hl
            try simp only [Option.getD_none, Option.isSome_none] at hl
            refine wl (wl_val hl rfl trivial (r_move hl rfl) ?_)
            clear hl a; intro a hl
            refine wl (wl_val hl rfl trivial (r_extract hl rfl (by simp only [List.getElem?_toArray, List.getElem?_cons_zero, List.getElem?_cons_succ]; rfl)) ?_)
            clear hl a; intro a hl
            refine wl (wl_val hl rfl trivial (r_extract hl rfl (by simp only [List.getElem?_toArray, List.getElem?_cons_zero, List.getElem?_cons_succ]; rfl)) ?_)
            clear hl a; intro a hl
            refine wl (wl_val hl rfl trivial (r_assign hl rfl) ?_)
            clear hl a; intro a hl
            refine wl (wl_val hl rfl trivial (r_assign hl rfl) ?_)
            clear hl a; intro a hl
            refine w_nil ?_
            have hl2 := hl.add (t := 7) (hl.add (t := 8) (hl.nil) rfl) rfl; clear hl; have hl := hl2; clear hl2
            refine then_normal ?_
            refine c_seq ?_
            refine c_region ?_
            refine wl (wl_val hl rfl trivial (r_move hl rfl) ?_)
            clear hl a; intro a hl
            refine w_nil ?_
            have hl2 := hl.add (t := 7) (hl.add (t := 55) (hl.nil) rfl) rfl; clear hl; have hl := hl2; clear hl2
            refine then_normal ?_
            refine c_condF hl rfl ?_
            refine wp_skip ?_
            refine then_normal ?_
            refine c_seq ?_
            refine c_region ?_
            refine wl (wl_val hl rfl trivial (r_assign hl rfl) ?_)
            clear hl a; intro a hl
            refine w_nil ?_
            have hl2 := hl.add (t := 4) (hl.nil) rfl; clear hl; have hl := hl2; clear hl2
            refine then_normal ?_
            refine wp_ret ?_
            refine f_ret1 (F' := (gb, C (GtV.c g) 127) :: (g.st.vE ++ (g.st.iE ++ ((g.st.vb, MO (kInt .u32) g.st.vd) :: (g.qE ++ ((g.rb, MD (kInt .u32) g.rl g.rn) :: (g.oE ++ ((g.led, C (LdV.c l) 91) :: (l.d.E ++ Z))))))))) hl hh rfl rfl (by repeat (first | exact keeps_nil | apply keeps_cons (by repeat (first | exact find_head | apply find_tail | apply find_skip)) (by first  | rfl) | exact keeps_self | exact keeps_left | apply keeps_app | apply keeps_mv | apply keeps_skip)) ?_
            exact ⟨by rw [sx_un hc0 hv9 hf2 (by omega) hv8], (by simp only [GF, StV.E_eq g.st, List.append_assoc, List.cons_append, List.nil_append])⟩
end Go.Proofs.Qxb6500908aGreat

import Derived.Test.Qxb6500908aY2
namespace Go.Proofs.Qxb6500908a
open Go.Eng
set_option linter.unusedVariables false
set_option linter.unusedSimpArgs false

/-! ## the law of what was told, plainly -/
structure ToX where
  tl : Int → Option Int
  iv : List Iv
  mb : List Iv
  op : Bool
def withP (s : List Iv) (v : Iv) (add : Bool) : List Iv := s.filter (fun u => !decide (u = v)) ++ (if add then [v] else [])
def sameP (a b : List Iv) : Bool := decide (a.length = b.length) && a.all (fun v => decide (((withP b v false).length : Int) = (b.length : Int) - 1))
def Per (a b : List Iv) : Prop := a.Nodup ∧ b.Nodup ∧ a.Perm b
theorem filt_len {b : List Iv} (hb : b.Nodup) (v : Iv) : (v ∈ b → (b.filter (fun u => !decide (u = v))).length + 1 = b.length) ∧ (¬ v ∈ b → b.filter (fun u => !decide (u = v)) = b) := by
  induction b with
  | nil => exact ⟨fun h => (by cases h), fun _ => rfl⟩
  | cons u b ih =>
    rw [List.nodup_cons] at hb
    have ih := ih hb.2
    refine ⟨fun h => ?_, fun h => ?_⟩
    · by_cases e : u = v
      · rw [List.filter_cons_of_neg (by simp [e]), ih.2 (by rw [← e]; exact hb.1), List.length_cons]
      · have h' : v ∈ b := by
          rcases List.mem_cons.1 h with h | h
          · exact absurd h.symm e
          · exact h
        rw [List.filter_cons_of_pos (by simp [e]), List.length_cons, List.length_cons, ih.1 h']
    · rw [List.mem_cons, not_or] at h
      rw [List.filter_cons_of_pos (by simp; exact fun e : u = v => h.1 e.symm), ih.2 h.2]
theorem sub_perm : ∀ {a b : List Iv}, a.Nodup → (∀ v, v ∈ a → v ∈ b) → a.length = b.length → a.Perm b
  | [], b, _, _, h => by
    cases b with
    | nil => exact List.Perm.refl _
    | cons v b => simp at h
  | v :: a, b, hn, hm, hl => by
    rw [List.nodup_cons] at hn
    have hv := hm v (List.mem_cons_self ..)
    have hp := List.perm_cons_erase hv
    refine List.Perm.trans (List.Perm.cons v (sub_perm hn.2 (fun u hu => ?_) ?_)) hp.symm
    · have h1 := hp.mem_iff.1 (hm u (List.mem_cons_of_mem _ hu))
      rcases List.mem_cons.1 h1 with h | h
      · exact absurd (h ▸ hu) hn.1
      · exact h
    · have := hp.length_eq
      simp only [List.length_cons] at this hl
      omega
theorem sameP_iff {a b : List Iv} (ha : a.Nodup) (hb : b.Nodup) : sameP a b = true ↔ a.Perm b := by
  unfold sameP withP
  simp only [Bool.and_eq_true, decide_eq_true_eq, List.all_eq_true, Bool.false_eq_true, if_false, List.append_nil]
  refine ⟨fun ⟨h1, h2⟩ => ?_, fun h => ⟨h.length_eq, fun v hv => ?_⟩⟩
  · refine sub_perm ha (fun v hv => ?_) h1
    have h3 := h2 v hv
    apply Decidable.byContradiction
    intro h4
    rw [(filt_len hb v).2 h4] at h3
    omega
  · have h3 := (filt_len hb v).1 (h.mem_iff.1 hv)
    omega
theorem withP_nodup {b : List Iv} (hb : b.Nodup) (v : Iv) (add : Bool) : (withP b v add).Nodup := by
  unfold withP
  rw [List.nodup_append]
  refine ⟨List.filter_sublist.nodup hb, by cases add <;> simp, fun x hx y hy e => ?_⟩
  cases add with
  | false => cases hy
  | true =>
    rw [if_pos rfl] at hy
    have hy := List.mem_singleton.1 hy
    have := (List.mem_filter.1 hx).2
    simp at this
    exact this (e.trans hy)
theorem withP_ln (s : List Iv) (v : Iv) (add : Bool) : (withP s v add).length ≤ s.length + 1 := by
  unfold withP
  rw [List.length_append]
  have := List.length_filter_le (fun u => !decide (u = v)) s
  cases add <;> simp <;> omega
theorem withP_mem {b : List Iv} {v : Iv} {add : Bool} (u : Iv) : u ∈ withP b v add ↔ (u ∈ b ∧ ¬ u = v) ∨ (add = true ∧ u = v) := by
  unfold withP
  rw [List.mem_append, List.mem_filter]
  cases add <;> simp
theorem per_ext {a b : List Iv} (ha : a.Nodup) (hb : b.Nodup) (h : ∀ u, u ∈ a ↔ u ∈ b) : Per a b := ⟨ha, hb, (List.perm_ext_iff_of_nodup ha hb).2 h⟩
theorem Per.mem {a b : List Iv} (h : Per a b) (u : Iv) : u ∈ a ↔ u ∈ b := h.2.2.mem_iff
/-- the invariants after an acknowledged command -/
theorem per_hold {a b : List Iv} {v : Iv} (h : Per a b) (hv : v ∈ a) : Per a (withP b v true) := per_ext h.1 (withP_nodup h.2.1 v true) fun u => by
  rw [withP_mem, ← h.mem]
  by_cases e : u = v
  · simp [e, hv]
  · simp [e]
theorem per_add {a b : List Iv} {v : Iv} (h : Per a b) (hv : ¬ v ∈ a) : Per (a ++ [v]) (withP b v true) := per_ext (by
    rw [List.nodup_append]; exact ⟨h.1, by simp, fun x hx y hy e => hv (by rw [← List.mem_singleton.1 hy, ← e]; exact hx)⟩) (withP_nodup h.2.1 v true) fun u => by
  rw [withP_mem, ← h.mem, List.mem_append, List.mem_singleton]
  by_cases e : u = v
  · simp [e]
  · simp [e]
theorem per_drop {a b : List Iv} {v : Iv} {i : Nat} (h : Per a b) (hv : a[i]? = some v) : Per (delP a i) (withP b v false) := per_ext ((delP_sub a i).nodup h.1) (withP_nodup h.2.1 v false) fun u => by
  rw [withP_mem, ← h.mem]
  have h1 := delP_ne (f := fun x : Iv => x) (q := a) (i := i) (b := v) (by rw [List.map_id']; exact h.1) hv u
  constructor
  · exact fun hu => .inl ⟨delP_mem hu, h1 hu⟩
  · intro h2
    rcases h2 with ⟨h2, h3⟩ | ⟨h2, _⟩
    · unfold delP
      rw [split_at hv] at h2
      rcases List.mem_append.1 h2 with h4 | h4
      · exact List.mem_append_left _ h4
      · rcases List.mem_cons.1 h4 with h5 | h5
        · exact absurd h5 h3
        · exact List.mem_append_right _ h5
    · cases h2
def ToX.cd (i : InP) (c : Int) : Int := if (i.k = 1 ∨ i.k = 2) ∧ c = 13 then 3 else c
def ToX.nx (x : ToX) (i : InP) (c : Int) : ToX :=
  if i.k = 1 ∨ i.k = 2 then (if ToX.cd i c = 3 ∨ ToX.cd i c = 4 then { x with tl := rfU x.tl i.id (ToX.cd i c) } else x)
  else if i.k = 3 ∨ i.k = 4 then (if c = 0 then { x with iv := withP x.iv i.v (decide (i.k = 3)) } else if c = 14 then { x with mb := withP x.iv i.v (decide (i.k = 3)), op := true } else x)
  else x
structure ToS (now : StP) (x : ToX) (i : InP) (id c : Int) : Prop where
  a : i.k = 1 ∨ i.k = 2 → ∀ z, x.tl i.id = some z → ToX.cd i c = z ∨ ToX.cd i c = 14
  s : i.k = 0 → (x.tl id).isSome = true → c = 7
  e : ToX.cd i c = 14 ∨ sameP now.is (x.nx i c).iv = true
structure ToJ (l : LdP) (g : Option GtP) (x : ToX) : Prop where
  t : ∀ b c, x.tl b = some c → l.d.vd b = some c
  v : Per l.d.is x.iv ∨ (x.op = true ∧ Per l.d.is x.mb)
  i : x.iv.Nodup
  m : x.op = true → x.mb.Nodup
  g : ∀ g', g = some g' → x.op = false
  il : x.iv.length ≤ 16
  ml : x.mb.length ≤ 17
theorem told_boot {l : LdP} {x : ToX} (hI : StI l.d) (hJ : ToJ l none x) : ∀ x', x' = (if x.op = true ∧ sameP (bootP l).2.d.is x.mb = true then { x with iv := x.mb, op := x.op && !(bootP l).1.isSome } else { x with op := x.op && !(bootP l).1.isSome }) →
    sameP (bootP l).2.d.is x'.iv = true ∧ (∀ b c, x.tl b = some c → (bootP l).2.d.vd b = some c) ∧ ToJ (bootP l).2 (upB (bootP l)) x' := by
  intro x' hx'
  have hb := boot_cs hI
  generalize bootP l = r at *
  obtain ⟨_, _, hop, _⟩ := ops_sti hI
  have his : r.2.d.is = l.d.is := by
    rcases hb.d with h | h
    · rw [h, hop]
    · rw [h.1]
  have hn : r.2.d.is.Nodup := hb.st.n
  have ht : ∀ b c, x.tl b = some c → r.2.d.vd b = some c := fun b c h => hb.mono b c (hJ.t b c h)
  have hgo : ∀ g', upB r = some g' → (x.op && !r.1.isSome) = false := by
    intro g' h
    unfold upB at h
    cases e : r.1 with
    | none => rw [e] at h; cases h
    | some g => simp
  by_cases hc : x.op = true ∧ sameP r.2.d.is x.mb = true
  · rw [if_pos hc] at hx'
    subst hx'
    have hp := (sameP_iff hn (hJ.m hc.1)).1 hc.2
    exact ⟨hc.2, ht, ⟨ht, .inl ⟨hn, hJ.m hc.1, hp⟩, hJ.m hc.1, fun _ => hJ.m hc.1, hgo, by show x.mb.length ≤ 16; rw [← hp.length_eq]; exact hb.st.il, hJ.ml⟩⟩
  · rw [if_neg hc] at hx'
    subst hx'
    have hp : Per r.2.d.is x.iv := by
      rw [his]
      rcases hJ.v with h | ⟨h, h'⟩
      · exact h
      · exfalso
        exact hc ⟨h, (sameP_iff hn (hJ.m h)).2 (by rw [his]; exact h'.2.2)⟩
    refine ⟨(sameP_iff hn hJ.i).2 hp.2.2, ht, ⟨ht, .inl hp, hJ.i, fun h => hJ.m (by simp at h; exact h.1), hgo, hJ.il, hJ.ml⟩⟩
theorem stat_v {g : GtP} {id z : Int} (hg : GtI g) (h : g.st.vd id = some z) : statP g id = z := sx_v hg.on h
theorem stat_told {g : GtP} {id : Int} (hg : GtI g) (h : statP g id = 3 ∨ statP g id = 4 ∨ statP g id = 13) : g.st.vd id = some (statP g id) := by
  cases e : g.st.vd id with
  | some z => rw [stat_v hg e]
  | none =>
    exfalso
    by_cases h2 : ¬ g.st.ph = 0 ∧ g.st.fid = id
    · rw [sx_f hg.on e h2] at h; omega
    · by_cases h3 : 0 ≤ qix g.q id
      · rw [sx_q hg.on e h2 h3] at h; omega
      · cases e4 : g.rf id with
        | some c => rw [sx_rf hg.on e h2 h3 e4] at h; have := hg.rf id c e4; omega
        | none => rw [sx_un hg.on e h2 h3 e4] at h; omega
def cd13 (c : Int) : Int := if c = 13 then 3 else c
theorem abC_v (c : Int) : cd13 (abC c) = 3 ∨ cd13 (abC c) = 4 → cd13 (abC c) = c := by
  unfold abC cd13
  intro h
  repeat' split at h
  all_goals first | omega | (repeat' split) <;> omega
theorem abC_z {c : Int} (h : c = 3 ∨ c = 4) : cd13 (abC c) = c := by
  rcases h with rfl | rfl <;> rfl
theorem abort_code {g : GtP} {l : LdP} {id : Int} (hg : GtI g) (hs : g.st = l.d) (hl : l.dn = false) :
    (cd13 (abortP g l id).2 = 3 ∨ cd13 (abortP g l id).2 = 4 → (abortP g l id).1.2.d.vd id = some (cd13 (abortP g l id).2)) ∧ (∀ z, g.st.vd id = some z → cd13 (abortP g l id).2 = z) := by
  by_cases hq : 0 ≤ qix g.q id
  · obtain ⟨b, hb, he⟩ := qix_in hq
    have hv : g.st.vd id = none := by rw [← he]; exact (hg.qv b (List.mem_of_getElem? hb)).2.1
    refine ⟨?_, fun z h => by rw [hv] at h; cases h⟩
    rcases admit_cs (abS g id) hl with ⟨h1, h2⟩ | h1
    · rw [ab_q1 hg.on hq h1]; intro h; simp [cd13] at h
    · rcases store_cs (abS g id) hl with ⟨h2, h3, h4, h5⟩ | ⟨h2, h3, h4, h5⟩
      · rw [ab_q0 hg.on hq (by rw [h1]; exact h2), h1]
        intro _
        simp only
        rw [h3]
        simp [abS, rfU, cd13]
      · rw [ab_q2 hg.on hq (by rw [h1]; exact h2)]; intro h; simp [cd13] at h
  · rw [ab_r hg.on hq]
    simp only
    unfold abR
    split
    · rename_i h1
      have hv : g.st.vd id = none := by rw [← h1.2]; exact hg.s.v1 h1.1
      refine ⟨?_, fun z h => by rw [hv] at h; cases h⟩
      rcases store_cs (setlP g.st false) hl with ⟨h2, h3, h4, h5⟩ | ⟨h2, h3, h4, h5⟩
      · rw [dec_0 (g := g) (s := setlP g.st false) rfl h2]
        simp only
        rw [sx_v (c := 4) (by exact hg.on) (by simp [setlP, h1.2])]
        intro _
        rw [h3]
        simp [setlP, h1.2, cd13, abC]
      · rw [dec_2 (g := g) (s := setlP g.st false) rfl (by omega)]
        simp only
        rw [sx_off (by rfl)]
        intro h; simp [cd13, abC] at h
    · refine ⟨fun h => ?_, fun z h => ?_⟩
      · simp only at h ⊢
        have h9 := abC_v _ h
        rw [h9] at h ⊢
        rw [← hs]
        exact stat_told hg (by rcases h with h | h; exact .inl h; exact .inr (.inl h))
      · simp only
        rw [stat_v hg h]
        exact abC_z (hg.s.vr _ _ h)
theorem told_feed {g : GtP} {l : LdP} {i : InP} {x : ToX} (hg : GtI g) (hs : g.st = l.d) (hl : l.dn = false) (hJ : ToJ l (some g) x) :
    ToS (ginP g l i).1.2.d x i (ginP g l i).2.1 (ginP g l i).2.2 ∧ ToJ (ginP g l i).1.2 (if (ginP g l i).1.1.off then none else some { (ginP g l i).1.1 with out := [] }) (x.nx i (ginP g l i).2.2) := by
  have he := eff (i := i) hg hs hl
  have hop := hJ.g g rfl
  have hper : Per g.st.is x.iv := by
    rcases hJ.v with h | ⟨h, _⟩
    · rw [hs]; exact h
    · rw [hop] at h; cases h
  have hmono : ∀ b c, x.tl b = some c → (ginP g l i).1.2.d.vd b = some c := fun b c h => he.mono b c (by rw [hs]; exact hJ.t b c h)
  have htv : ∀ b c, x.tl b = some c → g.st.vd b = some c := fun b c h => by rw [hs]; exact hJ.t b c h
  by_cases h34 : i.k = 3 ∨ i.k = 4
  · have hcd : ∀ c, ToX.cd i c = c := fun c => by unfold ToX.cd; rw [if_neg (by omega)]
    have hnx : ∀ c, x.nx i c = if c = 0 then { x with iv := withP x.iv i.v (decide (i.k = 3)) } else if c = 14 then { x with mb := withP x.iv i.v (decide (i.k = 3)), op := true } else x := fun c => by
      unfold ToX.nx; rw [if_neg (by omega), if_pos h34]
    have key : ((ginP g l i).2.2 = 0 ∧ Per (ginP g l i).1.2.d.is (withP x.iv i.v (decide (i.k = 3)))) ∨ ((ginP g l i).2.2 = 14 ∧ (ginP g l i).1.1.off = true ∧ (Per (ginP g l i).1.2.d.is x.iv ∨ Per (ginP g l i).1.2.d.is (withP x.iv i.v (decide (i.k = 3))))) ∨ (¬ (ginP g l i).2.2 = 0 ∧ ¬ (ginP g l i).2.2 = 14 ∧ Per (ginP g l i).1.2.d.is x.iv) := by
      rcases h34 with hk | hk
      · have hd : decide (i.k = 3) = true := decide_eq_true hk
        rw [hd]
        unfold ginP
        rw [if_neg (by omega), if_neg (by omega), if_neg (by omega), if_pos hk]
        simp only
        cases hw : wfI i.v with
        | false => rw [ad_w hg.on hw]; exact .inr (.inr ⟨by simp, by simp, by rw [hs] at hper; exact hper⟩)
        | true =>
          by_cases hh : 0 ≤ hix g.st.is i.v
          · rw [ad_h hg.on hw hh]
            refine .inl ⟨rfl, ?_⟩
            simp only
            rw [← hs]
            exact per_hold hper (List.mem_of_getElem? (hix_in hh))
          · by_cases hm : 16 ≤ g.st.is.length
            · rw [ad_m hg.on hw hh hm]; exact .inr (.inr ⟨by simp, by simp, by rw [hs] at hper; exact hper⟩)
            · rw [ad_t hg.on hw hh hm]
              rcases tx_cs (g := g) { g.st with is := g.st.is ++ [i.v] } hl with ⟨h1, h2, h3⟩ | ⟨h1, h2, h3⟩
              · rw [h3, h1, ← hs]; exact .inr (.inr ⟨by simp, by simp, hper⟩)
              · rcases h3 with ⟨h3, h4, h5⟩ | ⟨h3, h4⟩
                · rw [h3, h4]; refine .inl ⟨rfl, ?_⟩; simp only; rw [h5]; exact per_add hper (hix_no hh)
                · refine .inr (.inl ⟨h3, h4, ?_⟩)
                  rcases h1 with h1 | h1
                  · rw [h1.1] at h4; exact absurd h4 (by simp [hg.on])
                  · rcases h1.2.2.2.1 with h5 | h5
                    · rw [h5]; exact .inr (per_add hper (hix_no hh))
                    · rw [h5, ← hs]; exact .inl hper
      · have hd : decide (i.k = 3) = false := decide_eq_false (by omega)
        rw [hd]
        unfold ginP
        rw [if_neg (by omega), if_neg (by omega), if_neg (by omega), if_neg (by omega), if_pos hk]
        simp only
        by_cases hh : hix g.st.is i.v < 0
        · rw [dr_n hg.on hh]; exact .inr (.inr ⟨by simp, by simp, by rw [hs] at hper; exact hper⟩)
        · have hin := hix_in (show 0 ≤ hix g.st.is i.v by omega)
          rw [dr_t hg.on hh]
          rcases tx_cs (g := g) { g.st with is := delP g.st.is (hix g.st.is i.v).toNat } hl with ⟨h1, h2, h3⟩ | ⟨h1, h2, h3⟩
          · rw [h3, h1, ← hs]; exact .inr (.inr ⟨by simp, by simp, hper⟩)
          · rcases h3 with ⟨h3, h4, h5⟩ | ⟨h3, h4⟩
            · rw [h3, h4]; refine .inl ⟨rfl, ?_⟩; simp only; rw [h5]; exact per_drop hper hin
            · refine .inr (.inl ⟨h3, h4, ?_⟩)
              rcases h1 with h1 | h1
              · rw [h1.1] at h4; exact absurd h4 (by simp [hg.on])
              · rcases h1.2.2.2.1 with h5 | h5
                · rw [h5]; exact .inr (per_drop hper hin)
                · rw [h5, ← hs]; exact .inl hper
    have hn := he.st.n
    generalize (ginP g l i).2.2 = c at *
    generalize (ginP g l i).1 = r at *
    have hwn := withP_nodup hJ.i i.v (decide (i.k = 3))
    rcases key with ⟨h1, h2⟩ | ⟨h1, h2, h3⟩ | ⟨h1, h2, h3⟩
    · have hx : x.nx i c = { x with iv := withP x.iv i.v (decide (i.k = 3)) } := by rw [hnx, if_pos h1]
      rw [hx]
      exact ⟨⟨fun h => by omega, fun h => by omega, .inr (by rw [hx]; exact (sameP_iff hn hwn).2 h2.2.2)⟩, ⟨hmono, .inl h2, hwn, hJ.m, fun _ _ => hop, by show (withP x.iv i.v (decide (i.k = 3))).length ≤ 16; rw [← h2.2.2.length_eq]; exact he.st.il, hJ.ml⟩⟩
    · have hx : x.nx i c = { x with mb := withP x.iv i.v (decide (i.k = 3)), op := true } := by rw [hnx, if_neg (by omega), if_pos h1]
      rw [hx, h2, if_pos rfl]
      exact ⟨⟨fun h => by omega, fun h => by omega, .inl (by rw [hcd]; exact h1)⟩, ⟨hmono, by rcases h3 with h | h; exact .inl h; exact .inr ⟨rfl, h⟩, hJ.i, fun _ => hwn, fun _ h => (by cases h), hJ.il, by have := withP_ln x.iv i.v (decide (i.k = 3)); have := hJ.il; simp only; omega⟩⟩
    · have hx : x.nx i c = x := by rw [hnx, if_neg h1, if_neg h2]
      rw [hx]
      exact ⟨⟨fun h => by omega, fun h => by omega, .inr (by rw [hx]; exact (sameP_iff hn hJ.i).2 h3.2.2)⟩, ⟨hmono, .inl h3, hJ.i, hJ.m, fun _ _ => hop, hJ.il, hJ.ml⟩⟩
  · have his := he.is (by omega) (by omega)
    have hsame : sameP (ginP g l i).1.2.d.is x.iv = true := by rw [his]; exact (sameP_iff (by rw [← his]; exact he.st.n) hJ.i).2 hper.2.2
    have hper' : Per (ginP g l i).1.2.d.is x.iv := by rw [his]; exact hper
    by_cases h12 : i.k = 1 ∨ i.k = 2
    · have hcd : ∀ c, ToX.cd i c = cd13 c := fun c => by unfold ToX.cd cd13; by_cases e : c = 13 <;> simp [h12, e]
      have hcode : (cd13 (ginP g l i).2.2 = 3 ∨ cd13 (ginP g l i).2.2 = 4 → (ginP g l i).1.2.d.vd i.id = some (cd13 (ginP g l i).2.2)) ∧ (∀ z, g.st.vd i.id = some z → cd13 (ginP g l i).2.2 = z) := by
        unfold ginP
        rcases h12 with hk | hk
        · rw [if_neg (by omega), if_pos hk]
          simp only
          refine ⟨fun h => ?_, fun z h => ?_⟩
          · have h9 : statP g i.id = 3 ∨ statP g i.id = 4 ∨ statP g i.id = 13 := by unfold cd13 at h; split at h <;> omega
            have h8 := stat_told hg h9
            have h7 := hg.s.vr _ _ h8
            rw [← hs, h8]
            unfold cd13
            rw [if_neg (by omega)]
          · rw [stat_v hg h]; unfold cd13; rw [if_neg (by have := hg.s.vr _ _ h; omega)]
        · rw [if_neg (by omega), if_neg (by omega), if_pos hk]
          exact abort_code hg hs hl
      have hiv : (x.nx i (ginP g l i).2.2).iv = x.iv := by unfold ToX.nx; rw [if_pos h12]; split <;> rfl
      refine ⟨⟨fun _ z hz => .inl (by rw [hcd]; exact hcode.2 z (htv _ _ hz)), fun h => by omega, .inr (by rw [hiv]; exact hsame)⟩, ?_⟩
      have hnx : x.nx i (ginP g l i).2.2 = if cd13 (ginP g l i).2.2 = 3 ∨ cd13 (ginP g l i).2.2 = 4 then { x with tl := rfU x.tl i.id (cd13 (ginP g l i).2.2) } else x := by unfold ToX.nx; rw [if_pos h12, hcd]
      by_cases h9 : cd13 (ginP g l i).2.2 = 3 ∨ cd13 (ginP g l i).2.2 = 4
      · rw [hnx, if_pos h9]
        refine ⟨fun b c h => ?_, .inl hper', hJ.i, hJ.m, fun _ _ => hop, hJ.il, hJ.ml⟩
        simp only [rfU] at h
        split at h
        · rename_i e
          injection h with h
          rw [e, ← h]; exact hcode.1 h9
        · exact hmono b c h
      · rw [hnx, if_neg h9]; exact ⟨hmono, .inl hper', hJ.i, hJ.m, fun _ _ => hop, hJ.il, hJ.ml⟩
    · have hx : ∀ c, x.nx i c = x := fun c => by unfold ToX.nx; rw [if_neg h12, if_neg h34]
      rw [hx]
      refine ⟨⟨fun h => absurd h h12, fun hk hz => ?_, .inr (by rw [hx]; exact hsame)⟩, ⟨hmono, .inl hper', hJ.i, hJ.m, fun _ _ => hop, hJ.il, hJ.ml⟩⟩
      unfold ginP at hz ⊢
      rw [if_pos hk] at hz ⊢
      simp only at hz ⊢
      have hno : (x.tl 0).isSome = true → False := fun h => by
        cases e : x.tl 0 with
        | none => rw [e] at h; cases h
        | some c => have := htv 0 c e; rw [hg.s.v0] at this; cases this
      cases hp : parM i.tx with
      | none => rw [hp, sb_n hg.on] at hz; exact (hno hz).elim
      | some b =>
        obtain ⟨id, cs⟩ := b
        rw [hp] at hz
        by_cases h0 : id = 0
        · rw [sb_z hg.on h0] at hz; exact (hno hz).elim
        · by_cases hd : Dup g id
          · rw [sb_d hg.on h0 hd]
          · exfalso
            apply hd
            have hz' : (x.tl id).isSome = true := by
              by_cases hl : 8 ≤ g.q.length
              · rw [sb_f hg.on h0 hd hl] at hz; exact hz
              · rw [sb_y hg.on h0 hd hl] at hz; exact hz
            cases e : x.tl id with
            | none => rw [e] at hz'; cases hz'
            | some c => exact .inl (by rw [htv id c e]; rfl)
theorem told_fall {l : LdP} {g : Option GtP} {x : ToX} (hJ : ToJ l g x) {l' : LdP} (hd : l'.d = l.d) : ToJ l' none x := ⟨by rw [hd]; exact hJ.t, by rw [hd]; exact hJ.v, hJ.i, hJ.m, fun _ h => (by cases h), hJ.il, hJ.ml⟩
theorem told_led {l : LdP} {g : Option GtP} {x : ToX} (hJ : ToJ l g x) {l' : LdP} (hd : l'.d = l.d) : ToJ l' g x := ⟨by rw [hd]; exact hJ.t, by rw [hd]; exact hJ.v, hJ.i, hJ.m, hJ.g, hJ.il, hJ.ml⟩

end Go.Proofs.Qxb6500908a

import Derived.Test.Qxb6500908aGreatW22
namespace Go.Proofs.Qxb6500908aGreat
open Go.Eng
set_option linter.unusedVariables false
set_option linter.unusedSimpArgs false

/-! ## what an input does to the gate, in kinds -/
structure InP where
  k : Int
  id : Int
  i2 : Int
  tx : List Int
  v : Iv
  m : Ms
def ginP (g : GtP) (l : LdP) (i : InP) : (GtP × LdP) × Int × Int :=
  if i.k = 0 then (((subP g (parM i.tx)).1, l), (subP g (parM i.tx)).2)
  else if i.k = 1 then ((g, l), 0, statP g i.id)
  else if i.k = 2 then ((abortP g l i.id).1, 0, (abortP g l i.id).2)
  else if i.k = 3 then ((addP g l i.v).1, 0, (addP g l i.v).2)
  else if i.k = 4 then ((dropP g l i.v).1, 0, (dropP g l i.v).2)
  else if i.k = 17 then ((g, l), diffP g i.id i.i2)
  else if i.k = 5 then (tickP g l, 0, 0)
  else if i.k = 7 then (delvP g l i.m, 0, 0)
  else ((g, l), 0, 0)
/-- the order of a durable state -/
structure StI (s : StP) : Prop where
  p : 0 ≤ s.ph ∧ s.ph ≤ 3
  f0 : s.ph = 0 → s.fid = 0
  f1 : ¬ s.ph = 0 → ¬ s.fid = 0
  v1 : s.ph = 1 → s.vd s.fid = none
  v2 : s.ph = 2 → s.vd s.fid = some 3
  v3 : s.ph = 3 → s.vd s.fid = some 4
  v0 : s.vd 0 = none
  vr : ∀ i c, s.vd i = some c → c = 3 ∨ c = 4
  n : s.is.Nodup
  il : s.is.length ≤ 16
  vl : 0 < s.vs.length
/-- the order of a gate that is up, between inputs -/
structure GtI (g : GtP) : Prop where
  s : StI g.st
  on : g.off = false
  o : g.out = []
  qn : (g.q.map Prod.fst).Nodup
  qv : ∀ b, b ∈ g.q → ¬ b.1 = 0 ∧ g.st.vd b.1 = none ∧ ¬ (¬ g.st.ph = 0 ∧ g.st.fid = b.1)
  ql : g.q.length ≤ 8
  t : 0 ≤ g.tk ∧ g.tk ≤ 8
  t1 : g.st.ph = 1 → g.tk ≤ 7
  y : 0 ≤ g.ys ∧ g.ys ≤ 65535
  y1 : g.st.ph = 1 → ¬ g.ys = 65535
  d : 0 ≤ g.dn ∧ g.dn ≤ 65535
  d2 : g.st.ph = 2 ∨ g.st.ph = 3 → ¬ g.dn = 65535
  au : g.au = true → g.st.ph = 2 ∨ g.st.ph = 3
  sl : g.st.ph = 1 → ∀ d, d < 16 → g.sl d = slP g.st.fn d
  rf : ∀ j c, g.rf j = some c → c = 9 ∨ c = 10 ∨ c = 11
/-- why a decision is taken -/
def DecW (g : GtP) (i : InP) (c : Bool) (y t : Int) : Prop :=
  (i.k = 5 ∧ c = false ∧ y = g.ys ∧ t = g.tk + 1) ∨ (i.k = 2 ∧ g.st.fid = i.id ∧ c = false ∧ y = g.ys ∧ t = g.tk) ∨
  (i.k = 7 ∧ Heed g i.m ∧ i.m.k = 4 ∧ i.m.y = false ∧ c = false ∧ y = g.ys ∧ t = g.tk) ∨
  (i.k = 7 ∧ Heed g i.m ∧ i.m.k = 4 ∧ i.m.y = true ∧ orB g.ys (sh1 i.m.d) = 65535 ∧ c = chkP g.st.fn g.st.is ∧ y = 65535 ∧ t = g.tk)
/-- what counts as a confirmation -/
def CnfW (g : GtP) (m : Ms) : Prop :=
  Heed g m ∧ ((m.k = 5 ∧ ¬ g.st.ph = 1 ∧ g.au = false) ∨ (m.k = 6 ∧ g.st.ph = 2 ∧ g.au = true ∧ m.r = g.st.fid ∧ m.s = 0) ∨ (m.k = 6 ∧ g.st.ph = 3 ∧ g.au = true ∧ ¬ m.r = g.st.fid ∧ m.s = 0))
inductive Tr (g : GtP) (i : InP) : StP → GtP → Prop
  | start (b : Int × List Ch) (q : List (Int × List Ch)) (n : NtP) (h : i.k = 5) (h0 : g.st.ph = 0) (hq : g.q = b :: q) :
      Tr g i (stNx g b.1 n) { g with q := q, st := stNx g b.1 n, sl := slF g.sl n 16, ys := 0, dn := 0, tk := 0, au := false, out := pushP { g with q := q, st := stNx g b.1 n, sl := slF g.sl n 16, ys := 0, dn := 0, tk := 0, au := false } }
  | dec (c : Bool) (y t : Int) (h1 : g.st.ph = 1) (hw : DecW g i c y t) :
      Tr g i (setlP g.st c) { g with ys := y, tk := t, st := setlP g.st c, dn := 0, out := pushP { g with ys := y, tk := t, st := setlP g.st c, dn := 0 } }
  | cls (h : i.k = 7) (hc : CnfW g i.m) (hd : orB g.dn (sh1 i.m.d) = 65535) : Tr g i (clsP g.st) { g with dn := 65535, st := clsP g.st, au := false }
  | abq (h : i.k = 2) (hq : 0 ≤ qix g.q i.id) : Tr g i (abS g i.id) { g with st := abS g i.id, q := delP g.q (qix g.q i.id).toNat }
  | add (h : i.k = 3) (hw : wfI i.v = true) (hh : ¬ 0 ≤ hix g.st.is i.v) (hl : ¬ 16 ≤ g.st.is.length) : Tr g i { g.st with is := g.st.is ++ [i.v] } { g with st := { g.st with is := g.st.is ++ [i.v] } }
  | drop (h : i.k = 4) (hh : 0 ≤ hix g.st.is i.v) : Tr g i { g.st with is := delP g.st.is (hix g.st.is i.v).toNat } { g with st := { g.st with is := delP g.st.is (hix g.st.is i.v).toNat } }
inductive Qt (g : GtP) (i : InP) : GtP → Prop
  | same (h5 : i.k = 5 → g.st.ph = 0 ∧ g.q = []) (h7 : i.k = 7 → ¬ (Heed g i.m ∧ i.m.k = 4 ∧ g.st.ph = 1) ∧ ¬ CnfW g i.m) : Qt g i g
  | sub (b : Int × List Ch) (f : Int → Option Int) (h : i.k = 0) (h0 : ¬ b.1 = 0) (hd : ¬ Dup g b.1) (hl : g.q.length < 8) (hf : ∀ j c, f j = some c → g.rf j = some c ∨ c = 9 ∨ c = 10 ∨ c = 11) : Qt g i { g with rf := f, q := g.q ++ [b] }
  | ref (b : Int × List Ch) (q : List (Int × List Ch)) (f : Int → Option Int) (h : i.k = 5) (h0 : g.st.ph = 0) (hq : g.q = b :: q) (hf : ∀ j c, f j = some c → g.rf j = some c ∨ c = 9 ∨ c = 10 ∨ c = 11) : Qt g i { g with q := q, rf := f }
  | wait (h : i.k = 5) (h1 : g.st.ph = 1) (ht : g.tk + 1 < 8) : Qt g i { g with tk := g.tk + 1, out := pushP { g with tk := g.tk + 1 } }
  | rep (h : i.k = 5) (h1 : g.st.ph = 2 ∨ g.st.ph = 3) : Qt g i { g with out := pushP g }
  | yes (h : i.k = 7) (hh : Heed g i.m) (hk : i.m.k = 4) (h1 : g.st.ph = 1) (hy : i.m.y = true) (hn : ¬ orB g.ys (sh1 i.m.d) = 65535) : Qt g i { g with ys := orB g.ys (sh1 i.m.d) }
  | cnf (h : i.k = 7) (hc : CnfW g i.m) (hn : ¬ orB g.dn (sh1 i.m.d) = 65535) : Qt g i { g with dn := orB g.dn (sh1 i.m.d) }
/-- what a transaction comes to -/
def TrR (l l' : LdP) (s : StP) (g1 g' : GtP) : Prop :=
  (g' = g1 ∧ l'.d = s ∧ l'.dn = false ∧ (l.fu ≤ 0 → l'.fu = l.fu)) ∨ (g'.off = true ∧ g'.out = [] ∧ l'.dn = true ∧ (l'.d = s ∨ l'.d = l.d) ∧ 0 < l.fu)
theorem store_cs {l : LdP} (s : StP) (h : l.dn = false) : ((storeP l s).2 = 0 ∧ (storeP l s).1.d = s ∧ (storeP l s).1.dn = false ∧ (l.fu ≤ 0 → (storeP l s).1.fu = l.fu)) ∨ ((storeP l s).2 = 2 ∧ (storeP l s).1.dn = true ∧ ((storeP l s).1.d = s ∨ (storeP l s).1.d = l.d) ∧ 0 < l.fu) := by
  by_cases h1 : 0 < l.fu
  · by_cases h2 : l.fu - 1 = 0
    · cases h3 : l.kp with
      | true => rw [sp_k h h1 h2 h3]; exact .inr ⟨rfl, rfl, .inl rfl, h1⟩
      | false => rw [sp_n h h1 h2 h3]; exact .inr ⟨rfl, rfl, .inr rfl, h1⟩
    · rw [sp_f h h1 h2]; exact .inl ⟨rfl, rfl, h, fun h9 => by omega⟩
  · rw [sp_0 h h1]; exact .inl ⟨rfl, rfl, h, fun _ => rfl⟩
theorem admit_cs {l : LdP} (s : StP) (h : l.dn = false) : ((admitP l s).2 = 1 ∧ (admitP l s).1 = l) ∨ admitP l s = storeP l s := by
  unfold admitP
  rw [if_neg (by rw [h]; simp)]
  split
  · exact .inl ⟨rfl, rfl⟩
  · exact .inr rfl
theorem store_tr {l : LdP} {s : StP} {g1 g2 : GtP} (h : l.dn = false) (hf : g2.off = true ∧ g2.out = []) :
    TrR l (storeP l s).1 s g1 (if (storeP l s).2 = 0 then g1 else g2) := by
  rcases store_cs s h with ⟨h1, h2, h3, h4⟩ | ⟨h1, h2, h3, h4⟩
  · rw [if_pos h1]; exact .inl ⟨rfl, h2, h3, h4⟩
  · rw [if_neg (by omega)]; exact .inr ⟨hf.1, hf.2, h2, h3, h4⟩
theorem tx_cs {g : GtP} {l : LdP} (s : StP) (h : l.dn = false) : ((txP g l s).1.2 = l ∧ (txP g l s).1.1 = g ∧ (txP g l s).2 = 11) ∨
    (TrR l (txP g l s).1.2 s { g with st := s } (txP g l s).1.1 ∧ (txP g l s).1.2 = (storeP l s).1 ∧ ((txP g l s).2 = 0 ∧ (txP g l s).1 = ({ g with st := s }, (storeP l s).1) ∧ (storeP l s).1.d = s ∨ (txP g l s).2 = 14 ∧ (txP g l s).1.1.off = true)) := by
  rcases admit_cs s h with ⟨h1, h2⟩ | h1
  · rw [tx_1 h1]; exact .inl ⟨h2, rfl, rfl⟩
  · refine .inr ?_
    rcases store_cs s h with ⟨h2, h3, h4, h5⟩ | ⟨h2, h3, h4, h5⟩
    · rw [tx_0 (by rw [h1]; exact h2), h1]; exact ⟨.inl ⟨rfl, h3, h4, h5⟩, rfl, .inl ⟨rfl, rfl, h3⟩⟩
    · rw [tx_2 (by rw [h1]; exact h2), h1]; exact ⟨.inr ⟨rfl, rfl, h3, h4, h5⟩, rfl, .inr ⟨rfl, rfl⟩⟩
def GinR (g : GtP) (l : LdP) (i : InP) (r : GtP × LdP) : Prop := (r.2 = l ∧ Qt g i r.1) ∨ ∃ s g1, Tr g i s g1 ∧ TrR l r.2 s g1 r.1
theorem dec_cs {g : GtP} {l : LdP} {i : InP} {cm : Bool} {y t : Int} (h : l.dn = false) (h1 : g.st.ph = 1) (ho : g.out = []) (hw : DecW g i (cm && chkP g.st.fn g.st.is) y t) : GinR g l i (decP { g with ys := y, tk := t } l cm) := by
  refine .inr ⟨_, _, .dec (cm && chkP g.st.fn g.st.is) y t h1 hw, ?_⟩
  rcases store_cs (setlP g.st (cm && chkP g.st.fn g.st.is)) h with ⟨h2, h3, h4, h5⟩ | ⟨h2, h3, h4, h5⟩
  · rw [dec_0 (g := { g with ys := y, tk := t }) (s := setlP g.st (cm && chkP g.st.fn g.st.is)) rfl h2]
    exact .inl ⟨by simp only [ho, List.nil_append], h3, h4, h5⟩
  · rw [dec_2 (g := { g with ys := y, tk := t }) (s := setlP g.st (cm && chkP g.st.fn g.st.is)) rfl (by omega)]
    exact .inr ⟨rfl, rfl, h3, h4, h5⟩
theorem cnf_cs {g : GtP} {l : LdP} {i : InP} (h : l.dn = false) (hk : i.k = 7) (hc : CnfW g i.m) : GinR g l i (cnfP g l (sh1 i.m.d)) := by
  by_cases hd : orB g.dn (sh1 i.m.d) = 65535
  · refine .inr ⟨_, _, .cls hk hc hd, ?_⟩
    rcases store_cs (clsP g.st) h with ⟨h2, h3, h4, h5⟩ | ⟨h2, h3, h4, h5⟩
    · rw [cn_0 hd rfl h2, hd]; exact .inl ⟨rfl, h3, h4, h5⟩
    · rw [cn_2 hd rfl (by omega)]; exact .inr ⟨rfl, rfl, h3, h4, h5⟩
  · rw [cn_n hd]; exact .inl ⟨rfl, .cnf hk hc hd⟩
theorem vc_some {g : GtP} {cs : List Ch} (h : vcP g cs = 0) : ∃ n, apP (lastV g) cs = some n := by
  unfold vcP at h
  cases e : apP (lastV g) cs with
  | none => rw [e] at h; simp at h
  | some n => exact ⟨n, rfl⟩
theorem rfU_f {f : Int → Option Int} {b z : Int} (hz : z = 9 ∨ z = 10 ∨ z = 11) : ∀ j c, rfU f b z j = some c → f j = some c ∨ c = 9 ∨ c = 10 ∨ c = 11 := by
  intro j c h
  unfold rfU at h
  split at h
  · injection h with h; omega
  · exact .inl h
theorem start_cs {g : GtP} {l : LdP} {i : InP} (h : l.dn = false) (hk : i.k = 5) (h0 : g.st.ph = 0) (ho : g.out = []) : GinR g l i (startP g l) := by
  cases hq : g.q with
  | nil => rw [sx_0 hq]; exact .inl ⟨rfl, .same (fun _ => ⟨h0, hq⟩) (fun h => by omega)⟩
  | cons b q =>
    by_cases hv : vcP g b.2 = 0
    · obtain ⟨n, hn⟩ := vc_some hv
      rcases admit_cs (stNx g b.1 n) h with ⟨h1, h2⟩ | h1
      · rw [sx_1 hq hv hn h1, h2]; exact .inl ⟨rfl, .ref b q _ hk h0 hq (rfU_f (by omega))⟩
      · refine .inr ⟨_, _, .start b q n hk h0 hq, ?_⟩
        rcases store_cs (stNx g b.1 n) h with ⟨h2, h3, h4, h5⟩ | ⟨h2, h3, h4, h5⟩
        · rw [sx_y hq hv hn (by rw [h1]; exact h2), h1]; exact .inl ⟨by simp only [ho, List.nil_append], h3, h4, h5⟩
        · rw [sx_2 hq hv hn (by rw [h1]; exact h2), h1]; exact .inr ⟨rfl, rfl, h3, h4, h5⟩
    · rw [sx_r hq hv]; exact .inl ⟨rfl, .ref b q _ hk h0 hq (rfU_f (by have := vc_b g b.2; omega))⟩
theorem same_ne {g : GtP} {i : InP} (h5 : ¬ i.k = 5) (h7 : ¬ i.k = 7) : Qt g i g := .same (fun h => absurd h h5) (fun h => absurd h h7)
theorem gin_cs {g : GtP} {l : LdP} {i : InP} (hg : GtI g) (h : l.dn = false) : GinR g l i (ginP g l i).1 := by
  unfold ginP
  split
  · rename_i hk
    refine .inl ⟨rfl, ?_⟩
    show Qt g i (subP g (parM i.tx)).1
    cases hp : parM i.tx with
    | none => rw [sb_n hg.on]; exact same_ne (by omega) (by omega)
    | some b =>
      obtain ⟨id, cs⟩ := b
      by_cases h0 : id = 0
      · rw [sb_z hg.on h0]; exact same_ne (by omega) (by omega)
      · by_cases hd : Dup g id
        · rw [sb_d hg.on h0 hd]; exact same_ne (by omega) (by omega)
        · by_cases hl : 8 ≤ g.q.length
          · rw [sb_f hg.on h0 hd hl]; exact same_ne (by omega) (by omega)
          · rw [sb_y hg.on h0 hd hl]; exact .sub (id, cs) _ hk h0 hd (by omega) (fun j c h => by unfold rfD at h; split at h; cases h; exact .inl h)
  split
  · exact .inl ⟨rfl, same_ne (by omega) (by omega)⟩
  split
  · rename_i hk
    show GinR g l i (abortP g l i.id).1
    by_cases hq : 0 ≤ qix g.q i.id
    · rcases admit_cs (abS g i.id) h with ⟨h1, h2⟩ | h1
      · rw [ab_q1 hg.on hq h1, h2]; exact .inl ⟨rfl, same_ne (by omega) (by omega)⟩
      · refine .inr ⟨_, _, .abq hk hq, ?_⟩
        rcases store_cs (abS g i.id) h with ⟨h2, h3, h4, h5⟩ | ⟨h2, h3, h4, h5⟩
        · rw [ab_q0 hg.on hq (by rw [h1]; exact h2), h1]; exact .inl ⟨rfl, h3, h4, h5⟩
        · rw [ab_q2 hg.on hq (by rw [h1]; exact h2), h1]; exact .inr ⟨rfl, rfl, h3, h4, h5⟩
    · rw [ab_r hg.on hq]
      show GinR g l i (abR g l i.id)
      unfold abR
      split
      · rename_i he
        have := dec_cs (g := g) (l := l) (i := i) (cm := false) (y := g.ys) (t := g.tk) h he.1 hg.o (.inr (.inl ⟨hk, he.2, rfl, rfl, rfl⟩))
        exact this
      · exact .inl ⟨rfl, same_ne (by omega) (by omega)⟩
  split
  · rename_i hk
    show GinR g l i (addP g l i.v).1
    cases hw : wfI i.v with
    | false => rw [ad_w hg.on hw]; exact .inl ⟨rfl, same_ne (by omega) (by omega)⟩
    | true =>
      by_cases hh : 0 ≤ hix g.st.is i.v
      · rw [ad_h hg.on hw hh]; exact .inl ⟨rfl, same_ne (by omega) (by omega)⟩
      · by_cases hl : 16 ≤ g.st.is.length
        · rw [ad_m hg.on hw hh hl]; exact .inl ⟨rfl, same_ne (by omega) (by omega)⟩
        · rw [ad_t hg.on hw hh hl]
          rcases tx_cs { g.st with is := g.st.is ++ [i.v] } h with ⟨h1, h2, _⟩ | ⟨h1, _⟩
          · exact .inl ⟨h1, by rw [h2]; exact same_ne (by omega) (by omega)⟩
          · exact .inr ⟨_, _, .add hk hw hh hl, h1⟩
  split
  · rename_i hk
    show GinR g l i (dropP g l i.v).1
    by_cases hh : hix g.st.is i.v < 0
    · rw [dr_n hg.on hh]; exact .inl ⟨rfl, same_ne (by omega) (by omega)⟩
    · rw [dr_t hg.on hh]
      rcases tx_cs { g.st with is := delP g.st.is (hix g.st.is i.v).toNat } h with ⟨h1, h2, _⟩ | ⟨h1, _⟩
      · exact .inl ⟨h1, by rw [h2]; exact same_ne (by omega) (by omega)⟩
      · exact .inr ⟨_, _, .drop hk (by omega), h1⟩
  split
  · exact .inl ⟨rfl, same_ne (by omega) (by omega)⟩
  split
  · rename_i hk
    show GinR g l i (tickP g l)
    by_cases h0 : g.st.ph = 0
    · rw [tk_0 hg.on h0]; exact start_cs h hk h0 hg.o
    · by_cases h1 : g.st.ph = 1
      · by_cases h2 : 8 ≤ g.tk + 1
        · rw [tk_1t hg.on h1 h2]
          have := dec_cs (g := g) (l := l) (i := i) (cm := false) (y := g.ys) (t := g.tk + 1) h h1 hg.o (.inl ⟨hk, rfl, rfl, rfl⟩)
          exact this
        · rw [tk_1f hg.on h1 h2, hg.o, List.nil_append]; exact .inl ⟨rfl, .wait hk h1 (by omega)⟩
      · rw [tk_2 hg.on h0 h1, hg.o, List.nil_append]; exact .inl ⟨rfl, .rep hk (by have := hg.s.p; omega)⟩
  split
  · rename_i hk
    show GinR g l i (delvP g l i.m)
    by_cases hh : Heed g i.m
    · by_cases h4 : i.m.k = 4 ∧ g.st.ph = 1
      · cases hy : i.m.y with
        | false =>
          rw [dl_4n hh h4 hy]
          have := dec_cs (g := g) (l := l) (i := i) (cm := false) (y := g.ys) (t := g.tk) h h4.2 hg.o (.inr (.inr (.inl ⟨hk, hh, h4.1, hy, rfl, rfl, rfl⟩)))
          exact this
        | true =>
          by_cases ha : orB g.ys (sh1 i.m.d) = 65535
          · rw [dl_4y hh h4 hy ha, ha]
            have := dec_cs (g := g) (l := l) (i := i) (cm := true) (y := 65535) (t := g.tk) h h4.2 hg.o (.inr (.inr (.inr ⟨hk, hh, h4.1, hy, ha, rfl, rfl, rfl⟩)))
            exact this
          · rw [dl_4w hh h4 hy ha]; exact .inl ⟨rfl, .yes hk hh h4.1 h4.2 hy ha⟩
      · by_cases h5 : i.m.k = 5 ∧ ¬ g.st.ph = 1 ∧ g.au = false
        · rw [dl_5 hh h5]; exact cnf_cs h hk ⟨hh, .inl h5⟩
        · by_cases h6 : i.m.k = 6 ∧ g.st.ph = 2 ∧ g.au = true
          · by_cases h7 : i.m.r = g.st.fid ∧ i.m.s = 0
            · rw [dl_6y hh h6 h7]; exact cnf_cs h hk ⟨hh, .inr (.inl ⟨h6.1, h6.2.1, h6.2.2, h7.1, h7.2⟩)⟩
            · rw [dl_6n hh h6 h7]
              refine .inl ⟨rfl, .same (fun h => by omega) fun _ => ⟨fun h9 => h4 ⟨h9.2.1, h9.2.2⟩, fun h9 => ?_⟩⟩
              rcases h9.2 with h8 | h8 | h8
              · omega
              · exact h7 ⟨h8.2.2.2.1, h8.2.2.2.2⟩
              · omega
          · by_cases h7 : i.m.k = 6 ∧ g.st.ph = 3 ∧ g.au = true
            · by_cases h8 : ¬ i.m.r = g.st.fid ∧ i.m.s = 0
              · rw [dl_7y hh h7 h8]; exact cnf_cs h hk ⟨hh, .inr (.inr ⟨h7.1, h7.2.1, h7.2.2, h8.1, h8.2⟩)⟩
              · rw [dl_7n hh h7 h8]
                refine .inl ⟨rfl, .same (fun h => by omega) fun _ => ⟨fun h9 => h4 ⟨h9.2.1, h9.2.2⟩, fun h9 => ?_⟩⟩
                rcases h9.2 with h6 | h6 | h6
                · omega
                · omega
                · exact h8 ⟨h6.2.2.2.1, h6.2.2.2.2⟩
            · rw [dl_x hh h4 h5 h6 h7]
              refine .inl ⟨rfl, .same (fun h => by omega) fun _ => ⟨fun h9 => h4 ⟨h9.2.1, h9.2.2⟩, fun h9 => ?_⟩⟩
              rcases h9.2 with h8 | h8 | h8
              · exact h5 h8
              · exact h6 ⟨h8.1, h8.2.1, h8.2.2.1⟩
              · exact h7 ⟨h8.1, h8.2.1, h8.2.2.1⟩
    · rw [dl_n hh]; exact .inl ⟨rfl, .same (fun h => by omega) fun _ => ⟨fun h9 => hh h9.1, fun h9 => hh h9.1⟩⟩
  · exact .inl ⟨rfl, same_ne (by omega) (by omega)⟩
theorem qix_in {q : List (Int × List Ch)} {id : Int} (h : 0 ≤ qix q id) : ∃ b, q[(qix q id).toNat]? = some b ∧ b.1 = id := by
  unfold qix at h ⊢
  cases e : q.findIdx? (fun b => decide (b.1 = id)) with
  | none => rw [e] at h; simp at h
  | some i =>
    obtain ⟨h1, h2, _⟩ := List.findIdx?_eq_some_iff_getElem.1 e
    exact ⟨q[i], by simp [List.getElem?_eq_getElem h1], of_decide_eq_true h2⟩
theorem qix_no {q : List (Int × List Ch)} {id : Int} (h : ¬ 0 ≤ qix q id) : ∀ b, b ∈ q → ¬ b.1 = id := by
  unfold qix at h
  cases e : q.findIdx? (fun b => decide (b.1 = id)) with
  | some i => rw [e] at h; simp at h
  | none =>
    intro b hb he
    have := List.findIdx?_eq_none_iff.1 e b hb
    simp [he] at this
theorem hix_in {q : List Iv} {v : Iv} (h : 0 ≤ hix q v) : q[(hix q v).toNat]? = some v := by
  unfold hix at h ⊢
  cases e : q.findIdx? (fun b => decide (b = v)) with
  | none => rw [e] at h; simp at h
  | some i =>
    obtain ⟨h1, h2, _⟩ := List.findIdx?_eq_some_iff_getElem.1 e
    have h3 : q[i] = v := of_decide_eq_true h2
    simp [List.getElem?_eq_getElem h1, h3]
theorem hix_no {q : List Iv} {v : Iv} (h : ¬ 0 ≤ hix q v) : ¬ v ∈ q := by
  unfold hix at h
  cases e : q.findIdx? (fun b => decide (b = v)) with
  | some i => rw [e] at h; simp at h
  | none =>
    intro hb
    have := List.findIdx?_eq_none_iff.1 e v hb
    simp at this
theorem split_at {α : Type} {l : List α} {i : Nat} {x : α} (h : l[i]? = some x) : l = l.take i ++ x :: l.drop (i + 1) := by
  obtain ⟨h1, h2⟩ := List.getElem?_eq_some_iff.1 h
  rw [← h2, List.getElem_cons_drop, List.take_append_drop]
theorem delP_sub {α : Type} (l : List α) (i : Nat) : (delP l i).Sublist l := by
  unfold delP
  conv => rhs; rw [← List.take_append_drop i l]
  exact List.Sublist.append (List.Sublist.refl _) (by rw [← List.drop_drop]; exact List.drop_sublist 1 _)
theorem delP_ne {α β : Type} {f : α → β} {q : List α} {i : Nat} {b : α} (hn : (q.map f).Nodup) (hb : q[i]? = some b) : ∀ c, c ∈ delP q i → ¬ f c = f b := by
  intro c hc he
  have hs := split_at hb
  rw [hs, List.map_append, List.map_cons, List.nodup_append] at hn
  unfold delP at hc
  rcases List.mem_append.1 hc with h | h
  · exact hn.2.2 (f c) (List.mem_map.2 ⟨c, h, rfl⟩) (f b) (List.mem_cons_self ..) he
  · exact (List.nodup_cons.1 hn.2.1).1 (List.mem_map.2 ⟨c, h, he⟩)
theorem Tr.sti {g : GtP} {i : InP} {s : StP} {g1 : GtP} (h : Tr g i s g1) (hg : GtI g) : StI s ∧ g1.st = s := by
  obtain ⟨p, f0, f1, v1, v2, v3, v0, vr, n, il, vl⟩ := hg.s
  cases h with
  | start b q nt hk h0 hq =>
    have hb := hg.qv b (by rw [hq]; exact List.mem_cons_self ..)
    exact ⟨⟨by simp [stNx], fun h => by simp [stNx] at h, fun _ => hb.1, fun _ => hb.2.1, fun h => by simp [stNx] at h, fun h => by simp [stNx] at h, v0, vr, n, il, vl⟩, rfl⟩
  | dec c y t h1 hw =>
    refine ⟨⟨by simp only [setlP]; split <;> omega, fun h => ?_, fun _ => f1 (by omega), fun h => ?_, fun h => ?_, fun h => ?_, ?_, fun i c' h => ?_, n, il, vl⟩, rfl⟩
    · simp only [setlP] at h; split at h <;> omega
    · simp only [setlP] at h; split at h <;> omega
    · simp only [setlP] at h ⊢
      split at h
      · simp [*]
      · omega
    · simp only [setlP] at h ⊢
      split at h
      · omega
      · simp [*]
    · simp only [setlP]; rw [if_neg (by have := f1 (by omega); omega)]; exact v0
    · simp only [setlP] at h
      split at h
      · injection h with h
        split at h <;> omega
      · exact vr i c' h
  | cls hk hc hd =>
    exact ⟨⟨by simp [clsP], fun _ => rfl, fun h => absurd rfl h, fun h => by simp [clsP] at h, fun h => by simp [clsP] at h, fun h => by simp [clsP] at h, v0, vr, n, il, by simp only [clsP]; split; simp; exact vl⟩, rfl⟩
  | abq hk hq =>
    obtain ⟨b, hb, he⟩ := qix_in hq
    have hb := hg.qv b (List.mem_of_getElem? hb)
    rw [he] at hb
    refine ⟨⟨p, f0, f1, fun h => ?_, fun h => ?_, fun h => ?_, ?_, fun j c h => ?_, n, il, vl⟩, rfl⟩
    · simp only [abS, rfU] at h ⊢; rw [if_neg (fun e => hb.2.2 ⟨by omega, e⟩)]; exact v1 h
    · simp only [abS, rfU] at h ⊢; rw [if_neg (fun e => hb.2.2 ⟨by omega, e⟩)]; exact v2 h
    · simp only [abS, rfU] at h ⊢; rw [if_neg (fun e => hb.2.2 ⟨by omega, e⟩)]; exact v3 h
    · simp only [abS, rfU]; rw [if_neg (fun e => hb.1 e.symm)]; exact v0
    · simp only [abS, rfU] at h
      split at h
      · injection h with h; omega
      · exact vr j c h
  | add hk hw hh hl =>
    refine ⟨⟨p, f0, f1, v1, v2, v3, v0, vr, ?_, by simp; omega, vl⟩, rfl⟩
    show (g.st.is ++ [i.v]).Nodup
    rw [List.nodup_append]
    exact ⟨n, by simp, fun x hx y hy e => by rw [List.mem_singleton.1 hy] at e; exact hix_no hh (e ▸ hx)⟩
  | drop hk hh => exact ⟨⟨p, f0, f1, v1, v2, v3, v0, vr, (delP_sub _ _).nodup n, by have := (delP_sub g.st.is (hix g.st.is i.v).toNat).length_le; simp only; omega, vl⟩, rfl⟩
theorem slF_16 {f : Nat → ByteArray} {n : NtP} {d : Nat} (h : d < 16) : slF f n 16 d = slP n d := by unfold slF; rw [if_pos h]
theorem Tr.gti {g : GtP} {i : InP} {s : StP} {g1 : GtP} (h : Tr g i s g1) (hg : GtI g) : GtI { g1 with out := [] } := by
  have hs := h.sti hg
  have hs' : StI g1.st := by rw [hs.2]; exact hs.1
  cases h with
  | start b q nt hk h0 hq =>
    have hqn := hg.qn
    rw [hq, List.map_cons, List.nodup_cons] at hqn
    exact ⟨hs', hg.on, rfl, hqn.2, fun c hc => by
      have h9 := hg.qv c (by rw [hq]; exact List.mem_cons_of_mem _ hc)
      exact ⟨h9.1, h9.2.1, fun e => hqn.1 (List.mem_map.2 ⟨c, hc, e.2.symm⟩)⟩, by have := hg.ql; rw [hq, List.length_cons] at this; simp only; omega, by simp, fun _ => by simp, by simp, fun _ => by simp, by simp, fun _ => by simp, fun h => by simp at h, fun _ d hd => slF_16 hd, hg.rf⟩
  | dec c y t h1 hw =>
    have hp : ¬ (setlP g.st c).ph = 1 := by simp only [setlP]; split <;> omega
    have ht : 0 ≤ t ∧ t ≤ 8 := by
      have h9 := hg.t; have h8 := hg.t1 h1
      rcases hw with h | h | h | h <;> omega
    have hy : 0 ≤ y ∧ y ≤ 65535 := by
      have h9 := hg.y
      rcases hw with h | h | h | h <;> omega
    refine ⟨hs', hg.on, rfl, hg.qn, fun b hb => ?_, hg.ql, ht, fun h => absurd h hp, hy, fun h => absurd h hp, by simp, fun _ => by simp, fun h => ?_, fun h => absurd h hp, hg.rf⟩
    · have h9 := hg.qv b hb
      refine ⟨h9.1, ?_, fun e => h9.2.2 ⟨by omega, e.2⟩⟩
      simp only [setlP]
      rw [if_neg (fun e => h9.2.2 ⟨by omega, e.symm⟩)]; exact h9.2.1
    · have := hg.au h; omega
  | cls hk hc hd => exact ⟨hs', hg.on, rfl, hg.qn, fun b hb => ⟨(hg.qv b hb).1, (hg.qv b hb).2.1, fun e => e.1 rfl⟩, hg.ql, hg.t, fun h => by simp [clsP] at h, hg.y, fun h => by simp [clsP] at h, by simp, fun h => by simp [clsP] at h, fun h => by simp at h, fun h => by simp [clsP] at h, hg.rf⟩
  | abq hk hq =>
    obtain ⟨b, hb, he⟩ := qix_in hq
    refine ⟨hs', hg.on, rfl, ((delP_sub _ _).map _).nodup hg.qn, fun c hc => ?_, by have := (delP_sub g.q (qix g.q i.id).toNat).length_le; have := hg.ql; simp only; omega, hg.t, hg.t1, hg.y, hg.y1, hg.d, hg.d2, hg.au, hg.sl, hg.rf⟩
    have h9 := hg.qv c (delP_mem hc)
    have h8 := delP_ne hg.qn hb c hc
    refine ⟨h9.1, ?_, h9.2.2⟩
    simp only [abS, rfU]
    rw [if_neg (by rw [← he]; exact h8)]; exact h9.2.1
  | add hk hw hh hl => exact ⟨hs', hg.on, rfl, hg.qn, hg.qv, hg.ql, hg.t, hg.t1, hg.y, hg.y1, hg.d, hg.d2, hg.au, hg.sl, hg.rf⟩
  | drop hk hh => exact ⟨hs', hg.on, rfl, hg.qn, hg.qv, hg.ql, hg.t, hg.t1, hg.y, hg.y1, hg.d, hg.d2, hg.au, hg.sl, hg.rf⟩
theorem Qt.gti {g : GtP} {i : InP} {g1 : GtP} (h : Qt g i g1) (hg : GtI g) : GtI { g1 with out := [] } ∧ g1.st = g.st := by
  obtain ⟨s, on, o, qn, qv, ql, t, t1, y, y1, d, d2, au, sl, rf⟩ := hg
  cases h with
  | same h5 h7 => exact ⟨⟨s, on, rfl, qn, qv, ql, t, t1, y, y1, d, d2, au, sl, rf⟩, rfl⟩
  | sub b f h h0 hd hl hf =>
    have hd1 : g.st.vd b.1 = none := by
      cases e : g.st.vd b.1 with
      | none => rfl
      | some c => exact absurd (.inl (by rw [e]; rfl)) hd
    have hd2 : ¬ 0 ≤ qix g.q b.1 := fun h => hd (.inr (.inl h))
    have hd3 : ¬ (¬ g.st.ph = 0 ∧ g.st.fid = b.1) := fun h => hd (.inr (.inr h))
    refine ⟨⟨s, on, rfl, ?_, fun c hc => ?_, by simp; omega, t, t1, y, y1, d, d2, au, sl, (fun j c h => by rcases hf j c h with h | h; exact rf j c h; exact h)⟩, rfl⟩
    · simp only [List.map_append, List.map_cons, List.map_nil]
      rw [List.nodup_append]
      refine ⟨qn, by simp, fun x hx z hz e => ?_⟩
      obtain ⟨c, hc, rfl⟩ := List.mem_map.1 hx
      exact qix_no hd2 c hc (by rw [e]; exact List.mem_singleton.1 hz)
    · rcases List.mem_append.1 hc with h9 | h9
      · exact qv c h9
      · rw [List.mem_singleton.1 h9]; exact ⟨h0, hd1, hd3⟩
  | ref b q f h h0 hq hf =>
    rw [hq, List.map_cons, List.nodup_cons] at qn
    exact ⟨⟨s, on, rfl, qn.2, fun c hc => qv c (by rw [hq]; exact List.mem_cons_of_mem _ hc), by rw [hq, List.length_cons] at ql; simp only; omega, t, t1, y, y1, d, d2, au, sl, (fun j c h => by rcases hf j c h with h | h; exact rf j c h; exact h)⟩, rfl⟩
  | wait h h1 ht => exact ⟨⟨s, on, rfl, qn, qv, ql, by simp only; omega, fun _ => by simp only; omega, y, y1, d, d2, au, sl, rf⟩, rfl⟩
  | rep h h1 => exact ⟨⟨s, on, rfl, qn, qv, ql, t, t1, y, y1, d, d2, au, sl, rf⟩, rfl⟩
  | yes h hh hk h1 hy hn => exact ⟨⟨s, on, rfl, qn, qv, ql, t, t1, orB_bd _ _, fun _ => hn, d, d2, au, sl, rf⟩, rfl⟩
  | cnf h hc hn => exact ⟨⟨s, on, rfl, qn, qv, ql, t, t1, y, y1, orB_bd _ _, fun _ => hn, au, sl, rf⟩, rfl⟩
/-- what is sent -/
theorem Tr.out {g : GtP} {i : InP} {s : StP} {g1 : GtP} (h : Tr g i s g1) (hg : GtI g) : g1.out = [] ∨ g1.out = pushP g1 := by
  cases h with
  | start b q nt hk h0 hq => exact .inr rfl
  | dec c y t h1 hw => exact .inr rfl
  | cls hk hc hd => exact .inl hg.o
  | abq hk hq => exact .inl hg.o
  | add hk hw hh hl => exact .inl hg.o
  | drop hk hh => exact .inl hg.o
theorem Qt.out {g : GtP} {i : InP} {g1 : GtP} (h : Qt g i g1) (hg : GtI g) : g1.out = [] ∨ g1.out = pushP g1 := by
  cases h with
  | wait h h1 ht => exact .inr rfl
  | rep h h1 => exact .inr rfl
  | _ => exact .inl hg.o

end Go.Proofs.Qxb6500908aGreat

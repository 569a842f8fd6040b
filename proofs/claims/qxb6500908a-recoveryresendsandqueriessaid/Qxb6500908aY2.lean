import Derived.Test.Qxb6500908aY1
namespace Go.Proofs.Qxb6500908a
open Go.Eng
set_option linter.unusedVariables false
set_option linter.unusedSimpArgs false

/-! ## the laws of votes, plainly -/
structure VoX where
  pv : StP
  ys : Int → Int
  cm : Int → Bool
  rl : Int → Bool
  tk : Int
def VoV (x : VoX) (i : InP) : Prop := i.k = 7 ∧ i.m.k = 4 ∧ i.m.d < 16 ∧ i.m.e = x.pv.ep
instance (x : VoX) (i : InP) : Decidable (VoV x i) := by unfold VoV; infer_instance
def VoX.ny (x : VoX) (i : InP) : Int → Int := fun b => if (VoV x i ∧ i.m.y = true) ∧ b = i.m.b then orB (x.ys b) (sh1 i.m.d) else x.ys b
def cmU (f : Int → Bool) (k : Int) (sent : List Ms) : Int → Bool := fun b => f b || sent.any (fun m => decide (m.k = k) && decide (m.b = b))
def VoX.nt (x : VoX) (i : InP) : Int := if x.pv.ph = 1 then (if i.k = 5 then x.tk + 1 else x.tk) else 0
def VoX.nx (x : VoX) (i : InP) (now : StP) (sent : List Ms) : VoX := ⟨now, x.ny i, cmU x.cm 1 sent, cmU x.rl 2 sent, x.nt i⟩
theorem cmU_iff {f : Int → Bool} {k : Int} {sent : List Ms} {b : Int} : cmU f k sent b = true ↔ f b = true ∨ ∃ m, m ∈ sent ∧ m.k = k ∧ m.b = b := by
  unfold cmU
  simp
/-- the messages are right -/
def SntR (now : StP) (ys : Int → Int) (cm rl : Int → Bool) (sent : List Ms) : Prop :=
  ∀ m, m ∈ sent → m.e = now.ep ∧ m.b = now.fid ∧ ¬ m.b = 0 ∧ (m.k = 0 → now.ph = 1) ∧ (m.k = 1 → now.ph = 2 ∧ now.vd m.b = some 3 ∧ ys m.b = 65535) ∧ (m.k = 2 → now.ph = 3 ∧ now.vd m.b = some 4) ∧ ¬ (cm m.b = true ∧ rl m.b = true)
structure VoS (now : StP) (up : Bool) (x : VoX) (i : InP) (sent : List Ms) : Prop where
  s : SntR now (x.ny i) (cmU x.cm 1 sent) (cmU x.rl 2 sent) sent
  v : ∀ b c, x.pv.vd b = some c → now.vd b = some c
  c : now.ph = 2 → x.ny i now.fid = 65535
  n : x.pv.ph = 1 → up = true → VoV x i → i.m.y = false → i.m.b = x.pv.fid → now.ph = 3
  t : x.pv.ph = 1 → i.k = 5 → 8 ≤ x.tk + 1 → up = true → now.ph = 3
structure VoJ (l : LdP) (g : Option GtP) (x : VoX) : Prop where
  p : ∀ g', g = some g' → x.pv = l.d
  c : ∀ b, x.cm b = true → l.d.vd b = some 3
  r : ∀ b, x.rl b = true → l.d.vd b = some 4
  y2 : l.d.ph = 2 → x.ys l.d.fid = 65535
  yr : ∀ b, 0 ≤ x.ys b ∧ x.ys b ≤ 65535
  g1 : ∀ g', g = some g' → l.d.ph = 1 → Sub g'.ys (x.ys l.d.fid) ∧ x.tk = g'.tk
theorem ny_r {x : VoX} (h : ∀ b, 0 ≤ x.ys b ∧ x.ys b ≤ 65535) (i : InP) (b : Int) : 0 ≤ x.ny i b ∧ x.ny i b ≤ 65535 := by
  unfold VoX.ny
  split
  · exact orB_bd _ _
  · exact h b
theorem ny_m {x : VoX} {z : Int} {b : Int} (i : InP) (h : Sub z (x.ys b)) : Sub z (x.ny i b) := by
  unfold VoX.ny
  split
  · exact h.wide _
  · exact h
theorem ny_65 {x : VoX} (h : ∀ b, 0 ≤ x.ys b ∧ x.ys b ≤ 65535) (i : InP) {b : Int} (h9 : x.ys b = 65535) : x.ny i b = 65535 :=
  (ny_m i (show Sub 65535 (x.ys b) by rw [h9]; exact Sub.refl _)).all (ny_r h i b)
theorem ny_hit {x : VoX} {g : GtP} {i : InP} (hs : x.pv = g.st) (h : YesW g i) : x.ny i g.st.fid = orB (x.ys g.st.fid) (sh1 i.m.d) := by
  unfold VoX.ny
  rw [if_pos ⟨⟨⟨h.1, h.2.2.1, h.2.1.2.2.1, by rw [hs]; exact h.2.1.2.2.2.1⟩, h.2.2.2.2⟩, h.2.1.2.2.2.2.symm⟩]
/-- messages of the gate are right -/
theorem snt_ok {now : StP} {g : GtP} {ys : Int → Int} {cm rl : Int → Bool} {sent : List Ms} (hI : StI now) (ho : sent = [] ∨ (sent = pushP g ∧ g.st = now)) (hy : now.ph = 2 → ys now.fid = 65535) (hc : ∀ b, cm b = true → now.vd b = some 3) (hr : ∀ b, rl b = true → now.vd b = some 4) :
    SntR now ys (cmU cm 1 sent) (cmU rl 2 sent) sent ∧ (∀ b, cmU cm 1 sent b = true → now.vd b = some 3) ∧ (∀ b, cmU rl 2 sent b = true → now.vd b = some 4) := by
  have hm : ∀ m, m ∈ sent → m.e = now.ep ∧ m.b = now.fid ∧ ¬ m.b = 0 ∧ (m.k = 0 → now.ph = 1) ∧ (m.k = 1 → now.ph = 2) ∧ (m.k = 2 → now.ph = 3) := by
    intro m hm
    rcases ho with rfl | ⟨rfl, rfl⟩
    · cases hm
    · have h := push_mem hm
      have h9 := hI.f1 h.2.2.1
      refine ⟨h.1, h.2.1, by rw [h.2.1]; exact h9, ?_, ?_, ?_⟩ <;> intro hk <;> rcases h.2.2.2.1 with h | h | h | h <;> omega
  have h1 : ∀ b, cmU cm 1 sent b = true → now.vd b = some 3 := by
    intro b hb
    rcases cmU_iff.1 hb with h | ⟨m, h, hk, rfl⟩
    · exact hc b h
    · rw [(hm m h).2.1]; exact hI.v2 ((hm m h).2.2.2.2.1 hk)
  have h2 : ∀ b, cmU rl 2 sent b = true → now.vd b = some 4 := by
    intro b hb
    rcases cmU_iff.1 hb with h | ⟨m, h, hk, rfl⟩
    · exact hr b h
    · rw [(hm m h).2.1]; exact hI.v3 ((hm m h).2.2.2.2.2 hk)
  refine ⟨fun m h => ?_, h1, h2⟩
  obtain ⟨a1, a2, a3, a4, a5, a6⟩ := hm m h
  refine ⟨a1, a2, a3, a4, fun hk => ⟨a5 hk, by rw [a2]; exact hI.v2 (a5 hk), by rw [a2]; exact hy (a5 hk)⟩, fun hk => ⟨a6 hk, by rw [a2]; exact hI.v3 (a6 hk)⟩, fun h9 => ?_⟩
  have h3 := h1 _ h9.1
  rw [h2 _ h9.2] at h3
  exact absurd h3 (by simp)
theorem vote_feed {g : GtP} {l : LdP} {i : InP} {x : VoX} (hg : GtI g) (hs : g.st = l.d) (hl : l.dn = false) (hJ : VoJ l (some g) x) :
    VoS (ginP g l i).1.2.d (!(ginP g l i).1.1.off) x i (ginP g l i).1.1.out ∧ VoJ (ginP g l i).1.2 (if (ginP g l i).1.1.off then none else some { (ginP g l i).1.1 with out := [] }) (x.nx i (ginP g l i).1.2.d (ginP g l i).1.1.out) := by
  have he := eff (i := i) hg hs hl
  generalize (ginP g l i).1 = r at *
  have hp : x.pv = g.st := by rw [hs]; exact hJ.p g rfl
  have hy2 : r.2.d.ph = 2 → x.ny i r.2.d.fid = 65535 := by
    intro h2
    obtain ⟨h3, _, _, h4⟩ := he.p2 h2
    rw [h3]
    rcases h4 with h4 | ⟨h4, h5, _⟩
    · exact ny_65 hJ.yr i (by rw [hs]; exact hJ.y2 (by rw [← hs]; exact h4))
    · rw [ny_hit hp h4]
      have := ((hJ.g1 g rfl (by rw [← hs]; exact h4.2.2.2.1)).1).or (sh1 i.m.d)
      rw [h5, ← hs] at this
      exact this.all (orB_bd _ _)
  have hso := snt_ok (now := r.2.d) (g := r.1) (ys := x.ny i) (cm := x.cm) (rl := x.rl) (sent := r.1.out) he.st (by
    rcases he.out with h | ⟨h, h'⟩
    · exact .inl h
    · exact .inr ⟨h', (he.up h).2.1⟩) hy2 (fun b hb => he.mono b 3 (by rw [hs]; exact hJ.c b hb)) (fun b hb => he.mono b 4 (by rw [hs]; exact hJ.r b hb))
  refine ⟨⟨hso.1, fun b c h => he.mono b c (by rw [← hp]; exact h), hy2, fun h1 hu hv hy hb => ?_, fun h1 hk ht hu => ?_⟩, ⟨fun g' h => rfl, hso.2.1, hso.2.2, hy2, ny_r hJ.yr i, fun g' h h1 => ?_⟩⟩
  · rw [hp] at h1 hb
    have hu : r.1.off = false := by cases e : r.1.off with | false => rfl | true => rw [e] at hu; cases hu
    exact he.no hu hv.1 ⟨hg.on, by omega, hv.2.2.1, by rw [← hp]; exact hv.2.2.2, hb⟩ hv.2.1 h1 hy
  · rw [hp] at h1
    have hu : r.1.off = false := by cases e : r.1.off with | false => rfl | true => rw [e] at hu; cases hu
    exact he.tk hu hk h1 (by rw [← (hJ.g1 g rfl (by rw [← hs]; exact h1)).2]; exact ht)
  · have hu : r.1.off = false := by cases e : r.1.off with | false => rfl | true => rw [e] at h; cases h
    rw [if_neg (by rw [hu]; simp)] at h
    injection h with h
    subst h
    have h1 : r.2.d.ph = 1 := h1
    show Sub r.1.ys (x.ny i r.2.d.fid) ∧ x.nt i = r.1.tk
    rcases he.p1 hu h1 with ⟨h0, h3, h4⟩ | ⟨h0, h3, _, h4, h5⟩
    · rw [h3, h4]
      refine ⟨Sub.zero _, ?_⟩
      unfold VoX.nt
      rw [if_neg (by rw [hp]; omega)]
    · have h9 := hJ.g1 g rfl (by rw [← hs]; exact h0)
      rw [← hs] at h9
      refine ⟨?_, ?_⟩
      · rw [h3]
        rcases h4 with h4 | ⟨h4, h6⟩
        · rw [h4]; exact ny_m i h9.1
        · rw [h6, ny_hit hp h4]; exact h9.1.or _
      · unfold VoX.nt
        rw [if_pos (by rw [hp]; exact h0), h5, h9.2]
/-! ## recoveries -/
def rebP (l : LdP) : LdP := { l with dn := false }
def bootP (l : LdP) : Option GtP × LdP := (if (storeP (rebP l) (opS l.d)).2 = 0 then some (openG (opS l.d)) else none, (storeP (rebP l) (opS l.d)).1)
structure BtR (l : LdP) (r : Option GtP × LdP) : Prop where
  st : StI r.2.d
  mono : ∀ b c, l.d.vd b = some c → r.2.d.vd b = some c
  up : ∀ g, r.1 = some g → GtI { g with out := [] } ∧ g.st = r.2.d ∧ r.2.dn = false ∧ g = openG r.2.d ∧ r.2.d = opS l.d
  d : r.2.d = opS l.d ∨ (r.2.d = l.d ∧ r.1 = none)
  fu : r.1 = none → 0 < l.fu
  fu0 : l.fu ≤ 0 → r.2.fu = l.fu
theorem ops_sti {s : StP} (h : StI s) : StI (opS s) ∧ (∀ b c, s.vd b = some c → (opS s).vd b = some c) ∧ (opS s).is = s.is ∧ (opS s).fid = s.fid ∧ (opS s).fn = s.fn ∧ (opS s).vs = s.vs ∧ (opS s).ep = s.ep + 1 ∧ ¬ (opS s).ph = 1 ∧ ((opS s).ph = s.ph ∨ (s.ph = 1 ∧ (opS s).ph = 3)) := by
  obtain ⟨p, f0, f1, v1, v2, v3, v0, vr, n, il, vl⟩ := h
  unfold opS
  split
  · rename_i h1
    refine ⟨⟨by simp [setlP], fun h => by simp [setlP] at h, fun _ => f1 (by omega), fun h => by simp [setlP] at h, fun h => by simp [setlP] at h, fun h => by simp [setlP], ?_, fun i c h => ?_, n, il, vl⟩, fun b c hb => ?_, rfl, rfl, rfl, rfl, rfl, by simp [setlP], .inr ⟨h1, by simp [setlP]⟩⟩
    · simp only [setlP]; rw [if_neg (by have := f1 (by omega); omega)]; exact v0
    · simp only [setlP] at h
      split at h
      · simp at h; omega
      · exact vr i c h
    · simp only [setlP]
      rw [if_neg (fun e => by rw [e, v1 h1] at hb; cases hb)]; exact hb
  · exact ⟨⟨p, f0, f1, v1, v2, v3, v0, vr, n, il, vl⟩, fun b c hb => hb, rfl, rfl, rfl, rfl, rfl, by assumption, .inl rfl⟩
theorem open_gti {s : StP} (h : StI s) (h1 : ¬ s.ph = 1) : GtI { openG s with out := [] } := by
  refine ⟨h, rfl, rfl, List.nodup_nil, fun b hb => (by cases hb), Nat.zero_le _, by simp [openG, gt0], fun h9 => absurd h9 h1, by simp [openG, gt0], fun h9 => absurd h9 h1, by simp [openG, gt0], fun _ => by simp [openG, gt0], fun h9 => ?_, fun h9 => absurd h9 h1, fun j c h => (by cases h)⟩
  have := h.p
  have h9 : (!decide (s.ph = 0)) = true := h9
  simp at h9
  show s.ph = 2 ∨ s.ph = 3
  omega
theorem boot_cs {l : LdP} (h : StI l.d) : BtR l (bootP l) := by
  obtain ⟨h1, h2, _, _, _, _, _, h3, _⟩ := ops_sti h
  unfold bootP
  rcases store_cs (l := rebP l) (opS l.d) rfl with ⟨a1, a2, a3, a4⟩ | ⟨a1, a2, a3, a4⟩
  · rw [if_pos a1]
    refine ⟨by rw [a2]; exact h1, fun b c hb => by rw [a2]; exact h2 b c hb, fun g hg => ?_, .inl a2, fun h => (by cases h), fun h => a4 h⟩
    injection hg with hg
    subst hg
    exact ⟨open_gti h1 h3, by rw [a2]; rfl, a3, by rw [a2], a2⟩
  · rw [if_neg (by omega)]
    have a4 : 0 < l.fu := a4
    refine ⟨?_, ?_, fun g hg => (by cases hg), ?_, fun _ => a4, fun h => by omega⟩
    · rcases a3 with a3 | a3
      · rw [a3]; exact h1
      · rw [a3]; exact h
    · rcases a3 with a3 | a3
      · rw [a3]; exact h2
      · rw [a3]; exact fun b c hb => hb
    · rcases a3 with a3 | a3
      · exact .inl a3
      · exact .inr ⟨a3, rfl⟩
/-- what a recovery sends -/
def sentB (r : Option GtP × LdP) : List Ms := match r.1 with
  | some g => g.out
  | none => []
def upB (r : Option GtP × LdP) : Option GtP := r.1.map (fun g => { g with out := [] })
def VoX.bt (x : VoX) (now : StP) (sent : List Ms) : VoX := ⟨now, x.ys, cmU x.cm 1 sent, cmU x.rl 2 sent, 0⟩
theorem vote_boot {l : LdP} {x : VoX} (hI : StI l.d) (hJ : VoJ l none x) :
    SntR (bootP l).2.d x.ys (cmU x.cm 1 (sentB (bootP l))) (cmU x.rl 2 (sentB (bootP l))) (sentB (bootP l)) ∧ ((bootP l).1.isSome = true → ¬ (bootP l).2.d.ph = 1) ∧ VoJ (bootP l).2 (upB (bootP l)) (x.bt (bootP l).2.d (sentB (bootP l))) := by
  have hb := boot_cs hI
  generalize bootP l = r at *
  obtain ⟨h1, h2, _, h4, _, _, _, h3, h5⟩ := ops_sti hI
  have hy2 : r.2.d.ph = 2 → x.ys r.2.d.fid = 65535 := by
    intro h9
    rcases hb.d with h | h
    · rw [h, h4]; rw [h] at h9
      rcases h5 with h5 | h5
      · exact hJ.y2 (by omega)
      · omega
    · rw [h.1]; rw [h.1] at h9; exact hJ.y2 h9
  have hso := snt_ok (now := r.2.d) (g := openG r.2.d) (ys := x.ys) (cm := x.cm) (rl := x.rl) (sent := sentB r) hb.st (by
    unfold sentB
    cases e : r.1 with
    | none => exact .inl rfl
    | some g => obtain ⟨_, _, _, h, _⟩ := hb.up g e; rw [h]; exact .inr ⟨rfl, rfl⟩) hy2 (fun b hb' => hb.mono b 3 (hJ.c b hb')) (fun b hb' => hb.mono b 4 (hJ.r b hb'))
  refine ⟨hso.1, fun h => ?_, ⟨fun g' h => rfl, hso.2.1, hso.2.2, hy2, hJ.yr, fun g' h h9 => ?_⟩⟩
  · cases e : r.1 with
    | none => rw [e] at h; cases h
    | some g => rw [(hb.up g e).2.2.2.2]; exact h3
  · exfalso
    unfold upB at h
    cases e : r.1 with
    | none => rw [e] at h; cases h
    | some g => have h9 : r.2.d.ph = 1 := h9; rw [(hb.up g e).2.2.2.2] at h9; exact h3 h9
theorem vote_fall {l : LdP} {g : Option GtP} {x : VoX} (hJ : VoJ l g x) {l' : LdP} (hd : l'.d = l.d) : VoJ l' none x := ⟨fun g' h => (by cases h), by rw [hd]; exact hJ.c, by rw [hd]; exact hJ.r, by rw [hd]; exact hJ.y2, hJ.yr, fun g' h => (by cases h)⟩
theorem vote_led {l : LdP} {g : Option GtP} {x : VoX} (hJ : VoJ l g x) {l' : LdP} (hd : l'.d = l.d) : VoJ l' g x := ⟨by rw [hd]; exact hJ.p, by rw [hd]; exact hJ.c, by rw [hd]; exact hJ.r, by rw [hd]; exact hJ.y2, hJ.yr, by rw [hd]; exact hJ.g1⟩
/-! ## the law of recoveries, plainly -/
structure ReX where
  top : Int
  wt : Bool
  ep : Int
  bt : Int
  rp : Int
def topU (t : Int) (sent : List Ms) : Int := sent.foldl (fun t m => if t < m.e then m.e else t) t
def ReV (x : ReX) (i : InP) : Prop := i.k = 7 ∧ i.m.k = 6 ∧ i.m.d < 16 ∧ i.m.e = x.ep ∧ i.m.b = x.bt
instance (x : ReX) (i : InP) : Decidable (ReV x i) := by unfold ReV; infer_instance
def ReX.nr (x : ReX) (i : InP) : Int := if ReV x i then orB x.rp (sh1 i.m.d) else x.rp
def ReX.nx (x : ReX) (i : InP) (now : StP) (sent : List Ms) : ReX := if x.wt then ⟨topU x.top sent, !decide (now.ph = 0), x.ep, x.bt, x.nr i⟩ else { x with top := topU x.top sent }
def ReS (now : StP) (x : ReX) (i : InP) : Prop := x.wt = true → now.ph = 0 → x.nr i = 65535
structure ReJ (l : LdP) (g : Option GtP) (x : ReX) : Prop where
  t : 0 ≤ x.top ∧ x.top ≤ l.d.ep
  w : x.wt = true → ∃ g', g = some g' ∧ g'.au = true ∧ ¬ l.d.ph = 0 ∧ x.ep = l.d.ep ∧ x.bt = l.d.fid ∧ Sub g'.dn x.rp
  r : 0 ≤ x.rp ∧ x.rp ≤ 65535
theorem topU_le {E : Int} : ∀ {sent : List Ms} {t : Int}, 0 ≤ t → t ≤ E → (∀ m, m ∈ sent → m.e = E) → 0 ≤ topU t sent ∧ topU t sent ≤ E
  | [], t, h0, h, _ => ⟨h0, h⟩
  | m :: s, t, h0, h, hm => by
    have h1 := hm m (List.mem_cons_self ..)
    show 0 ≤ topU (if t < m.e then m.e else t) s ∧ topU (if t < m.e then m.e else t) s ≤ E
    exact topU_le (by split <;> omega) (by split <;> omega) (fun m' h' => hm m' (List.mem_cons_of_mem _ h'))
theorem rec_feed {g : GtP} {l : LdP} {i : InP} {x : ReX} (hg : GtI g) (hs : g.st = l.d) (hl : l.dn = false) (hJ : ReJ l (some g) x) :
    ReS (ginP g l i).1.2.d x i ∧ (∃ b : Bool, ReJ (ginP g l i).1.2 (if (ginP g l i).1.1.off then none else some { (ginP g l i).1.1 with out := [] }) (if (ginP g l i).1.1.off then { x.nx i (ginP g l i).1.2.d (ginP g l i).1.1.out with wt := false } else x.nx i (ginP g l i).1.2.d (ginP g l i).1.1.out)) := by
  have he := eff (i := i) hg hs hl
  generalize (ginP g l i).1 = r at *
  have htop : 0 ≤ topU x.top r.1.out ∧ topU x.top r.1.out ≤ r.2.d.ep := by
    refine topU_le hJ.t.1 (by rw [he.ep, hs]; exact hJ.t.2) fun m hm => ?_
    rcases he.out with h | ⟨h, h'⟩
    · rw [h] at hm; cases hm
    · rw [h'] at hm; rw [(push_mem hm).1, (he.up h).2.1]
  have hcn : x.wt = true → CnfW g i.m → i.k = 7 → ReV x i := by
    intro hw hc hk
    obtain ⟨g', hg', h1, h2, h3, h4, h5⟩ := hJ.w hw
    injection hg' with hg'
    subst hg'
    have hH := hc.1
    refine ⟨hk, ?_, hH.2.2.1, by rw [h3, ← hs]; exact hH.2.2.2.1, by rw [h4, ← hs]; exact hH.2.2.2.2⟩
    rcases hc.2 with h | h | h
    · rw [h1] at h; exact absurd h.2.2 (by simp)
    · exact h.1
    · exact h.1
  have hr : 0 ≤ x.nr i ∧ x.nr i ≤ 65535 := by
    unfold ReX.nr; split
    · exact orB_bd _ _
    · exact hJ.r
  refine ⟨fun hw h0 => ?_, true, ?_⟩
  · obtain ⟨g', hg', h1, h2, h3, h4, h5⟩ := hJ.w hw
    injection hg' with hg'
    subst hg'
    obtain ⟨a1, a2, a3⟩ := he.au h1 h0
    unfold ReX.nr
    rw [if_pos (hcn hw a1 a2)]
    have := h5.or (sh1 i.m.d)
    rw [a3] at this
    exact this.all (orB_bd _ _)
  · cases hu : r.1.off with
    | true =>
      simp only [if_true]
      refine ⟨?_, fun h => (by cases h), ?_⟩
      · show 0 ≤ (x.nx i r.2.d r.1.out).top ∧ (x.nx i r.2.d r.1.out).top ≤ r.2.d.ep
        unfold ReX.nx; split <;> exact htop
      · show 0 ≤ (x.nx i r.2.d r.1.out).rp ∧ (x.nx i r.2.d r.1.out).rp ≤ 65535
        unfold ReX.nx; split
        · exact hr
        · exact hJ.r
    | false =>
      rw [if_neg (by simp), if_neg (by simp)]
      cases hw : x.wt with
      | false =>
        unfold ReX.nx
        rw [hw, if_neg (by simp)]
        exact ⟨htop, fun h => (by cases h), hJ.r⟩
      | true =>
        unfold ReX.nx
        rw [hw, if_pos rfl]
        refine ⟨htop, fun h => ?_, hr⟩
        have h0 : ¬ r.2.d.ph = 0 := by simpa using h
        obtain ⟨g', hg', h1, h2, h3, h4, h5⟩ := hJ.w hw
        injection hg' with hg'
        subst hg'
        obtain ⟨a1, a2, a3⟩ := he.au1 h1 hu h0
        refine ⟨_, rfl, a1, h0, by rw [he.ep, hs]; exact h3, by rw [a2, hs]; exact h4, ?_⟩
        show Sub r.1.dn (x.nr i)
        rcases a3 with a3 | ⟨a3, a4, a5⟩
        · rw [a3]; unfold ReX.nr; split
          · exact h5.wide _
          · exact h5
        · rw [a5]; unfold ReX.nr; rw [if_pos (hcn hw a3 a4)]; exact h5.or _
def wantM (k : Int) (now : StP) (d : Nat) : Ms := ⟨k, (d : Int), now.ep, now.fid, false, 0, 0, ⟨#[]⟩⟩
def wantL (k : Int) (now : StP) : List Ms := (List.range 16).flatMap (fun d => [wantM k now d, wantM 3 now d])
structure ReB (bf now : StP) (ok : Bool) (x : ReX) (sent : List Ms) : Prop where
  n : ok = false → sent = []
  e : ok = true → bf.ep < now.ep ∧ x.top < now.ep
  z : ok = true → bf.ph = 0 → now.ph = 0 ∧ sent = []
  f : ok = true → ¬ bf.ph = 0 → now.fid = bf.fid ∧ now.ph = (if bf.ph = 2 then 2 else 3) ∧ sent = wantL (if bf.ph = 2 then 1 else 2) now
def ReX.bx (x : ReX) (bf now : StP) (ok : Bool) (sent : List Ms) : ReX := if ok = false then x else if bf.ph = 0 then { x with top := topU x.top sent } else ⟨topU x.top sent, true, now.ep, now.fid, 0⟩
theorem flatMap_congr9 {α β : Type} {f g : α → List β} : ∀ {l : List α}, (∀ a, a ∈ l → f a = g a) → l.flatMap f = l.flatMap g
  | [], _ => rfl
  | a :: l, h => by rw [List.flatMap_cons, List.flatMap_cons, h a (List.mem_cons_self ..), flatMap_congr9 fun b hb => h b (List.mem_cons_of_mem _ hb)]
theorem bit0 : ∀ d : Nat, d < 16 → bitIn 0 d = false := by
  intro d hd
  unfold bitIn sh1
  rcases (show d = 0 ∨ d = 1 ∨ d = 2 ∨ d = 3 ∨ d = 4 ∨ d = 5 ∨ d = 6 ∨ d = 7 ∨ d = 8 ∨ d = 9 ∨ d = 10 ∨ d = 11 ∨ d = 12 ∨ d = 13 ∨ d = 14 ∨ d = 15 by omega) with rfl | rfl | rfl | rfl | rfl | rfl | rfl | rfl | rfl | rfl | rfl | rfl | rfl | rfl | rfl | rfl <;> decide
theorem open_out {s : StP} (h : s.ph = 2 ∨ s.ph = 3) : pushP (gt0 s) = wantL (if s.ph = 2 then 1 else 2) s := by
  unfold pushP wantL
  refine flatMap_congr9 fun d hd => ?_
  have hd := List.mem_range.1 hd
  have ha : (gt0 s).au = true := by show (!decide (s.ph = 0)) = true; rw [decide_eq_false (by omega)]; rfl
  unfold psh1
  rw [if_neg (show ¬ (gt0 s).st.ph = 1 by show ¬ s.ph = 1; omega), if_pos (show (gt0 s).st.ph = 2 ∨ (gt0 s).st.ph = 3 from h), show (gt0 s).dn = 0 from rfl, bit0 d hd, ha]
  simp only [Bool.false_eq_true, if_false, if_true]
  have e1 : mkP (gt0 s).st (gt0 s).sl (if (gt0 s).st.ph = 2 then 1 else 2) d = wantM (if s.ph = 2 then 1 else 2) s d := by
    unfold mkP wantM
    simp only [Ms.mk.injEq, true_and]
    refine ⟨rfl, rfl, rfl, ?_⟩
    rw [if_neg (by split <;> omega)]
  rw [e1]
  rfl
theorem open_out0 {s : StP} (h : s.ph = 0) : pushP (gt0 s) = [] := by
  unfold pushP
  rw [flatMap_congr9 (g := fun _ => []) fun d hd => ?_]
  · simp
  · unfold psh1
    rw [if_neg (show ¬ (gt0 s).st.ph = 1 by show ¬ s.ph = 1; omega), if_neg (show ¬ ((gt0 s).st.ph = 2 ∨ (gt0 s).st.ph = 3) by show ¬ (s.ph = 2 ∨ s.ph = 3); omega)]
theorem rec_boot {l : LdP} {x : ReX} (hI : StI l.d) (hJ : ReJ l none x) :
    ReB l.d (bootP l).2.d (bootP l).1.isSome x (sentB (bootP l)) ∧ ReJ (bootP l).2 (upB (bootP l)) (x.bx l.d (bootP l).2.d (bootP l).1.isSome (sentB (bootP l))) := by
  have hb := boot_cs hI
  generalize bootP l = r at *
  obtain ⟨h1, h2, _, h4, _, _, h6, h3, h5⟩ := ops_sti hI
  have hw : x.wt = false := by
    cases e : x.wt with
    | false => rfl
    | true => obtain ⟨g', h, _⟩ := hJ.w e; cases h
  have hpp := hI.p
  cases e : r.1 with
  | none =>
    have hs : sentB r = [] := by unfold sentB; rw [e]
    rw [hs]
    refine ⟨⟨fun _ => rfl, fun h => (by cases h), fun h => (by cases h), fun h => (by cases h)⟩, ?_⟩
    unfold ReX.bx
    rw [if_pos (show (none : Option GtP).isSome = false from rfl)]
    refine ⟨⟨hJ.t.1, ?_⟩, fun h => (by rw [hw] at h; cases h), hJ.r⟩
    have := hJ.t.2
    rcases hb.d with h | h
    · rw [h, h6]; omega
    · rw [h.1]; exact this
  | some g =>
    obtain ⟨a1, a2, a3, a4, a5⟩ := hb.up g e
    have hs : sentB r = pushP (gt0 r.2.d) := by unfold sentB; rw [e]; simp only; rw [a4]; rfl
    have hep : r.2.d.ep = l.d.ep + 1 := by rw [a5, h6]
    have ht := hJ.t.2
    have h9 : 0 ≤ topU x.top (sentB r) ∧ topU x.top (sentB r) ≤ r.2.d.ep := topU_le hJ.t.1 (by omega) fun m hm => by
      rw [hs] at hm; exact (push_mem hm).1
    by_cases h0 : l.d.ph = 0
    · have hn0 : r.2.d.ph = 0 := by rw [a5]; omega
      refine ⟨⟨fun h => (by cases h), fun _ => by omega, fun _ _ => ⟨hn0, by rw [hs]; exact open_out0 hn0⟩, fun _ h => absurd h0 h⟩, ?_⟩
      unfold ReX.bx
      rw [if_neg (by simp), if_pos h0]
      exact ⟨h9, fun h => (by rw [hw] at h; cases h), hJ.r⟩
    · have hph : r.2.d.ph = (if l.d.ph = 2 then 2 else 3) := by rw [a5]; split <;> omega
      have hph2 : r.2.d.ph = 2 ∨ r.2.d.ph = 3 := by rw [hph]; split <;> omega
      have hif : (if r.2.d.ph = 2 then (1 : Int) else 2) = if l.d.ph = 2 then 1 else 2 := by rw [hph]; split <;> simp
      refine ⟨⟨fun h => (by cases h), fun _ => by omega, fun _ h => absurd h h0, fun _ _ => ⟨by rw [a5, h4], hph, by rw [hs, open_out hph2, hif]⟩⟩, ?_⟩
      unfold ReX.bx
      rw [if_neg (by simp), if_neg h0]
      refine ⟨h9, fun _ => ?_, by simp⟩
      refine ⟨{ g with out := [] }, by unfold upB; rw [e]; rfl, ?_, by omega, rfl, rfl, ?_⟩
      · show g.au = true
        rw [a4]
        show (!decide (r.2.d.ph = 0)) = true
        rw [decide_eq_false (by omega)]; rfl
      · show Sub g.dn 0
        rw [a4]; exact Sub.refl _
theorem rec_fall {l : LdP} {g : Option GtP} {x : ReX} (hJ : ReJ l g x) {l' : LdP} (hd : l'.d = l.d) : ReJ l' none { x with wt := false } := ⟨by rw [hd]; exact hJ.t, fun h => (by cases h), hJ.r⟩
theorem rec_led {l : LdP} {g : Option GtP} {x : ReX} (hJ : ReJ l g x) {l' : LdP} (hd : l'.d = l.d) : ReJ l' g x := ⟨by rw [hd]; exact hJ.t, by rw [hd]; exact hJ.w, hJ.r⟩
/-! ## the law of what was told, plainly -/
structure ToX where
  tl : Int → Option Int
  iv : List Iv
  mb : List Iv
  op : Bool
def withP (s : List Iv) (v : Iv) (add : Bool) : List Iv := s.filter (fun u => !decide (u = v)) ++ (if add then [v] else [])
def sameP (a b : List Iv) : Bool := decide (a.length = b.length) && a.all (fun v => decide (((withP b v false).length : Int) = (b.length : Int) - 1))
def Per (a b : List Iv) : Prop := a.Nodup ∧ b.Nodup ∧ a.Perm b
theorem filt_len {b : List Iv} (hb : b.Nodup) (v : Iv) : (v ∈ b → (b.filter (fun u => !decide (u = v))).length + 1 = b.length) ∧ (¬ v ∈ b → b.filter (fun u => !decide (u = v)) = b) := by
  induction b with
  | nil => exact ⟨fun h => (by cases h), fun _ => rfl⟩
  | cons u b ih =>
    rw [List.nodup_cons] at hb
    have ih := ih hb.2
    refine ⟨fun h => ?_, fun h => ?_⟩
    · by_cases e : u = v
      · rw [List.filter_cons_of_neg (by simp [e]), ih.2 (by rw [← e]; exact hb.1), List.length_cons]
      · have h' : v ∈ b := by
          rcases List.mem_cons.1 h with h | h
          · exact absurd h.symm e
          · exact h
        rw [List.filter_cons_of_pos (by simp [e]), List.length_cons, List.length_cons, ih.1 h']
    · rw [List.mem_cons, not_or] at h
      rw [List.filter_cons_of_pos (by simp; exact fun e : u = v => h.1 e.symm), ih.2 h.2]
theorem sub_perm : ∀ {a b : List Iv}, a.Nodup → (∀ v, v ∈ a → v ∈ b) → a.length = b.length → a.Perm b
  | [], b, _, _, h => by
    cases b with
    | nil => exact List.Perm.refl _
    | cons v b => simp at h
  | v :: a, b, hn, hm, hl => by
    rw [List.nodup_cons] at hn
    have hv := hm v (List.mem_cons_self ..)
    have hp := List.perm_cons_erase hv
    refine List.Perm.trans (List.Perm.cons v (sub_perm hn.2 (fun u hu => ?_) ?_)) hp.symm
    · have h1 := hp.mem_iff.1 (hm u (List.mem_cons_of_mem _ hu))
      rcases List.mem_cons.1 h1 with h | h
      · exact absurd (h ▸ hu) hn.1
      · exact h
    · have := hp.length_eq
      simp only [List.length_cons] at this hl
      omega
theorem sameP_iff {a b : List Iv} (ha : a.Nodup) (hb : b.Nodup) : sameP a b = true ↔ a.Perm b := by
  unfold sameP withP
  simp only [Bool.and_eq_true, decide_eq_true_eq, List.all_eq_true, Bool.false_eq_true, if_false, List.append_nil]
  refine ⟨fun ⟨h1, h2⟩ => ?_, fun h => ⟨h.length_eq, fun v hv => ?_⟩⟩
  · refine sub_perm ha (fun v hv => ?_) h1
    have h3 := h2 v hv
    apply Decidable.byContradiction
    intro h4
    rw [(filt_len hb v).2 h4] at h3
    omega
  · have h3 := (filt_len hb v).1 (h.mem_iff.1 hv)
    omega
theorem withP_nodup {b : List Iv} (hb : b.Nodup) (v : Iv) (add : Bool) : (withP b v add).Nodup := by
  unfold withP
  rw [List.nodup_append]
  refine ⟨List.filter_sublist.nodup hb, by cases add <;> simp, fun x hx y hy e => ?_⟩
  cases add with
  | false => cases hy
  | true =>
    rw [if_pos rfl] at hy
    have hy := List.mem_singleton.1 hy
    have := (List.mem_filter.1 hx).2
    simp at this
    exact this (e.trans hy)
theorem withP_mem {b : List Iv} {v : Iv} {add : Bool} (u : Iv) : u ∈ withP b v add ↔ (u ∈ b ∧ ¬ u = v) ∨ (add = true ∧ u = v) := by
  unfold withP
  rw [List.mem_append, List.mem_filter]
  cases add <;> simp
theorem per_ext {a b : List Iv} (ha : a.Nodup) (hb : b.Nodup) (h : ∀ u, u ∈ a ↔ u ∈ b) : Per a b := ⟨ha, hb, (List.perm_ext_iff_of_nodup ha hb).2 h⟩
theorem Per.mem {a b : List Iv} (h : Per a b) (u : Iv) : u ∈ a ↔ u ∈ b := h.2.2.mem_iff
/-- the invariants after an acknowledged command -/
theorem per_hold {a b : List Iv} {v : Iv} (h : Per a b) (hv : v ∈ a) : Per a (withP b v true) := per_ext h.1 (withP_nodup h.2.1 v true) fun u => by
  rw [withP_mem, ← h.mem]
  by_cases e : u = v
  · simp [e, hv]
  · simp [e]
theorem per_add {a b : List Iv} {v : Iv} (h : Per a b) (hv : ¬ v ∈ a) : Per (a ++ [v]) (withP b v true) := per_ext (by
    rw [List.nodup_append]; exact ⟨h.1, by simp, fun x hx y hy e => hv (by rw [← List.mem_singleton.1 hy, ← e]; exact hx)⟩) (withP_nodup h.2.1 v true) fun u => by
  rw [withP_mem, ← h.mem, List.mem_append, List.mem_singleton]
  by_cases e : u = v
  · simp [e]
  · simp [e]
theorem per_drop {a b : List Iv} {v : Iv} {i : Nat} (h : Per a b) (hv : a[i]? = some v) : Per (delP a i) (withP b v false) := per_ext ((delP_sub a i).nodup h.1) (withP_nodup h.2.1 v false) fun u => by
  rw [withP_mem, ← h.mem]
  have h1 := delP_ne (f := fun x : Iv => x) (q := a) (i := i) (b := v) (by rw [List.map_id']; exact h.1) hv u
  constructor
  · exact fun hu => .inl ⟨delP_mem hu, h1 hu⟩
  · intro h2
    rcases h2 with ⟨h2, h3⟩ | ⟨h2, _⟩
    · unfold delP
      rw [split_at hv] at h2
      rcases List.mem_append.1 h2 with h4 | h4
      · exact List.mem_append_left _ h4
      · rcases List.mem_cons.1 h4 with h5 | h5
        · exact absurd h5 h3
        · exact List.mem_append_right _ h5
    · cases h2
def ToX.cd (i : InP) (c : Int) : Int := if (i.k = 1 ∨ i.k = 2) ∧ c = 13 then 3 else c
def ToX.nx (x : ToX) (i : InP) (c : Int) : ToX :=
  if i.k = 1 ∨ i.k = 2 then (if ToX.cd i c = 3 ∨ ToX.cd i c = 4 then { x with tl := rfU x.tl i.id (ToX.cd i c) } else x)
  else if i.k = 3 ∨ i.k = 4 then (if c = 0 then { x with iv := withP x.iv i.v (decide (i.k = 3)) } else if c = 14 then { x with mb := withP x.iv i.v (decide (i.k = 3)), op := true } else x)
  else x
structure ToS (now : StP) (x : ToX) (i : InP) (id c : Int) : Prop where
  a : i.k = 1 ∨ i.k = 2 → ∀ z, x.tl i.id = some z → ToX.cd i c = z ∨ ToX.cd i c = 14
  s : i.k = 0 → (x.tl id).isSome = true → c = 7
  e : ToX.cd i c = 14 ∨ sameP now.is (x.nx i c).iv = true
structure ToJ (l : LdP) (g : Option GtP) (x : ToX) : Prop where
  t : ∀ b c, x.tl b = some c → l.d.vd b = some c
  v : Per l.d.is x.iv ∨ (x.op = true ∧ Per l.d.is x.mb)
  i : x.iv.Nodup
  m : x.op = true → x.mb.Nodup
  g : ∀ g', g = some g' → x.op = false
theorem told_boot {l : LdP} {x : ToX} (hI : StI l.d) (hJ : ToJ l none x) : ∀ x', x' = (if x.op = true ∧ sameP (bootP l).2.d.is x.mb = true then { x with iv := x.mb, op := x.op && !(bootP l).1.isSome } else { x with op := x.op && !(bootP l).1.isSome }) →
    sameP (bootP l).2.d.is x'.iv = true ∧ (∀ b c, x.tl b = some c → (bootP l).2.d.vd b = some c) ∧ ToJ (bootP l).2 (upB (bootP l)) x' := by
  intro x' hx'
  have hb := boot_cs hI
  generalize bootP l = r at *
  obtain ⟨_, _, hop, _⟩ := ops_sti hI
  have his : r.2.d.is = l.d.is := by
    rcases hb.d with h | h
    · rw [h, hop]
    · rw [h.1]
  have hn : r.2.d.is.Nodup := hb.st.n
  have ht : ∀ b c, x.tl b = some c → r.2.d.vd b = some c := fun b c h => hb.mono b c (hJ.t b c h)
  have hgo : ∀ g', upB r = some g' → (x.op && !r.1.isSome) = false := by
    intro g' h
    unfold upB at h
    cases e : r.1 with
    | none => rw [e] at h; cases h
    | some g => simp
  by_cases hc : x.op = true ∧ sameP r.2.d.is x.mb = true
  · rw [if_pos hc] at hx'
    subst hx'
    have hp := (sameP_iff hn (hJ.m hc.1)).1 hc.2
    exact ⟨hc.2, ht, ⟨ht, .inl ⟨hn, hJ.m hc.1, hp⟩, hJ.m hc.1, fun _ => hJ.m hc.1, hgo⟩⟩
  · rw [if_neg hc] at hx'
    subst hx'
    have hp : Per r.2.d.is x.iv := by
      rw [his]
      rcases hJ.v with h | ⟨h, h'⟩
      · exact h
      · exfalso
        exact hc ⟨h, (sameP_iff hn (hJ.m h)).2 (by rw [his]; exact h'.2.2)⟩
    refine ⟨(sameP_iff hn hJ.i).2 hp.2.2, ht, ⟨ht, .inl hp, hJ.i, fun h => hJ.m (by simp at h; exact h.1), hgo⟩⟩
theorem stat_v {g : GtP} {id z : Int} (hg : GtI g) (h : g.st.vd id = some z) : statP g id = z := sx_v hg.on h
theorem stat_told {g : GtP} {id : Int} (hg : GtI g) (h : statP g id = 3 ∨ statP g id = 4 ∨ statP g id = 13) : g.st.vd id = some (statP g id) := by
  cases e : g.st.vd id with
  | some z => rw [stat_v hg e]
  | none =>
    exfalso
    by_cases h2 : ¬ g.st.ph = 0 ∧ g.st.fid = id
    · rw [sx_f hg.on e h2] at h; omega
    · by_cases h3 : 0 ≤ qix g.q id
      · rw [sx_q hg.on e h2 h3] at h; omega
      · cases e4 : g.rf id with
        | some c => rw [sx_rf hg.on e h2 h3 e4] at h; have := hg.rf id c e4; omega
        | none => rw [sx_un hg.on e h2 h3 e4] at h; omega
def cd13 (c : Int) : Int := if c = 13 then 3 else c
theorem abC_v (c : Int) : cd13 (abC c) = 3 ∨ cd13 (abC c) = 4 → cd13 (abC c) = c := by
  unfold abC cd13
  intro h
  repeat' split at h
  all_goals first | omega | (repeat' split) <;> omega
theorem abC_z {c : Int} (h : c = 3 ∨ c = 4) : cd13 (abC c) = c := by
  rcases h with rfl | rfl <;> rfl
theorem abort_code {g : GtP} {l : LdP} {id : Int} (hg : GtI g) (hs : g.st = l.d) (hl : l.dn = false) :
    (cd13 (abortP g l id).2 = 3 ∨ cd13 (abortP g l id).2 = 4 → (abortP g l id).1.2.d.vd id = some (cd13 (abortP g l id).2)) ∧ (∀ z, g.st.vd id = some z → cd13 (abortP g l id).2 = z) := by
  by_cases hq : 0 ≤ qix g.q id
  · obtain ⟨b, hb, he⟩ := qix_in hq
    have hv : g.st.vd id = none := by rw [← he]; exact (hg.qv b (List.mem_of_getElem? hb)).2.1
    refine ⟨?_, fun z h => by rw [hv] at h; cases h⟩
    rcases admit_cs (abS g id) hl with ⟨h1, h2⟩ | h1
    · rw [ab_q1 hg.on hq h1]; intro h; simp [cd13] at h
    · rcases store_cs (abS g id) hl with ⟨h2, h3, h4, h5⟩ | ⟨h2, h3, h4, h5⟩
      · rw [ab_q0 hg.on hq (by rw [h1]; exact h2), h1]
        intro _
        simp only
        rw [h3]
        simp [abS, rfU, cd13]
      · rw [ab_q2 hg.on hq (by rw [h1]; exact h2)]; intro h; simp [cd13] at h
  · rw [ab_r hg.on hq]
    simp only
    unfold abR
    split
    · rename_i h1
      have hv : g.st.vd id = none := by rw [← h1.2]; exact hg.s.v1 h1.1
      refine ⟨?_, fun z h => by rw [hv] at h; cases h⟩
      rcases store_cs (setlP g.st false) hl with ⟨h2, h3, h4, h5⟩ | ⟨h2, h3, h4, h5⟩
      · rw [dec_0 (g := g) (s := setlP g.st false) rfl h2]
        simp only
        rw [sx_v (c := 4) (by exact hg.on) (by simp [setlP, h1.2])]
        intro _
        rw [h3]
        simp [setlP, h1.2, cd13, abC]
      · rw [dec_2 (g := g) (s := setlP g.st false) rfl (by omega)]
        simp only
        rw [sx_off (by rfl)]
        intro h; simp [cd13, abC] at h
    · refine ⟨fun h => ?_, fun z h => ?_⟩
      · simp only at h ⊢
        have h9 := abC_v _ h
        rw [h9] at h ⊢
        rw [← hs]
        exact stat_told hg (by rcases h with h | h; exact .inl h; exact .inr (.inl h))
      · simp only
        rw [stat_v hg h]
        exact abC_z (hg.s.vr _ _ h)
theorem told_feed {g : GtP} {l : LdP} {i : InP} {x : ToX} (hg : GtI g) (hs : g.st = l.d) (hl : l.dn = false) (hJ : ToJ l (some g) x) :
    ToS (ginP g l i).1.2.d x i (ginP g l i).2.1 (ginP g l i).2.2 ∧ ToJ (ginP g l i).1.2 (if (ginP g l i).1.1.off then none else some { (ginP g l i).1.1 with out := [] }) (x.nx i (ginP g l i).2.2) := by
  have he := eff (i := i) hg hs hl
  have hop := hJ.g g rfl
  have hper : Per g.st.is x.iv := by
    rcases hJ.v with h | ⟨h, _⟩
    · rw [hs]; exact h
    · rw [hop] at h; cases h
  have hmono : ∀ b c, x.tl b = some c → (ginP g l i).1.2.d.vd b = some c := fun b c h => he.mono b c (by rw [hs]; exact hJ.t b c h)
  have htv : ∀ b c, x.tl b = some c → g.st.vd b = some c := fun b c h => by rw [hs]; exact hJ.t b c h
  by_cases h34 : i.k = 3 ∨ i.k = 4
  · have hcd : ∀ c, ToX.cd i c = c := fun c => by unfold ToX.cd; rw [if_neg (by omega)]
    have hnx : ∀ c, x.nx i c = if c = 0 then { x with iv := withP x.iv i.v (decide (i.k = 3)) } else if c = 14 then { x with mb := withP x.iv i.v (decide (i.k = 3)), op := true } else x := fun c => by
      unfold ToX.nx; rw [if_neg (by omega), if_pos h34]
    have key : ((ginP g l i).2.2 = 0 ∧ Per (ginP g l i).1.2.d.is (withP x.iv i.v (decide (i.k = 3)))) ∨ ((ginP g l i).2.2 = 14 ∧ (ginP g l i).1.1.off = true ∧ (Per (ginP g l i).1.2.d.is x.iv ∨ Per (ginP g l i).1.2.d.is (withP x.iv i.v (decide (i.k = 3))))) ∨ (¬ (ginP g l i).2.2 = 0 ∧ ¬ (ginP g l i).2.2 = 14 ∧ Per (ginP g l i).1.2.d.is x.iv) := by
      rcases h34 with hk | hk
      · have hd : decide (i.k = 3) = true := decide_eq_true hk
        rw [hd]
        unfold ginP
        rw [if_neg (by omega), if_neg (by omega), if_neg (by omega), if_pos hk]
        simp only
        cases hw : wfI i.v with
        | false => rw [ad_w hg.on hw]; exact .inr (.inr ⟨by simp, by simp, by rw [hs] at hper; exact hper⟩)
        | true =>
          by_cases hh : 0 ≤ hix g.st.is i.v
          · rw [ad_h hg.on hw hh]
            refine .inl ⟨rfl, ?_⟩
            simp only
            rw [← hs]
            exact per_hold hper (List.mem_of_getElem? (hix_in hh))
          · by_cases hm : 16 ≤ g.st.is.length
            · rw [ad_m hg.on hw hh hm]; exact .inr (.inr ⟨by simp, by simp, by rw [hs] at hper; exact hper⟩)
            · rw [ad_t hg.on hw hh hm]
              rcases tx_cs (g := g) { g.st with is := g.st.is ++ [i.v] } hl with ⟨h1, h2, h3⟩ | ⟨h1, h2, h3⟩
              · rw [h3, h1, ← hs]; exact .inr (.inr ⟨by simp, by simp, hper⟩)
              · rcases h3 with ⟨h3, h4, h5⟩ | ⟨h3, h4⟩
                · rw [h3, h4]; refine .inl ⟨rfl, ?_⟩; simp only; rw [h5]; exact per_add hper (hix_no hh)
                · refine .inr (.inl ⟨h3, h4, ?_⟩)
                  rcases h1 with h1 | h1
                  · rw [h1.1] at h4; exact absurd h4 (by simp [hg.on])
                  · rcases h1.2.2.2.1 with h5 | h5
                    · rw [h5]; exact .inr (per_add hper (hix_no hh))
                    · rw [h5, ← hs]; exact .inl hper
      · have hd : decide (i.k = 3) = false := decide_eq_false (by omega)
        rw [hd]
        unfold ginP
        rw [if_neg (by omega), if_neg (by omega), if_neg (by omega), if_neg (by omega), if_pos hk]
        simp only
        by_cases hh : hix g.st.is i.v < 0
        · rw [dr_n hg.on hh]; exact .inr (.inr ⟨by simp, by simp, by rw [hs] at hper; exact hper⟩)
        · have hin := hix_in (show 0 ≤ hix g.st.is i.v by omega)
          rw [dr_t hg.on hh]
          rcases tx_cs (g := g) { g.st with is := delP g.st.is (hix g.st.is i.v).toNat } hl with ⟨h1, h2, h3⟩ | ⟨h1, h2, h3⟩
          · rw [h3, h1, ← hs]; exact .inr (.inr ⟨by simp, by simp, hper⟩)
          · rcases h3 with ⟨h3, h4, h5⟩ | ⟨h3, h4⟩
            · rw [h3, h4]; refine .inl ⟨rfl, ?_⟩; simp only; rw [h5]; exact per_drop hper hin
            · refine .inr (.inl ⟨h3, h4, ?_⟩)
              rcases h1 with h1 | h1
              · rw [h1.1] at h4; exact absurd h4 (by simp [hg.on])
              · rcases h1.2.2.2.1 with h5 | h5
                · rw [h5]; exact .inr (per_drop hper hin)
                · rw [h5, ← hs]; exact .inl hper
    have hn := he.st.n
    generalize (ginP g l i).2.2 = c at *
    generalize (ginP g l i).1 = r at *
    have hwn := withP_nodup hJ.i i.v (decide (i.k = 3))
    rcases key with ⟨h1, h2⟩ | ⟨h1, h2, h3⟩ | ⟨h1, h2, h3⟩
    · have hx : x.nx i c = { x with iv := withP x.iv i.v (decide (i.k = 3)) } := by rw [hnx, if_pos h1]
      rw [hx]
      exact ⟨⟨fun h => by omega, fun h => by omega, .inr (by rw [hx]; exact (sameP_iff hn hwn).2 h2.2.2)⟩, ⟨hmono, .inl h2, hwn, hJ.m, fun _ _ => hop⟩⟩
    · have hx : x.nx i c = { x with mb := withP x.iv i.v (decide (i.k = 3)), op := true } := by rw [hnx, if_neg (by omega), if_pos h1]
      rw [hx, h2, if_pos rfl]
      exact ⟨⟨fun h => by omega, fun h => by omega, .inl (by rw [hcd]; exact h1)⟩, ⟨hmono, by rcases h3 with h | h; exact .inl h; exact .inr ⟨rfl, h⟩, hJ.i, fun _ => hwn, fun _ h => (by cases h)⟩⟩
    · have hx : x.nx i c = x := by rw [hnx, if_neg h1, if_neg h2]
      rw [hx]
      exact ⟨⟨fun h => by omega, fun h => by omega, .inr (by rw [hx]; exact (sameP_iff hn hJ.i).2 h3.2.2)⟩, ⟨hmono, .inl h3, hJ.i, hJ.m, fun _ _ => hop⟩⟩
  · have his := he.is (by omega) (by omega)
    have hsame : sameP (ginP g l i).1.2.d.is x.iv = true := by rw [his]; exact (sameP_iff (by rw [← his]; exact he.st.n) hJ.i).2 hper.2.2
    have hper' : Per (ginP g l i).1.2.d.is x.iv := by rw [his]; exact hper
    by_cases h12 : i.k = 1 ∨ i.k = 2
    · have hcd : ∀ c, ToX.cd i c = cd13 c := fun c => by unfold ToX.cd cd13; by_cases e : c = 13 <;> simp [h12, e]
      have hcode : (cd13 (ginP g l i).2.2 = 3 ∨ cd13 (ginP g l i).2.2 = 4 → (ginP g l i).1.2.d.vd i.id = some (cd13 (ginP g l i).2.2)) ∧ (∀ z, g.st.vd i.id = some z → cd13 (ginP g l i).2.2 = z) := by
        unfold ginP
        rcases h12 with hk | hk
        · rw [if_neg (by omega), if_pos hk]
          simp only
          refine ⟨fun h => ?_, fun z h => ?_⟩
          · have h9 : statP g i.id = 3 ∨ statP g i.id = 4 ∨ statP g i.id = 13 := by unfold cd13 at h; split at h <;> omega
            have h8 := stat_told hg h9
            have h7 := hg.s.vr _ _ h8
            rw [← hs, h8]
            unfold cd13
            rw [if_neg (by omega)]
          · rw [stat_v hg h]; unfold cd13; rw [if_neg (by have := hg.s.vr _ _ h; omega)]
        · rw [if_neg (by omega), if_neg (by omega), if_pos hk]
          exact abort_code hg hs hl
      have hiv : (x.nx i (ginP g l i).2.2).iv = x.iv := by unfold ToX.nx; rw [if_pos h12]; split <;> rfl
      refine ⟨⟨fun _ z hz => .inl (by rw [hcd]; exact hcode.2 z (htv _ _ hz)), fun h => by omega, .inr (by rw [hiv]; exact hsame)⟩, ?_⟩
      have hnx : x.nx i (ginP g l i).2.2 = if cd13 (ginP g l i).2.2 = 3 ∨ cd13 (ginP g l i).2.2 = 4 then { x with tl := rfU x.tl i.id (cd13 (ginP g l i).2.2) } else x := by unfold ToX.nx; rw [if_pos h12, hcd]
      by_cases h9 : cd13 (ginP g l i).2.2 = 3 ∨ cd13 (ginP g l i).2.2 = 4
      · rw [hnx, if_pos h9]
        refine ⟨fun b c h => ?_, .inl hper', hJ.i, hJ.m, fun _ _ => hop⟩
        simp only [rfU] at h
        split at h
        · rename_i e
          injection h with h
          rw [e, ← h]; exact hcode.1 h9
        · exact hmono b c h
      · rw [hnx, if_neg h9]; exact ⟨hmono, .inl hper', hJ.i, hJ.m, fun _ _ => hop⟩
    · have hx : ∀ c, x.nx i c = x := fun c => by unfold ToX.nx; rw [if_neg h12, if_neg h34]
      rw [hx]
      refine ⟨⟨fun h => absurd h h12, fun hk hz => ?_, .inr (by rw [hx]; exact hsame)⟩, ⟨hmono, .inl hper', hJ.i, hJ.m, fun _ _ => hop⟩⟩
      unfold ginP at hz ⊢
      rw [if_pos hk] at hz ⊢
      simp only at hz ⊢
      have hno : (x.tl 0).isSome = true → False := fun h => by
        cases e : x.tl 0 with
        | none => rw [e] at h; cases h
        | some c => have := htv 0 c e; rw [hg.s.v0] at this; cases this
      cases hp : parM i.tx with
      | none => rw [hp, sb_n hg.on] at hz; exact (hno hz).elim
      | some b =>
        obtain ⟨id, cs⟩ := b
        rw [hp] at hz
        by_cases h0 : id = 0
        · rw [sb_z hg.on h0] at hz; exact (hno hz).elim
        · by_cases hd : Dup g id
          · rw [sb_d hg.on h0 hd]
          · exfalso
            apply hd
            have hz' : (x.tl id).isSome = true := by
              by_cases hl : 8 ≤ g.q.length
              · rw [sb_f hg.on h0 hd hl] at hz; exact hz
              · rw [sb_y hg.on h0 hd hl] at hz; exact hz
            cases e : x.tl id with
            | none => rw [e] at hz'; cases hz'
            | some c => exact .inl (by rw [htv id c e]; rfl)
theorem told_fall {l : LdP} {g : Option GtP} {x : ToX} (hJ : ToJ l g x) {l' : LdP} (hd : l'.d = l.d) : ToJ l' none x := ⟨by rw [hd]; exact hJ.t, by rw [hd]; exact hJ.v, hJ.i, hJ.m, fun _ h => (by cases h)⟩
theorem told_led {l : LdP} {g : Option GtP} {x : ToX} (hJ : ToJ l g x) {l' : LdP} (hd : l'.d = l.d) : ToJ l' g x := ⟨by rw [hd]; exact hJ.t, by rw [hd]; exact hJ.v, hJ.i, hJ.m, hJ.g⟩

end Go.Proofs.Qxb6500908a

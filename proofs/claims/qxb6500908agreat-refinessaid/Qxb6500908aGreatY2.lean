import Derived.Test.Qxb6500908aGreatY1
namespace Go.Proofs.Qxb6500908aGreat
open Go.Eng
set_option linter.unusedVariables false
set_option linter.unusedSimpArgs false

/-! ## the laws of votes, plainly -/
structure VoX where
  pv : StP
  ys : Int → Int
  cm : Int → Bool
  rl : Int → Bool
  tk : Int
def VoV (x : VoX) (i : InP) : Prop := i.k = 7 ∧ i.m.k = 4 ∧ i.m.d < 16 ∧ i.m.e = x.pv.ep
instance (x : VoX) (i : InP) : Decidable (VoV x i) := by unfold VoV; infer_instance
def VoX.ny (x : VoX) (i : InP) : Int → Int := fun b => if (VoV x i ∧ i.m.y = true) ∧ b = i.m.b then orB (x.ys b) (sh1 i.m.d) else x.ys b
def cmU (f : Int → Bool) (k : Int) (sent : List Ms) : Int → Bool := fun b => f b || sent.any (fun m => decide (m.k = k) && decide (m.b = b))
def VoX.nt (x : VoX) (i : InP) : Int := if x.pv.ph = 1 then (if i.k = 5 then x.tk + 1 else x.tk) else 0
def VoX.nx (x : VoX) (i : InP) (now : StP) (sent : List Ms) : VoX := ⟨now, x.ny i, cmU x.cm 1 sent, cmU x.rl 2 sent, x.nt i⟩
theorem cmU_iff {f : Int → Bool} {k : Int} {sent : List Ms} {b : Int} : cmU f k sent b = true ↔ f b = true ∨ ∃ m, m ∈ sent ∧ m.k = k ∧ m.b = b := by
  unfold cmU
  simp
/-- the messages are right -/
def SntR (now : StP) (ys : Int → Int) (cm rl : Int → Bool) (sent : List Ms) : Prop :=
  ∀ m, m ∈ sent → m.e = now.ep ∧ m.b = now.fid ∧ ¬ m.b = 0 ∧ (m.k = 0 → now.ph = 1) ∧ (m.k = 1 → now.ph = 2 ∧ now.vd m.b = some 3 ∧ ys m.b = 65535) ∧ (m.k = 2 → now.ph = 3 ∧ now.vd m.b = some 4) ∧ ¬ (cm m.b = true ∧ rl m.b = true)
structure VoS (now : StP) (up : Bool) (x : VoX) (i : InP) (sent : List Ms) : Prop where
  s : SntR now (x.ny i) (cmU x.cm 1 sent) (cmU x.rl 2 sent) sent
  v : ∀ b c, x.pv.vd b = some c → now.vd b = some c
  c : now.ph = 2 → x.ny i now.fid = 65535
  n : x.pv.ph = 1 → up = true → VoV x i → i.m.y = false → i.m.b = x.pv.fid → now.ph = 3
  t : x.pv.ph = 1 → i.k = 5 → 8 ≤ x.tk + 1 → up = true → now.ph = 3
structure VoJ (l : LdP) (g : Option GtP) (x : VoX) : Prop where
  p : ∀ g', g = some g' → x.pv = l.d
  c : ∀ b, x.cm b = true → l.d.vd b = some 3
  r : ∀ b, x.rl b = true → l.d.vd b = some 4
  y2 : l.d.ph = 2 → x.ys l.d.fid = 65535
  yr : ∀ b, 0 ≤ x.ys b ∧ x.ys b ≤ 65535
  g1 : ∀ g', g = some g' → l.d.ph = 1 → Sub g'.ys (x.ys l.d.fid) ∧ x.tk = g'.tk
theorem ny_r {x : VoX} (h : ∀ b, 0 ≤ x.ys b ∧ x.ys b ≤ 65535) (i : InP) (b : Int) : 0 ≤ x.ny i b ∧ x.ny i b ≤ 65535 := by
  unfold VoX.ny
  split
  · exact orB_bd _ _
  · exact h b
theorem ny_m {x : VoX} {z : Int} {b : Int} (i : InP) (h : Sub z (x.ys b)) : Sub z (x.ny i b) := by
  unfold VoX.ny
  split
  · exact h.wide _
  · exact h
theorem ny_65 {x : VoX} (h : ∀ b, 0 ≤ x.ys b ∧ x.ys b ≤ 65535) (i : InP) {b : Int} (h9 : x.ys b = 65535) : x.ny i b = 65535 :=
  (ny_m i (show Sub 65535 (x.ys b) by rw [h9]; exact Sub.refl _)).all (ny_r h i b)
theorem ny_hit {x : VoX} {g : GtP} {i : InP} (hs : x.pv = g.st) (h : YesW g i) : x.ny i g.st.fid = orB (x.ys g.st.fid) (sh1 i.m.d) := by
  unfold VoX.ny
  rw [if_pos ⟨⟨⟨h.1, h.2.2.1, h.2.1.2.2.1, by rw [hs]; exact h.2.1.2.2.2.1⟩, h.2.2.2.2⟩, h.2.1.2.2.2.2.symm⟩]
/-- messages of the gate are right -/
theorem snt_ok {now : StP} {g : GtP} {ys : Int → Int} {cm rl : Int → Bool} {sent : List Ms} (hI : StI now) (ho : sent = [] ∨ (sent = pushP g ∧ g.st = now)) (hy : now.ph = 2 → ys now.fid = 65535) (hc : ∀ b, cm b = true → now.vd b = some 3) (hr : ∀ b, rl b = true → now.vd b = some 4) :
    SntR now ys (cmU cm 1 sent) (cmU rl 2 sent) sent ∧ (∀ b, cmU cm 1 sent b = true → now.vd b = some 3) ∧ (∀ b, cmU rl 2 sent b = true → now.vd b = some 4) := by
  have hm : ∀ m, m ∈ sent → m.e = now.ep ∧ m.b = now.fid ∧ ¬ m.b = 0 ∧ (m.k = 0 → now.ph = 1) ∧ (m.k = 1 → now.ph = 2) ∧ (m.k = 2 → now.ph = 3) := by
    intro m hm
    rcases ho with rfl | ⟨rfl, rfl⟩
    · cases hm
    · have h := push_mem hm
      have h9 := hI.f1 h.2.2.1
      refine ⟨h.1, h.2.1, by rw [h.2.1]; exact h9, ?_, ?_, ?_⟩ <;> intro hk <;> rcases h.2.2.2.1 with h | h | h | h <;> omega
  have h1 : ∀ b, cmU cm 1 sent b = true → now.vd b = some 3 := by
    intro b hb
    rcases cmU_iff.1 hb with h | ⟨m, h, hk, rfl⟩
    · exact hc b h
    · rw [(hm m h).2.1]; exact hI.v2 ((hm m h).2.2.2.2.1 hk)
  have h2 : ∀ b, cmU rl 2 sent b = true → now.vd b = some 4 := by
    intro b hb
    rcases cmU_iff.1 hb with h | ⟨m, h, hk, rfl⟩
    · exact hr b h
    · rw [(hm m h).2.1]; exact hI.v3 ((hm m h).2.2.2.2.2 hk)
  refine ⟨fun m h => ?_, h1, h2⟩
  obtain ⟨a1, a2, a3, a4, a5, a6⟩ := hm m h
  refine ⟨a1, a2, a3, a4, fun hk => ⟨a5 hk, by rw [a2]; exact hI.v2 (a5 hk), by rw [a2]; exact hy (a5 hk)⟩, fun hk => ⟨a6 hk, by rw [a2]; exact hI.v3 (a6 hk)⟩, fun h9 => ?_⟩
  have h3 := h1 _ h9.1
  rw [h2 _ h9.2] at h3
  exact absurd h3 (by simp)
theorem vote_feed {g : GtP} {l : LdP} {i : InP} {x : VoX} (hg : GtI g) (hs : g.st = l.d) (hl : l.dn = false) (hJ : VoJ l (some g) x) :
    VoS (ginP g l i).1.2.d (!(ginP g l i).1.1.off) x i (ginP g l i).1.1.out ∧ VoJ (ginP g l i).1.2 (if (ginP g l i).1.1.off then none else some { (ginP g l i).1.1 with out := [] }) (x.nx i (ginP g l i).1.2.d (ginP g l i).1.1.out) := by
  have he := eff (i := i) hg hs hl
  generalize (ginP g l i).1 = r at *
  have hp : x.pv = g.st := by rw [hs]; exact hJ.p g rfl
  have hy2 : r.2.d.ph = 2 → x.ny i r.2.d.fid = 65535 := by
    intro h2
    obtain ⟨h3, _, _, h4⟩ := he.p2 h2
    rw [h3]
    rcases h4 with h4 | ⟨h4, h5, _⟩
    · exact ny_65 hJ.yr i (by rw [hs]; exact hJ.y2 (by rw [← hs]; exact h4))
    · rw [ny_hit hp h4]
      have := ((hJ.g1 g rfl (by rw [← hs]; exact h4.2.2.2.1)).1).or (sh1 i.m.d)
      rw [h5, ← hs] at this
      exact this.all (orB_bd _ _)
  have hso := snt_ok (now := r.2.d) (g := r.1) (ys := x.ny i) (cm := x.cm) (rl := x.rl) (sent := r.1.out) he.st (by
    rcases he.out with h | ⟨h, h'⟩
    · exact .inl h
    · exact .inr ⟨h', (he.up h).2.1⟩) hy2 (fun b hb => he.mono b 3 (by rw [hs]; exact hJ.c b hb)) (fun b hb => he.mono b 4 (by rw [hs]; exact hJ.r b hb))
  refine ⟨⟨hso.1, fun b c h => he.mono b c (by rw [← hp]; exact h), hy2, fun h1 hu hv hy hb => ?_, fun h1 hk ht hu => ?_⟩, ⟨fun g' h => rfl, hso.2.1, hso.2.2, hy2, ny_r hJ.yr i, fun g' h h1 => ?_⟩⟩
  · rw [hp] at h1 hb
    have hu : r.1.off = false := by cases e : r.1.off with | false => rfl | true => rw [e] at hu; cases hu
    exact he.no hu hv.1 ⟨hg.on, by omega, hv.2.2.1, by rw [← hp]; exact hv.2.2.2, hb⟩ hv.2.1 h1 hy
  · rw [hp] at h1
    have hu : r.1.off = false := by cases e : r.1.off with | false => rfl | true => rw [e] at hu; cases hu
    exact he.tk hu hk h1 (by rw [← (hJ.g1 g rfl (by rw [← hs]; exact h1)).2]; exact ht)
  · have hu : r.1.off = false := by cases e : r.1.off with | false => rfl | true => rw [e] at h; cases h
    rw [if_neg (by rw [hu]; simp)] at h
    injection h with h
    subst h
    have h1 : r.2.d.ph = 1 := h1
    show Sub r.1.ys (x.ny i r.2.d.fid) ∧ x.nt i = r.1.tk
    rcases he.p1 hu h1 with ⟨h0, h3, h4⟩ | ⟨h0, h3, _, h4, h5⟩
    · rw [h3, h4]
      refine ⟨Sub.zero _, ?_⟩
      unfold VoX.nt
      rw [if_neg (by rw [hp]; omega)]
    · have h9 := hJ.g1 g rfl (by rw [← hs]; exact h0)
      rw [← hs] at h9
      refine ⟨?_, ?_⟩
      · rw [h3]
        rcases h4 with h4 | ⟨h4, h6⟩
        · rw [h4]; exact ny_m i h9.1
        · rw [h6, ny_hit hp h4]; exact h9.1.or _
      · unfold VoX.nt
        rw [if_pos (by rw [hp]; exact h0), h5, h9.2]
/-! ## recoveries -/
def rebP (l : LdP) : LdP := { l with dn := false }
def bootP (l : LdP) : Option GtP × LdP := (if (storeP (rebP l) (opS l.d)).2 = 0 then some (openG (opS l.d)) else none, (storeP (rebP l) (opS l.d)).1)
structure BtR (l : LdP) (r : Option GtP × LdP) : Prop where
  st : StI r.2.d
  mono : ∀ b c, l.d.vd b = some c → r.2.d.vd b = some c
  up : ∀ g, r.1 = some g → GtI { g with out := [] } ∧ g.st = r.2.d ∧ r.2.dn = false ∧ g = openG r.2.d ∧ r.2.d = opS l.d
  d : r.2.d = opS l.d ∨ (r.2.d = l.d ∧ r.1 = none)
  fu : r.1 = none → 0 < l.fu
  fu0 : l.fu ≤ 0 → r.2.fu = l.fu
theorem ops_sti {s : StP} (h : StI s) : StI (opS s) ∧ (∀ b c, s.vd b = some c → (opS s).vd b = some c) ∧ (opS s).is = s.is ∧ (opS s).fid = s.fid ∧ (opS s).fn = s.fn ∧ (opS s).vs = s.vs ∧ (opS s).ep = s.ep + 1 ∧ ¬ (opS s).ph = 1 ∧ ((opS s).ph = s.ph ∨ (s.ph = 1 ∧ (opS s).ph = 3)) := by
  obtain ⟨p, f0, f1, v1, v2, v3, v0, vr, n, il, vl⟩ := h
  unfold opS
  split
  · rename_i h1
    refine ⟨⟨by simp [setlP], fun h => by simp [setlP] at h, fun _ => f1 (by omega), fun h => by simp [setlP] at h, fun h => by simp [setlP] at h, fun h => by simp [setlP], ?_, fun i c h => ?_, n, il, vl⟩, fun b c hb => ?_, rfl, rfl, rfl, rfl, rfl, by simp [setlP], .inr ⟨h1, by simp [setlP]⟩⟩
    · simp only [setlP]; rw [if_neg (by have := f1 (by omega); omega)]; exact v0
    · simp only [setlP] at h
      split at h
      · simp at h; omega
      · exact vr i c h
    · simp only [setlP]
      rw [if_neg (fun e => by rw [e, v1 h1] at hb; cases hb)]; exact hb
  · exact ⟨⟨p, f0, f1, v1, v2, v3, v0, vr, n, il, vl⟩, fun b c hb => hb, rfl, rfl, rfl, rfl, rfl, by assumption, .inl rfl⟩
theorem open_gti {s : StP} (h : StI s) (h1 : ¬ s.ph = 1) : GtI { openG s with out := [] } := by
  refine ⟨h, rfl, rfl, List.nodup_nil, fun b hb => (by cases hb), Nat.zero_le _, by simp [openG, gt0], fun h9 => absurd h9 h1, by simp [openG, gt0], fun h9 => absurd h9 h1, by simp [openG, gt0], fun _ => by simp [openG, gt0], fun h9 => ?_, fun h9 => absurd h9 h1, fun j c h => (by cases h)⟩
  have := h.p
  have h9 : (!decide (s.ph = 0)) = true := h9
  simp at h9
  show s.ph = 2 ∨ s.ph = 3
  omega
theorem boot_cs {l : LdP} (h : StI l.d) : BtR l (bootP l) := by
  obtain ⟨h1, h2, _, _, _, _, _, h3, _⟩ := ops_sti h
  unfold bootP
  rcases store_cs (l := rebP l) (opS l.d) rfl with ⟨a1, a2, a3, a4⟩ | ⟨a1, a2, a3, a4⟩
  · rw [if_pos a1]
    refine ⟨by rw [a2]; exact h1, fun b c hb => by rw [a2]; exact h2 b c hb, fun g hg => ?_, .inl a2, fun h => (by cases h), fun h => a4 h⟩
    injection hg with hg
    subst hg
    exact ⟨open_gti h1 h3, by rw [a2]; rfl, a3, by rw [a2], a2⟩
  · rw [if_neg (by omega)]
    have a4 : 0 < l.fu := a4
    refine ⟨?_, ?_, fun g hg => (by cases hg), ?_, fun _ => a4, fun h => by omega⟩
    · rcases a3 with a3 | a3
      · rw [a3]; exact h1
      · rw [a3]; exact h
    · rcases a3 with a3 | a3
      · rw [a3]; exact h2
      · rw [a3]; exact fun b c hb => hb
    · rcases a3 with a3 | a3
      · exact .inl a3
      · exact .inr ⟨a3, rfl⟩
/-- what a recovery sends -/
def sentB (r : Option GtP × LdP) : List Ms := match r.1 with
  | some g => g.out
  | none => []
def upB (r : Option GtP × LdP) : Option GtP := r.1.map (fun g => { g with out := [] })
def VoX.bt (x : VoX) (now : StP) (sent : List Ms) : VoX := ⟨now, x.ys, cmU x.cm 1 sent, cmU x.rl 2 sent, 0⟩
theorem vote_boot {l : LdP} {x : VoX} (hI : StI l.d) (hJ : VoJ l none x) :
    SntR (bootP l).2.d x.ys (cmU x.cm 1 (sentB (bootP l))) (cmU x.rl 2 (sentB (bootP l))) (sentB (bootP l)) ∧ ((bootP l).1.isSome = true → ¬ (bootP l).2.d.ph = 1) ∧ VoJ (bootP l).2 (upB (bootP l)) (x.bt (bootP l).2.d (sentB (bootP l))) := by
  have hb := boot_cs hI
  generalize bootP l = r at *
  obtain ⟨h1, h2, _, h4, _, _, _, h3, h5⟩ := ops_sti hI
  have hy2 : r.2.d.ph = 2 → x.ys r.2.d.fid = 65535 := by
    intro h9
    rcases hb.d with h | h
    · rw [h, h4]; rw [h] at h9
      rcases h5 with h5 | h5
      · exact hJ.y2 (by omega)
      · omega
    · rw [h.1]; rw [h.1] at h9; exact hJ.y2 h9
  have hso := snt_ok (now := r.2.d) (g := openG r.2.d) (ys := x.ys) (cm := x.cm) (rl := x.rl) (sent := sentB r) hb.st (by
    unfold sentB
    cases e : r.1 with
    | none => exact .inl rfl
    | some g => obtain ⟨_, _, _, h, _⟩ := hb.up g e; rw [h]; exact .inr ⟨rfl, rfl⟩) hy2 (fun b hb' => hb.mono b 3 (hJ.c b hb')) (fun b hb' => hb.mono b 4 (hJ.r b hb'))
  refine ⟨hso.1, fun h => ?_, ⟨fun g' h => rfl, hso.2.1, hso.2.2, hy2, hJ.yr, fun g' h h9 => ?_⟩⟩
  · cases e : r.1 with
    | none => rw [e] at h; cases h
    | some g => rw [(hb.up g e).2.2.2.2]; exact h3
  · exfalso
    unfold upB at h
    cases e : r.1 with
    | none => rw [e] at h; cases h
    | some g => have h9 : r.2.d.ph = 1 := h9; rw [(hb.up g e).2.2.2.2] at h9; exact h3 h9
theorem vote_fall {l : LdP} {g : Option GtP} {x : VoX} (hJ : VoJ l g x) {l' : LdP} (hd : l'.d = l.d) : VoJ l' none x := ⟨fun g' h => (by cases h), by rw [hd]; exact hJ.c, by rw [hd]; exact hJ.r, by rw [hd]; exact hJ.y2, hJ.yr, fun g' h => (by cases h)⟩
theorem vote_led {l : LdP} {g : Option GtP} {x : VoX} (hJ : VoJ l g x) {l' : LdP} (hd : l'.d = l.d) : VoJ l' g x := ⟨by rw [hd]; exact hJ.p, by rw [hd]; exact hJ.c, by rw [hd]; exact hJ.r, by rw [hd]; exact hJ.y2, hJ.yr, by rw [hd]; exact hJ.g1⟩
/-! ## the law of recoveries, plainly -/
structure ReX where
  top : Int
  wt : Bool
  ep : Int
  bt : Int
  rp : Int
def topU (t : Int) (sent : List Ms) : Int := sent.foldl (fun t m => if t < m.e then m.e else t) t
def ReV (x : ReX) (i : InP) : Prop := i.k = 7 ∧ i.m.k = 6 ∧ i.m.d < 16 ∧ i.m.e = x.ep ∧ i.m.b = x.bt
instance (x : ReX) (i : InP) : Decidable (ReV x i) := by unfold ReV; infer_instance
def ReX.nr (x : ReX) (i : InP) : Int := if ReV x i then orB x.rp (sh1 i.m.d) else x.rp
def ReX.nx (x : ReX) (i : InP) (now : StP) (sent : List Ms) : ReX := if x.wt then ⟨topU x.top sent, !decide (now.ph = 0), x.ep, x.bt, x.nr i⟩ else { x with top := topU x.top sent }
def ReS (now : StP) (x : ReX) (i : InP) : Prop := x.wt = true → now.ph = 0 → x.nr i = 65535
structure ReJ (l : LdP) (g : Option GtP) (x : ReX) : Prop where
  t : 0 ≤ x.top ∧ x.top ≤ l.d.ep
  w : x.wt = true → ∃ g', g = some g' ∧ g'.au = true ∧ ¬ l.d.ph = 0 ∧ x.ep = l.d.ep ∧ x.bt = l.d.fid ∧ Sub g'.dn x.rp
  r : 0 ≤ x.rp ∧ x.rp ≤ 65535
theorem topU_le {E : Int} : ∀ {sent : List Ms} {t : Int}, 0 ≤ t → t ≤ E → (∀ m, m ∈ sent → m.e = E) → 0 ≤ topU t sent ∧ topU t sent ≤ E
  | [], t, h0, h, _ => ⟨h0, h⟩
  | m :: s, t, h0, h, hm => by
    have h1 := hm m (List.mem_cons_self ..)
    show 0 ≤ topU (if t < m.e then m.e else t) s ∧ topU (if t < m.e then m.e else t) s ≤ E
    exact topU_le (by split <;> omega) (by split <;> omega) (fun m' h' => hm m' (List.mem_cons_of_mem _ h'))
theorem rec_feed {g : GtP} {l : LdP} {i : InP} {x : ReX} (hg : GtI g) (hs : g.st = l.d) (hl : l.dn = false) (hJ : ReJ l (some g) x) :
    ReS (ginP g l i).1.2.d x i ∧ (∃ b : Bool, ReJ (ginP g l i).1.2 (if (ginP g l i).1.1.off then none else some { (ginP g l i).1.1 with out := [] }) (if (ginP g l i).1.1.off then { x.nx i (ginP g l i).1.2.d (ginP g l i).1.1.out with wt := false } else x.nx i (ginP g l i).1.2.d (ginP g l i).1.1.out)) := by
  have he := eff (i := i) hg hs hl
  generalize (ginP g l i).1 = r at *
  have htop : 0 ≤ topU x.top r.1.out ∧ topU x.top r.1.out ≤ r.2.d.ep := by
    refine topU_le hJ.t.1 (by rw [he.ep, hs]; exact hJ.t.2) fun m hm => ?_
    rcases he.out with h | ⟨h, h'⟩
    · rw [h] at hm; cases hm
    · rw [h'] at hm; rw [(push_mem hm).1, (he.up h).2.1]
  have hcn : x.wt = true → CnfW g i.m → i.k = 7 → ReV x i := by
    intro hw hc hk
    obtain ⟨g', hg', h1, h2, h3, h4, h5⟩ := hJ.w hw
    injection hg' with hg'
    subst hg'
    have hH := hc.1
    refine ⟨hk, ?_, hH.2.2.1, by rw [h3, ← hs]; exact hH.2.2.2.1, by rw [h4, ← hs]; exact hH.2.2.2.2⟩
    rcases hc.2 with h | h | h
    · rw [h1] at h; exact absurd h.2.2 (by simp)
    · exact h.1
    · exact h.1
  have hr : 0 ≤ x.nr i ∧ x.nr i ≤ 65535 := by
    unfold ReX.nr; split
    · exact orB_bd _ _
    · exact hJ.r
  refine ⟨fun hw h0 => ?_, true, ?_⟩
  · obtain ⟨g', hg', h1, h2, h3, h4, h5⟩ := hJ.w hw
    injection hg' with hg'
    subst hg'
    obtain ⟨a1, a2, a3⟩ := he.au h1 h0
    unfold ReX.nr
    rw [if_pos (hcn hw a1 a2)]
    have := h5.or (sh1 i.m.d)
    rw [a3] at this
    exact this.all (orB_bd _ _)
  · cases hu : r.1.off with
    | true =>
      simp only [if_true]
      refine ⟨?_, fun h => (by cases h), ?_⟩
      · show 0 ≤ (x.nx i r.2.d r.1.out).top ∧ (x.nx i r.2.d r.1.out).top ≤ r.2.d.ep
        unfold ReX.nx; split <;> exact htop
      · show 0 ≤ (x.nx i r.2.d r.1.out).rp ∧ (x.nx i r.2.d r.1.out).rp ≤ 65535
        unfold ReX.nx; split
        · exact hr
        · exact hJ.r
    | false =>
      rw [if_neg (by simp), if_neg (by simp)]
      cases hw : x.wt with
      | false =>
        unfold ReX.nx
        rw [hw, if_neg (by simp)]
        exact ⟨htop, fun h => (by cases h), hJ.r⟩
      | true =>
        unfold ReX.nx
        rw [hw, if_pos rfl]
        refine ⟨htop, fun h => ?_, hr⟩
        have h0 : ¬ r.2.d.ph = 0 := by simpa using h
        obtain ⟨g', hg', h1, h2, h3, h4, h5⟩ := hJ.w hw
        injection hg' with hg'
        subst hg'
        obtain ⟨a1, a2, a3⟩ := he.au1 h1 hu h0
        refine ⟨_, rfl, a1, h0, by rw [he.ep, hs]; exact h3, by rw [a2, hs]; exact h4, ?_⟩
        show Sub r.1.dn (x.nr i)
        rcases a3 with a3 | ⟨a3, a4, a5⟩
        · rw [a3]; unfold ReX.nr; split
          · exact h5.wide _
          · exact h5
        · rw [a5]; unfold ReX.nr; rw [if_pos (hcn hw a3 a4)]; exact h5.or _
def wantM (k : Int) (now : StP) (d : Nat) : Ms := ⟨k, (d : Int), now.ep, now.fid, false, 0, 0, ⟨#[]⟩⟩
def wantL (k : Int) (now : StP) : List Ms := (List.range 16).flatMap (fun d => [wantM k now d, wantM 3 now d])
structure ReB (bf now : StP) (ok : Bool) (x : ReX) (sent : List Ms) : Prop where
  n : ok = false → sent = []
  e : ok = true → bf.ep < now.ep ∧ x.top < now.ep
  z : ok = true → bf.ph = 0 → now.ph = 0 ∧ sent = []
  f : ok = true → ¬ bf.ph = 0 → now.fid = bf.fid ∧ now.ph = (if bf.ph = 2 then 2 else 3) ∧ sent = wantL (if bf.ph = 2 then 1 else 2) now
def ReX.bx (x : ReX) (bf now : StP) (ok : Bool) (sent : List Ms) : ReX := if ok = false then x else if bf.ph = 0 then { x with top := topU x.top sent } else ⟨topU x.top sent, true, now.ep, now.fid, 0⟩
theorem flatMap_congr9 {α β : Type} {f g : α → List β} : ∀ {l : List α}, (∀ a, a ∈ l → f a = g a) → l.flatMap f = l.flatMap g
  | [], _ => rfl
  | a :: l, h => by rw [List.flatMap_cons, List.flatMap_cons, h a (List.mem_cons_self ..), flatMap_congr9 fun b hb => h b (List.mem_cons_of_mem _ hb)]
theorem bit0 : ∀ d : Nat, d < 16 → bitIn 0 d = false := by
  intro d hd
  unfold bitIn sh1
  rcases (show d = 0 ∨ d = 1 ∨ d = 2 ∨ d = 3 ∨ d = 4 ∨ d = 5 ∨ d = 6 ∨ d = 7 ∨ d = 8 ∨ d = 9 ∨ d = 10 ∨ d = 11 ∨ d = 12 ∨ d = 13 ∨ d = 14 ∨ d = 15 by omega) with rfl | rfl | rfl | rfl | rfl | rfl | rfl | rfl | rfl | rfl | rfl | rfl | rfl | rfl | rfl | rfl <;> decide
theorem open_out {s : StP} (h : s.ph = 2 ∨ s.ph = 3) : pushP (gt0 s) = wantL (if s.ph = 2 then 1 else 2) s := by
  unfold pushP wantL
  refine flatMap_congr9 fun d hd => ?_
  have hd := List.mem_range.1 hd
  have ha : (gt0 s).au = true := by show (!decide (s.ph = 0)) = true; rw [decide_eq_false (by omega)]; rfl
  unfold psh1
  rw [if_neg (show ¬ (gt0 s).st.ph = 1 by show ¬ s.ph = 1; omega), if_pos (show (gt0 s).st.ph = 2 ∨ (gt0 s).st.ph = 3 from h), show (gt0 s).dn = 0 from rfl, bit0 d hd, ha]
  simp only [Bool.false_eq_true, if_false, if_true]
  have e1 : mkP (gt0 s).st (gt0 s).sl (if (gt0 s).st.ph = 2 then 1 else 2) d = wantM (if s.ph = 2 then 1 else 2) s d := by
    unfold mkP wantM
    simp only [Ms.mk.injEq, true_and]
    refine ⟨rfl, rfl, rfl, ?_⟩
    rw [if_neg (by split <;> omega)]
  rw [e1]
  rfl
theorem open_out0 {s : StP} (h : s.ph = 0) : pushP (gt0 s) = [] := by
  unfold pushP
  rw [flatMap_congr9 (g := fun _ => []) fun d hd => ?_]
  · simp
  · unfold psh1
    rw [if_neg (show ¬ (gt0 s).st.ph = 1 by show ¬ s.ph = 1; omega), if_neg (show ¬ ((gt0 s).st.ph = 2 ∨ (gt0 s).st.ph = 3) by show ¬ (s.ph = 2 ∨ s.ph = 3); omega)]
theorem rec_boot {l : LdP} {x : ReX} (hI : StI l.d) (hJ : ReJ l none x) :
    ReB l.d (bootP l).2.d (bootP l).1.isSome x (sentB (bootP l)) ∧ ReJ (bootP l).2 (upB (bootP l)) (x.bx l.d (bootP l).2.d (bootP l).1.isSome (sentB (bootP l))) := by
  have hb := boot_cs hI
  generalize bootP l = r at *
  obtain ⟨h1, h2, _, h4, _, _, h6, h3, h5⟩ := ops_sti hI
  have hw : x.wt = false := by
    cases e : x.wt with
    | false => rfl
    | true => obtain ⟨g', h, _⟩ := hJ.w e; cases h
  have hpp := hI.p
  cases e : r.1 with
  | none =>
    have hs : sentB r = [] := by unfold sentB; rw [e]
    rw [hs]
    refine ⟨⟨fun _ => rfl, fun h => (by cases h), fun h => (by cases h), fun h => (by cases h)⟩, ?_⟩
    unfold ReX.bx
    rw [if_pos (show (none : Option GtP).isSome = false from rfl)]
    refine ⟨⟨hJ.t.1, ?_⟩, fun h => (by rw [hw] at h; cases h), hJ.r⟩
    have := hJ.t.2
    rcases hb.d with h | h
    · rw [h, h6]; omega
    · rw [h.1]; exact this
  | some g =>
    obtain ⟨a1, a2, a3, a4, a5⟩ := hb.up g e
    have hs : sentB r = pushP (gt0 r.2.d) := by unfold sentB; rw [e]; simp only; rw [a4]; rfl
    have hep : r.2.d.ep = l.d.ep + 1 := by rw [a5, h6]
    have ht := hJ.t.2
    have h9 : 0 ≤ topU x.top (sentB r) ∧ topU x.top (sentB r) ≤ r.2.d.ep := topU_le hJ.t.1 (by omega) fun m hm => by
      rw [hs] at hm; exact (push_mem hm).1
    by_cases h0 : l.d.ph = 0
    · have hn0 : r.2.d.ph = 0 := by rw [a5]; omega
      refine ⟨⟨fun h => (by cases h), fun _ => by omega, fun _ _ => ⟨hn0, by rw [hs]; exact open_out0 hn0⟩, fun _ h => absurd h0 h⟩, ?_⟩
      unfold ReX.bx
      rw [if_neg (by simp), if_pos h0]
      exact ⟨h9, fun h => (by rw [hw] at h; cases h), hJ.r⟩
    · have hph : r.2.d.ph = (if l.d.ph = 2 then 2 else 3) := by rw [a5]; split <;> omega
      have hph2 : r.2.d.ph = 2 ∨ r.2.d.ph = 3 := by rw [hph]; split <;> omega
      have hif : (if r.2.d.ph = 2 then (1 : Int) else 2) = if l.d.ph = 2 then 1 else 2 := by rw [hph]; split <;> simp
      refine ⟨⟨fun h => (by cases h), fun _ => by omega, fun _ h => absurd h h0, fun _ _ => ⟨by rw [a5, h4], hph, by rw [hs, open_out hph2, hif]⟩⟩, ?_⟩
      unfold ReX.bx
      rw [if_neg (by simp), if_neg h0]
      refine ⟨h9, fun _ => ?_, by simp⟩
      refine ⟨{ g with out := [] }, by unfold upB; rw [e]; rfl, ?_, by omega, rfl, rfl, ?_⟩
      · show g.au = true
        rw [a4]
        show (!decide (r.2.d.ph = 0)) = true
        rw [decide_eq_false (by omega)]; rfl
      · show Sub g.dn 0
        rw [a4]; exact Sub.refl _
theorem rec_fall {l : LdP} {g : Option GtP} {x : ReX} (hJ : ReJ l g x) {l' : LdP} (hd : l'.d = l.d) : ReJ l' none { x with wt := false } := ⟨by rw [hd]; exact hJ.t, fun h => (by cases h), hJ.r⟩
theorem rec_led {l : LdP} {g : Option GtP} {x : ReX} (hJ : ReJ l g x) {l' : LdP} (hd : l'.d = l.d) : ReJ l' g x := ⟨by rw [hd]; exact hJ.t, by rw [hd]; exact hJ.w, hJ.r⟩

end Go.Proofs.Qxb6500908aGreat

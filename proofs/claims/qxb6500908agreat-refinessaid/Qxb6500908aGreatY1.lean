import Derived.Test.Qxb6500908aGreatY0
namespace Go.Proofs.Qxb6500908aGreat
open Go.Eng
set_option linter.unusedVariables false
set_option linter.unusedSimpArgs false

/-! ## bits -/
def bv (x : Int) : BitVec 16 := BitVec.ofInt 16 x
theorem bv_or (x y : Int) : bv (orB x y) = bv x ||| bv y := by
  have h : orB x y = ((BitVec.ofInt 16 x ||| BitVec.ofInt 16 y).toNat : Int) := by
    unfold orB bitsOf
    refine wrap_fits (k := .u16) ?_
    have := (BitVec.ofInt 16 x ||| BitVec.ofInt 16 y).isLt
    show 0 ≤ ((BitVec.ofInt 16 x ||| BitVec.ofInt 16 y).toNat : Int) ∧ ((BitVec.ofInt 16 x ||| BitVec.ofInt 16 y).toNat : Int) ≤ 65535
    omega
  unfold bv
  rw [h, BitVec.ofInt_natCast, BitVec.ofNat_toNat, BitVec.setWidth_eq]
def Sub (x y : Int) : Prop := bv x ||| bv y = bv y
theorem bv_inj {x y : Int} (hx : 0 ≤ x ∧ x ≤ 65535) (hy : 0 ≤ y ∧ y ≤ 65535) (h : bv x = bv y) : x = y := by
  have := congrArg BitVec.toNat h
  simp only [bv, BitVec.toNat_ofInt] at this
  omega
theorem Sub.refl (x : Int) : Sub x x := BitVec.or_self
theorem Sub.zero (x : Int) : Sub 0 x := by show (0#16) ||| bv x = bv x; exact BitVec.zero_or
theorem Sub.or {x y : Int} (h : Sub x y) (z : Int) : Sub (orB x z) (orB y z) := by
  unfold Sub at *
  rw [bv_or, bv_or]
  conv => rhs; rw [← h]
  conv => lhs; rw [← h]
  generalize bv x = a
  generalize bv y = b
  generalize bv z = c
  ext i
  simp only [BitVec.getElem_or]
  cases a[i] <;> cases b[i] <;> cases c[i] <;> rfl
theorem Sub.wide {x y : Int} (h : Sub x y) (z : Int) : Sub x (orB y z) := by
  unfold Sub at *
  rw [bv_or, ← BitVec.or_assoc, h]
theorem Sub.all {y : Int} (h : Sub 65535 y) (hy : 0 ≤ y ∧ y ≤ 65535) : y = 65535 := by
  refine bv_inj hy (by omega) ?_
  unfold Sub at h
  rw [← h, show bv 65535 = BitVec.allOnes 16 from rfl, BitVec.allOnes_or]
/-! ## what an input comes to, as the laws see it -/
theorem push_mem {g : GtP} {m : Ms} (h : m ∈ pushP g) : m.e = g.st.ep ∧ m.b = g.st.fid ∧ ¬ g.st.ph = 0 ∧ ((m.k = 0 ∧ g.st.ph = 1) ∨ (m.k = 1 ∧ g.st.ph = 2) ∨ (m.k = 2 ∧ g.st.ph = 3) ∨ (m.k = 3 ∧ (g.st.ph = 2 ∨ g.st.ph = 3) ∧ g.au = true)) ∧ ∃ d : Nat, d < 16 ∧ m.d = (d : Int) ∧ (m.k = 0 → m.t = g.sl d) := by
  obtain ⟨d, hd, h⟩ := List.mem_flatMap.1 h
  have hd := List.mem_range.1 hd
  unfold psh1 at h
  split at h
  · rename_i h1
    split at h
    · cases h
    · rw [List.mem_singleton.1 h]; exact ⟨rfl, rfl, by omega, .inl ⟨rfl, h1⟩, d, hd, rfl, fun _ => by simp [mkP]⟩
  · split at h
    · rename_i h1 h2
      split at h
      · cases h
      · rcases List.mem_cons.1 h with h | h
        · rw [h]
          refine ⟨rfl, rfl, by omega, ?_, d, hd, rfl, fun h9 => ?_⟩
          · by_cases e : g.st.ph = 2
            · exact .inr (.inl ⟨by simp [mkP, e], e⟩)
            · exact .inr (.inr (.inl ⟨by simp [mkP, e], by omega⟩))
          · exfalso
            simp only [mkP] at h9
            split at h9 <;> omega
        · split at h
          · rename_i ha
            rw [List.mem_singleton.1 h]; exact ⟨rfl, rfl, by omega, .inr (.inr (.inr ⟨rfl, h2, ha⟩)), d, hd, rfl, fun h9 => by simp [mkP] at h9⟩
          · cases h
    · cases h
theorem Tr.mono {g : GtP} {i : InP} {s : StP} {g1 : GtP} (h : Tr g i s g1) (hg : GtI g) : ∀ b c, g.st.vd b = some c → s.vd b = some c := by
  intro b c hb
  cases h with
  | start b q nt hk h0 hq => exact hb
  | dec c y t h1 hw =>
    simp only [setlP]
    rw [if_neg (fun e => by rw [e, hg.s.v1 h1] at hb; cases hb)]; exact hb
  | cls hk hc hd => exact hb
  | abq hk hq =>
    obtain ⟨b', hb', he⟩ := qix_in hq
    have h9 := (hg.qv b' (List.mem_of_getElem? hb')).2.1
    simp only [abS, rfU]
    rw [if_neg (fun e => by rw [e, ← he, h9] at hb; cases hb)]; exact hb
  | add hk hw hh hl => exact hb
  | drop hk hh => exact hb
def YesW (g : GtP) (i : InP) : Prop := i.k = 7 ∧ Heed g i.m ∧ i.m.k = 4 ∧ g.st.ph = 1 ∧ i.m.y = true
structure Eff (g : GtP) (i : InP) (r : GtP × LdP) : Prop where
  st : StI r.2.d
  mono : ∀ b c, g.st.vd b = some c → r.2.d.vd b = some c
  up : r.1.off = false → GtI { r.1 with out := [] } ∧ r.1.st = r.2.d ∧ r.2.dn = false
  out : r.1.out = [] ∨ (r.1.off = false ∧ r.1.out = pushP r.1)
  p2 : r.2.d.ph = 2 → r.2.d.fid = g.st.fid ∧ r.2.d.fn = g.st.fn ∧ r.2.d.vs = g.st.vs ∧ (g.st.ph = 2 ∨ (YesW g i ∧ orB g.ys (sh1 i.m.d) = 65535 ∧ chkP g.st.fn g.st.is = true ∧ r.2.d.is = g.st.is))
  no : r.1.off = false → i.k = 7 → Heed g i.m → i.m.k = 4 → g.st.ph = 1 → i.m.y = false → r.2.d.ph = 3
  tk : r.1.off = false → i.k = 5 → g.st.ph = 1 → 8 ≤ g.tk + 1 → r.2.d.ph = 3
  p1 : r.1.off = false → r.2.d.ph = 1 → (g.st.ph = 0 ∧ r.1.ys = 0 ∧ r.1.tk = 0) ∨ (g.st.ph = 1 ∧ r.2.d.fid = g.st.fid ∧ r.2.d.fn = g.st.fn ∧ (r.1.ys = g.ys ∨ (YesW g i ∧ r.1.ys = orB g.ys (sh1 i.m.d))) ∧ r.1.tk = (if i.k = 5 then g.tk + 1 else g.tk))
  ep : r.2.d.ep = g.st.ep
  au : g.au = true → r.2.d.ph = 0 → CnfW g i.m ∧ i.k = 7 ∧ orB g.dn (sh1 i.m.d) = 65535
  au1 : g.au = true → r.1.off = false → ¬ r.2.d.ph = 0 → r.1.au = true ∧ r.2.d.fid = g.st.fid ∧ (r.1.dn = g.dn ∨ (CnfW g i.m ∧ i.k = 7 ∧ r.1.dn = orB g.dn (sh1 i.m.d)))
  is : ¬ i.k = 3 → ¬ i.k = 4 → r.2.d.is = g.st.is
  vs : r.2.d.vs = g.st.vs ∨ (r.2.d.vs = g.st.vs ++ [(g.st.fid, g.st.fn)] ∧ g.st.ph = 2 ∧ r.2.d.ph = 0)
theorem eff_tr {g : GtP} {i : InP} {s : StP} {g1 : GtP} (h : Tr g i s g1) (hg : GtI g) {l : LdP} (hd : l.d = s) (hn : l.dn = false) : Eff g i (g1, l) := by
  subst hd
  have hs := h.sti hg
  refine ⟨hs.1, h.mono hg, fun _ => ⟨h.gti hg, hs.2, hn⟩, ?_, ?_, ?_, ?_, ?_, ?_, ?_, ?_, ?_, ?_⟩
  · rcases h.out hg with h9 | h9
    · exact .inl h9
    · refine .inr ⟨?_, h9⟩
      have := (h.gti hg).on
      exact this
  · intro h2
    show l.d.fid = g.st.fid ∧ _
    generalize l.d = s at *
    cases h with
    | start b q nt hk h0 hq => simp [stNx] at h2
    | dec c y t h1 hw =>
      cases c with
      | false => simp [setlP] at h2
      | true =>
        refine ⟨rfl, rfl, rfl, .inr ?_⟩
        rcases hw with h | h | h | h
        · exact absurd h.2.1 (by simp)
        · exact absurd h.2.2.1 (by simp)
        · exact absurd h.2.2.2.2.1 (by simp)
        · exact ⟨⟨h.1, h.2.1, h.2.2.1, h1, h.2.2.2.1⟩, h.2.2.2.2.1, h.2.2.2.2.2.1.symm, rfl⟩
    | cls hk hc hd => simp [clsP] at h2
    | abq hk hq => exact ⟨rfl, rfl, rfl, .inl h2⟩
    | add hk hw hh hl => exact ⟨rfl, rfl, rfl, .inl h2⟩
    | drop hk hh => exact ⟨rfl, rfl, rfl, .inl h2⟩
  · intro _ hk7 hH h4 h1 hy
    show l.d.ph = 3
    generalize l.d = s at *
    cases h with
    | start b q nt hk h0 hq => omega
    | dec c y t h1 hw =>
      rcases hw with h | h | h | h
      · omega
      · omega
      · rw [h.2.2.2.2.1]; rfl
      · rw [hy] at h; exact absurd h.2.2.2.1 (by simp)
    | cls hk hc hd => rcases hc.2 with h | h | h <;> omega
    | abq hk hq => omega
    | add hk hw hh hl => omega
    | drop hk hh => omega
  · intro _ hk5 h1 ht
    show l.d.ph = 3
    generalize l.d = s at *
    cases h with
    | start b q nt hk h0 hq => omega
    | dec c y t h1 hw =>
      rcases hw with h | h | h | h
      · rw [h.2.1]; rfl
      · omega
      · omega
      · omega
    | cls hk hc hd => omega
    | abq hk hq => omega
    | add hk hw hh hl => omega
    | drop hk hh => omega
  · intro _ h1
    show _ ∨ (_ ∧ l.d.fid = _ ∧ l.d.fn = _ ∧ _)
    have h1 : l.d.ph = 1 := h1
    generalize l.d = s at *
    cases h with
    | start b q nt hk h0 hq => exact .inl ⟨h0, rfl, rfl⟩
    | dec c y t h1' hw => simp only [setlP] at h1; split at h1 <;> omega
    | cls hk hc hd => simp [clsP] at h1
    | abq hk hq => exact .inr ⟨h1, rfl, rfl, .inl rfl, by rw [if_neg (by omega)]⟩
    | add hk hw hh hl => exact .inr ⟨h1, rfl, rfl, .inl rfl, by rw [if_neg (by omega)]⟩
    | drop hk hh => exact .inr ⟨h1, rfl, rfl, .inl rfl, by rw [if_neg (by omega)]⟩
  · show l.d.ep = _
    generalize l.d = s at *
    cases h <;> rfl
  · intro ha h0
    have hp := hg.au ha
    have h0 : l.d.ph = 0 := h0
    generalize l.d = s at *
    cases h with
    | start b q nt hk h0 hq => omega
    | dec c y t h1 hw => omega
    | cls hk hc hd => exact ⟨hc, hk, hd⟩
    | abq hk hq => simp only [abS] at h0; omega
    | add hk hw hh hl => simp only at h0; omega
    | drop hk hh => simp only at h0; omega
  · intro ha _ h0
    have hp := hg.au ha
    show _ ∧ l.d.fid = _ ∧ _
    have h0 : ¬ l.d.ph = 0 := h0
    generalize l.d = s at *
    cases h with
    | start b q nt hk h0 hq => omega
    | dec c y t h1 hw => omega
    | cls hk hc hd => exact absurd rfl h0
    | abq hk hq => exact ⟨ha, rfl, .inl rfl⟩
    | add hk hw hh hl => exact ⟨ha, rfl, .inl rfl⟩
    | drop hk hh => exact ⟨ha, rfl, .inl rfl⟩
  · intro h3 h4
    show l.d.is = _
    generalize l.d = s at *
    cases h with
    | add hk hw hh hl => omega
    | drop hk hh => omega
    | _ => rfl
  · show l.d.vs = _ ∨ (l.d.vs = _ ∧ _ ∧ l.d.ph = 0)
    generalize l.d = s at *
    cases h with
    | cls hk hc hd =>
      by_cases h2 : g.st.ph = 2
      · exact .inr ⟨by simp [clsP, h2], h2, rfl⟩
      · exact .inl (by simp [clsP, h2])
    | _ => exact .inl rfl
theorem eff_qt {g : GtP} {i : InP} {g1 : GtP} (h : Qt g i g1) (hg : GtI g) {l : LdP} (hd : g.st = l.d) (hn : l.dn = false) : Eff g i (g1, l) := by
  have hs := h.gti hg
  refine ⟨hd ▸ hg.s, fun b c h => hd ▸ h, fun _ => ⟨hs.1, hs.2.trans hd, hn⟩, ?_, fun h2 => ⟨by rw [hd], by rw [hd], by rw [hd], .inl (by rw [hd]; exact h2)⟩, ?_, ?_, ?_, by rw [hd], fun ha h0 => ?_, fun ha _ _ => ?_, fun _ _ => by rw [hd], .inl (by rw [hd])⟩
  · rcases h.out hg with h9 | h9
    · exact .inl h9
    · exact .inr ⟨hs.1.on, h9⟩
  · intro _ hk7 hH h4 h1 hy
    cases h with
    | same h5 h7 => exact absurd ⟨hH, h4, h1⟩ (h7 hk7).1
    | yes h hh hk h1 hy' hn => rw [hy] at hy'; cases hy'
    | cnf h hc hn => rcases hc.2 with h | h | h <;> omega
    | sub b f h h0 hd hl hf => omega
    | ref b q f h h0 hq hf => omega
    | wait h h1 ht => omega
    | rep h h1 => omega
  · intro _ hk5 h1 ht
    cases h with
    | same h5 h7 => have := (h5 hk5).1; omega
    | yes h hh hk h1 hy' hn => omega
    | cnf h hc hn => omega
    | sub b f h h0 hd hl hf => omega
    | ref b q f h h0 hq hf => omega
    | wait h h1 ht => omega
    | rep h h1 => omega
  · intro _ h1
    have h1 : l.d.ph = 1 := h1
    rw [← hd] at h1
    refine .inr ⟨h1, by rw [hd], by rw [hd], ?_⟩
    cases h with
    | same h5 h7 => exact ⟨.inl rfl, by rw [if_neg (fun e => by have := (h5 e).1; omega)]⟩
    | yes h hh hk h1' hy hn => exact ⟨.inr ⟨⟨h, hh, hk, h1', hy⟩, rfl⟩, by rw [if_neg (by omega)]⟩
    | cnf h hc hn => exact ⟨.inl rfl, by rw [if_neg (by omega)]⟩
    | sub b f h h0 hd hl hf => exact ⟨.inl rfl, by rw [if_neg (by omega)]⟩
    | ref b q f h h0 hq hf => omega
    | wait h h1 ht => exact ⟨.inl rfl, by rw [if_pos h]⟩
    | rep h h1 => omega
  · have hp := hg.au ha
    have h0 : l.d.ph = 0 := h0
    rw [← hd] at h0
    omega
  · refine ⟨?_, by rw [hd], ?_⟩
    · cases h <;> exact ha
    · cases h with
      | cnf h hc hn => exact .inr ⟨hc, h, rfl⟩
      | _ => exact .inl rfl
theorem eff_off {g : GtP} {i : InP} {s : StP} {g1 g' : GtP} (h : Tr g i s g1) (hg : GtI g) {l : LdP} (ho : g'.off = true) (hout : g'.out = []) (hd : l.d = s ∨ l.d = g.st) : Eff g i (g', l) := by
  have hno : ∀ {p : Prop}, g'.off = false → p := fun h9 => by rw [ho] at h9; cases h9
  rcases hd with hd | hd
  · have he := eff_tr h hg (l := { l with dn := false }) hd rfl
    exact ⟨he.st, he.mono, fun h => hno h, .inl hout, he.p2, fun h => hno h, fun h => hno h, fun h => hno h, he.ep, he.au, fun _ h => hno h, he.is, he.vs⟩
  · refine ⟨hd ▸ hg.s, fun b c h => hd ▸ h, fun h => hno h, .inl hout, fun h2 => ⟨by rw [hd], by rw [hd], by rw [hd], .inl (by rw [← hd]; exact h2)⟩, fun h => hno h, fun h => hno h, fun h => hno h, by rw [hd], fun ha h0 => ?_, fun _ h => hno h, fun _ _ => by rw [hd], .inl (by rw [hd])⟩
    have hp := hg.au ha
    have h0 : l.d.ph = 0 := h0
    rw [hd] at h0
    omega
theorem eff {g : GtP} {l : LdP} {i : InP} (hg : GtI g) (hs : g.st = l.d) (h : l.dn = false) : Eff g i (ginP g l i).1 := by
  have hr := gin_cs (i := i) hg h
  generalize (ginP g l i).1 = r at *
  obtain ⟨g', l'⟩ := r
  rcases hr with ⟨h1, h2⟩ | ⟨s, g1, h1, h2⟩
  · simp only at h1 h2
    subst h1
    exact eff_qt h2 hg hs h
  · rcases h2 with ⟨h3, h4, h5, _⟩ | ⟨h3, h4, _, h5, _⟩
    · simp only at h3 h4 h5
      subst h3
      exact eff_tr h1 hg h4 h5
    · exact eff_off h1 hg h3 h4 (by rw [hs]; exact h5)

end Go.Proofs.Qxb6500908aGreat

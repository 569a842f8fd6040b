import Derived.Test.Qxb6500907aR19
namespace Go.Proofs.Qxb6500907a
open Go.Eng
set_option linter.unusedVariables false
set_option linter.unusedSimpArgs false

/-! ## whole texts -/
theorem adv_init (N : Nat) {z : ZS} (hok : z.err.isNone = true) : Sm (advZ N z) (if (hd (rtk z.rest)).isSome then some (rtk z.rest) else none) := by
  obtain ⟨h1, h2⟩ := lex_rtk z.rest
  unfold advZ
  rw [if_pos hok]
  cases ht : hd (rtk z.rest) with
  | none => rw [ht] at h1; rw [h1]; rfl
  | some t =>
    rw [ht] at h1
    rw [h1]
    show Zs _ _
    exact ⟨rfl, ht, by rw [h2 t h1]⟩
theorem top_ovf {ts : List Ro} (hw : WT ts) (h : Ovf ts) : topL (splA [] ts) = none := by
  obtain ⟨t, ws, L, e, ht, hm⟩ := h
  rw [e]
  unfold topL
  simp only
  rw [if_neg]
  rintro ⟨_, q⟩
  have q : sEq (bA t) sBatch = true := q
  rw [kw_tk (hw t hm).2 (s := sBatch) (by decide) q] at ht; cases ht
theorem top_hdr {ts : List Ro} (hb : Ro.bad ∉ ts) (hnl : hd ts ≠ some .nl) {p : Int × List Ch} (h : topL (splA [] ts) = some p) : ∃ t0 t1 r, ts = .w t0 :: .w t1 :: .nl :: r ∧ sEq (bA t0) sBatch = true ∧ (nmW (bA t1) 4294967295).isSome = true ∧ accL 0 (splA [] r) = some p.2 := by
  obtain ⟨ws, rest, e2, hr⟩ := span ts hb
  have hne : ws ≠ [] := fun q9 => by
    rw [q9] at e2
    rcases hr with rfl | ⟨r, rfl⟩
    · rw [e2] at h; cases h
    · rw [e2] at hnl; exact hnl rfl
  rw [e2, spl_line hne hr] at h
  unfold topL at h
  simp only at h
  split at h
  · rename_i hq
    match ws, hq, e2 with
    | [t0, t1], hq, e2 =>
      have q0 : sEq (bA t0) sBatch = true := hq.2
      have h : (match nmW (bA t1) 4294967295 with | none => none | some id => (accL 0 (aftR rest)).map fun cs => (id, cs)) = some p := h
      cases hn : nmW (bA t1) 4294967295 with
      | none => rw [hn] at h; cases h
      | some id =>
        rw [hn] at h
        obtain ⟨cs, hc, e⟩ := map_some h
        rcases hr with rfl | ⟨r, rfl⟩
        · cases hc
        · exact ⟨t0, t1, r, e2, q0, by rw [hn]; rfl, by rw [← e]; exact hc⟩
  · cases h
theorem top_val {t0 t1 : List Int} {r : List Ro} (h0 : sEq (bA t0) sBatch = true) (h1 : (nmW (bA t1) 4294967295).isSome = true) : topL (splA [] (.w t0 :: .w t1 :: .nl :: r)) = (accL 0 (splA [] r)).map fun cs => (nmG (bA t1) 4294967295, cs) := by
  have e : splA [] (.w t0 :: .w t1 :: .nl :: r) = [t0, t1] :: splA [] r := rfl
  rw [e]
  unfold topL
  simp only
  rw [if_pos ⟨rfl, h0⟩]
  obtain ⟨n, hn⟩ := Option.isSome_iff_exists.1 h1
  show (match nmW (bA t1) 4294967295 with | none => none | some id => _) = _
  unfold nmG
  rw [hn]; rfl
def RdE (src : List Int) : Prop := match parM src with
  | none => (prD src).err.isNone = false
  | some p => (prD src).err.isNone = true ∧ (prB src).1 = p.1 ∧ (prC src).1 = p.2
theorem rd_none {src : List Int} (h : (prD src).err.isNone = false) (hp : ∀ p, parM src ≠ some p) : RdE src := by
  unfold RdE
  cases hq : parM src with
  | none => exact h
  | some p => exact absurd hq (hp p)
theorem read_eq (src : List Int) (hB : BW src) : RdE src := by
  have hw : WT (rtk src) := rtk_wt src.length src (Nat.le_refl _) hB
  obtain ⟨hp1, hp2⟩ := parM_eq src
  -- what follows an error
  have mA : Mo (advZ src.length ⟨src, .eof, 0, none⟩) (prA src) := Mo.blF _ _ _
  have mB0 : Mo (prA src) (kwZ src.length (prA src) sBatch sBatch).2 := Mo.kw _ _ _ _
  have mB : Mo (kwZ src.length (prA src) sBatch sBatch).2 (prB src).2 := Mo.num _ _ _ _
  have mC0 : Mo (prB src).2 (eolZ src.length (prB src).2) := Mo.eol _ _
  have eD : prD src = finZ src.length (plF src.length (muZ (eolZ src.length (prB src).2) + 1) (eolZ src.length (prB src).2) []).2 := rfl
  have mC : (eolZ src.length (prB src).2).err.isNone = false → (prD src).err.isNone = false := fun h => by
    rw [eD]; exact plF_bad _ _ _ h
  have i1 := adv_init src.length (z := ⟨src, .eof, 0, none⟩) rfl
  by_cases hs : (hd (rtk src)).isSome = true
  case neg =>
    rw [if_neg hs] at i1
    refine rd_none (mC (mC0.bad (mB.bad (mB0.bad (mA.bad i1))))) fun p hp => ?_
    by_cases hb : Ro.bad ∈ rtk src
    · rw [hp1 hb] at hp; cases hp
    · rw [hp2 hb, top_ovf hw (hd_none hb hs)] at hp; cases hp
  rw [if_pos hs] at i1
  have i1 : Zs (advZ src.length ⟨src, .eof, 0, none⟩) (rtk src) := i1
  have i2 := bl_sm src.length i1
  cases hbl : blR (rtk src) with
  | none =>
    rw [hbl] at i2
    refine rd_none (mC (mC0.bad (mB.bad (mB0.bad i2)))) fun p hp => ?_
    by_cases hb : Ro.bad ∈ rtk src
    · rw [hp1 hb] at hp; cases hp
    · rw [hp2 hb, top_ovf hw (bl_none _ hb hbl)] at hp; cases hp
  | some T1 =>
    rw [hbl] at i2
    have i2 : Zs (prA src) T1 := i2
    obtain ⟨b1, b2, b3, b4, b5⟩ := bl_some _ _ hbl
    have hw1 : WT T1 := fun t ht => hw t (b4 _ ht)
    have hbad : Ro.bad ∈ rtk src → Ro.bad ∈ T1 := fun q => by
      rcases b5 _ q with z | z
      · cases z
      · exact z
    have hp3 : Ro.bad ∉ T1 → parM src = topL (splA [] T1) := fun q => by rw [hp2 (fun z => q (hbad z)), b1]
    have hp4 : ∀ p, parM src = some p → Ro.bad ∉ T1 ∧ topL (splA [] T1) = some p := fun p hp => by
      have : Ro.bad ∉ T1 := fun q => by rw [hp1 (b4 _ q)] at hp; cases hp
      exact ⟨this, by rw [← hp3 this]; exact hp⟩
    have i3 := kw_sm src.length i2 sBatch sBatch
    cases hkw : kwR T1 sBatch sBatch with
    | none =>
      rw [hkw] at i3
      refine rd_none (mC (mC0.bad (mB.bad i3))) fun p hp => ?_
      obtain ⟨nb, ht⟩ := hp4 p hp
      obtain ⟨t0, t1, r, rfl, q0, q1, _⟩ := top_hdr nb b3 ht
      have k0 := kw_tk hw1.head.2 (s := sBatch) (by decide) q0
      rw [kw_i k0 (.inl q0) (HS.nm hw1.tail.head.2 (by decide) (by decide) q1)] at hkw
      cases hkw
    | some pk =>
      obtain ⟨bk, T2⟩ := pk
      rw [hkw] at i3
      obtain ⟨_, i3⟩ := i3
      obtain ⟨t0, rfl, _, k0, _, s2⟩ := kw_o hkw
      have k0 : sEq (bA t0) sBatch = true := by rcases k0 with z | z <;> exact z
      have i4 := num_sm src.length i3 4294967295 3
      cases hnu : numR T2 4294967295 with
      | none =>
        have i4' : SmV (prB src).1 (prB src).2 none := by rw [← hnu]; exact i4
        refine rd_none (mC (mC0.bad i4')) fun p hp => ?_
        obtain ⟨nb, ht⟩ := hp4 p hp
        obtain ⟨t0', t1, r, e, q0, q1, _⟩ := top_hdr nb b3 ht
        injection e with _ e
        rw [e] at hnu hw1
        rw [num_ii hw1.tail.head.2 (by decide) (by decide) q1 (show HS (Ro.nl :: r) from rfl)] at hnu
        cases hnu
      | some pn =>
        obtain ⟨id, T3⟩ := pn
        have i4' : SmV (prB src).1 (prB src).2 (some (id, T3)) := by rw [← hnu]; exact i4
        obtain ⟨hid, i4'⟩ := i4'
        simp only at hid i4'
        obtain ⟨t1, e1, hid2, q1, s3⟩ := num_oo hw1.tail (by decide) (by decide) hnu
        have e1 : T2 = Ro.w t1 :: T3 := e1
        subst e1
        have i5 := eol_sm src.length i4'
        cases heo : eolR T3 with
        | none =>
          rw [heo] at i5
          refine rd_none (mC i5) fun p hp => ?_
          obtain ⟨nb, ht⟩ := hp4 p hp
          obtain ⟨t0', t1', r, e, _, _, q2⟩ := top_hdr nb b3 ht
          injection e with _ e
          injection e with _ e
          subst e
          have nb' : Ro.bad ∉ (Ro.nl :: r) := fun q => nb (List.mem_cons_of_mem _ (List.mem_cons_of_mem _ q))
          obtain ⟨t9, ws9, L9, e9, e10, e11⟩ := bl_none _ nb' heo
          have e9' : splA [] r = (t9 :: ws9) :: L9 := e9
          rw [e9', acc_ovf (fun x hx => spl_mem (.nl :: r) [] BW (fun t ht => (hw1.tail.tail t ht).2) (fun t ht => by cases ht) _ (by rw [e9]; exact List.mem_cons_self) x hx) e10] at q2
          cases q2
        | some T4 =>
          rw [heo] at i5
          have i5 : Zs (eolZ src.length (prB src).2) T4 := i5
          obtain ⟨r, rfl⟩ : ∃ r, T3 = .nl :: r := by
            match T3, heo with
            | .nl :: r, _ => exact ⟨r, rfl⟩
          have hbs : blR (.nl :: r) = some T4 := heo
          obtain ⟨d1, d2, d3, d4, d5⟩ := bl_some _ _ hbs
          have hm := pl_main src.length T4.length T4 (eolZ src.length (prB src).2) [] (muZ (eolZ src.length (prB src).2) + 1) (Nat.le_refl _) i5 (fun t ht => hw1.tail.tail t (d4 _ ht)) d3 (Nat.le_refl _) (by simp)
          by_cases hb : Ro.bad ∈ rtk src
          · have hb4 : Ro.bad ∈ T4 := by
              rcases List.mem_cons.1 (hbad hb) with q | q
              · cases q
              · rcases List.mem_cons.1 q with q | q
                · cases q
                · rcases d5 _ q with q | q
                  · cases q
                  · exact q
            refine rd_none (hm.1 hb4) fun p hp => ?_
            rw [hp1 hb] at hp; cases hp
          · have nb1 : Ro.bad ∉ (Ro.w t0 :: Ro.w t1 :: Ro.nl :: r) := fun q => hb (b4 _ q)
            have nb4 : Ro.bad ∉ T4 := fun q => nb1 (List.mem_cons_of_mem _ (List.mem_cons_of_mem _ (d4 _ q)))
            have hv : parM src = (accL 0 (splA [] r)).map fun cs => (nmG (bA t1) 4294967295, cs) := by rw [hp3 nb1]; exact top_val k0 q1
            have h2 := hm.2 nb4
            have d1' : splA [] T4 = splA [] r := d1
            rw [d1'] at h2
            unfold RdE
            rw [hv]
            have h2 : (match accL 0 (splA [] r) with | none => (finZ src.length (plF src.length (muZ (eolZ src.length (prB src).2) + 1) (eolZ src.length (prB src).2) []).2).err.isNone = false | some cs' => (plF src.length (muZ (eolZ src.length (prB src).2) + 1) (eolZ src.length (prB src).2) []).1 = [] ++ cs' ∧ (finZ src.length (plF src.length (muZ (eolZ src.length (prB src).2) + 1) (eolZ src.length (prB src).2) []).2).err.isNone = true) := h2
            cases hq : accL 0 (splA [] r) with
            | none => rw [hq] at h2; exact h2
            | some cs' =>
              rw [hq] at h2
              refine ⟨h2.2, by rw [hid, hid2], ?_⟩
              exact h2.1

end Go.Proofs.Qxb6500907a

import Derived.Test.Qxb6500907aR17
namespace Go.Proofs.Qxb6500907a
open Go.Eng
set_option linter.unusedVariables false
set_option linter.unusedSimpArgs false

/-! ## from words to tokens -/
theorem ch_fin {t0 : List Int} {r ts' : List Ro} {c : Ch} (k0 : tkW t0 = some (.word t0)) (hs : HS r) (h : chSwR (bA t0) r = some (c, ts')) (hck : ckF c = 0) : chR (.w t0 :: r) = some (c, ts') := by
  unfold chR
  rw [word_i k0 hs]
  simp only [Option.bind_some]
  rw [h]
  simp only [Option.bind_some]
  rw [if_pos hck]
theorem ch_i (ws : List (List Int)) {ts' : List Ro} {c : Ch} (hb : ∀ t ∈ ws, BW t) (h : lnM (ws.map bA) = some c) (hck : ckF c = 0) (hs : HS ts') : chR (ws.map Ro.w ++ ts') = some (c, ts') := by
  obtain ⟨_, _, _, _, _, _, _, ⟨hg1, hg2⟩, _, _⟩ := (ck_iff c).1 hck
  by_cases ho : ws.length ≠ 8 ∧ ws.length ≠ 7 ∧ ws.length ≠ 6 ∧ ws.length ≠ 10 ∧ ws.length ≠ 4
  · rw [lnM_o _ (by rw [List.length_map]; exact ho)] at h; cases h
  rcases (show ws.length = 8 ∨ ws.length = 7 ∨ ws.length = 6 ∨ ws.length = 10 ∨ ws.length = 4 by omega) with hl | hl | hl | hl | hl
  · match ws, hl, hb, h with
    | [t0, t1, t2, t3, t4, t5, t6, t7], _, hb, h =>
      have h : ln8 (bA t0) (bA t1) (bA t2) (bA t3) (bA t4) (bA t5) (bA t6) (bA t7) = some c := h
      have b0 := hb t0 (by simp); have b1 := hb t1 (by simp); have b2 := hb t2 (by simp); have b3 := hb t3 (by simp); have b4 := hb t4 (by simp); have b5 := hb t5 (by simp); have b6 := hb t6 (by simp); have b7 := hb t7 (by simp)
      unfold ln8 at h
      split at h
      · rename_i hq
        injection h with h; subst h
        simp only [Bool.and_eq_true] at hq
        obtain ⟨⟨⟨q0, q1⟩, q6⟩, ⟨q2, q3⟩, q7⟩ := hq
        have k7 := dv_tk b7 q7
        have k6 := kw_tk b6 (s := sVia) (by decide) q6
        have s6 : HS (.w t6 :: .w t7 :: ts') := HS.word k6
        obtain ⟨e3, s3⟩ := pref_i b3 b4 b5 q3 hg1 s6
        have k2 := dv_tk b2 q2
        have k1 := kw_tk b1 (s := sAdd) (by decide) q1
        have k0 := kw_tk b0 (s := sRoute) (by decide) q0
        refine ch_fin k0 (HS.word k1) ?_ hck
        unfold chSwR
        rw [if_pos q0]
        show (kwR (.w t1 :: .w t2 :: .w t3 :: .w t4 :: .w t5 :: .w t6 :: .w t7 :: ts') sAdd sDel).bind _ = _
        rw [kw_i k1 (.inl q1) (HS.word k2)]
        simp only [Option.bind_some]
        rw [if_pos q1]
        unfold chAddR
        rw [dev_i b2 q2 s3]
        simp only [Option.bind_some]
        rw [e3]
        simp only [Option.bind_some]
        rw [kw_i k6 (.inl q6) (HS.word k7)]
        simp only [Option.bind_some]
        rw [if_pos q6, dev_i b7 q7 hs]
        rfl
      · cases h
  · match ws, hl, hb, h with
    | [t0, t1, t2, t3, t4, t5, t6], _, hb, h =>
      have h : ln7 (bA t0) (bA t1) (bA t2) (bA t3) (bA t4) (bA t5) (bA t6) = some c := h
      have b0 := hb t0 (by simp); have b1 := hb t1 (by simp); have b2 := hb t2 (by simp); have b3 := hb t3 (by simp); have b4 := hb t4 (by simp); have b5 := hb t5 (by simp); have b6 := hb t6 (by simp)
      unfold ln7 at h
      split at h
      · rename_i hq
        injection h with h; subst h
        simp only [Bool.and_eq_true] at hq
        obtain ⟨⟨⟨q0, q1⟩, q6⟩, q2, q3⟩ := hq
        have k6 := kw_tk b6 (s := sLocal) (by decide) q6
        have s6 : HS (.w t6 :: ts') := HS.word k6
        obtain ⟨e3, s3⟩ := pref_i b3 b4 b5 q3 hg1 s6
        have k2 := dv_tk b2 q2
        have k1 := kw_tk b1 (s := sAdd) (by decide) q1
        have k0 := kw_tk b0 (s := sRoute) (by decide) q0
        refine ch_fin k0 (HS.word k1) ?_ hck
        unfold chSwR
        rw [if_pos q0]
        show (kwR (.w t1 :: .w t2 :: .w t3 :: .w t4 :: .w t5 :: .w t6 :: ts') sAdd sDel).bind _ = _
        rw [kw_i k1 (.inl q1) (HS.word k2)]
        simp only [Option.bind_some]
        rw [if_pos q1]
        unfold chAddR
        rw [dev_i b2 q2 s3]
        simp only [Option.bind_some]
        rw [e3]
        simp only [Option.bind_some]
        rw [kw_i k6 (.inr q6) hs]
        simp only [Option.bind_some]
        rw [if_neg (by rw [sEq_ne q6 (b := sVia) (by decide)]; simp)]
      · cases h
  · match ws, hl, hb, h with
    | [t0, t1, t2, t3, t4, t5], _, hb, h =>
      have h : ln6 (bA t0) (bA t1) (bA t2) (bA t3) (bA t4) (bA t5) = some c := h
      have b0 := hb t0 (by simp); have b1 := hb t1 (by simp); have b2 := hb t2 (by simp); have b3 := hb t3 (by simp); have b4 := hb t4 (by simp); have b5 := hb t5 (by simp)
      unfold ln6 at h
      split at h
      · rename_i hq
        injection h with h; subst h
        simp only [Bool.and_eq_true] at hq
        obtain ⟨⟨q0, q1⟩, q2, q3⟩ := hq
        obtain ⟨e3, s3⟩ := pref_i b3 b4 b5 q3 hg1 hs
        have k2 := dv_tk b2 q2
        have k1 := kw_tk b1 (s := sDel) (by decide) q1
        have k0 := kw_tk b0 (s := sRoute) (by decide) q0
        refine ch_fin k0 (HS.word k1) ?_ hck
        unfold chSwR
        rw [if_pos q0]
        show (kwR (.w t1 :: .w t2 :: .w t3 :: .w t4 :: .w t5 :: ts') sAdd sDel).bind _ = _
        rw [kw_i k1 (.inr q1) (HS.word k2)]
        simp only [Option.bind_some]
        rw [if_neg (by rw [sEq_ne q1 (b := sAdd) (by decide)]; simp)]
        unfold chDelR
        rw [dev_i b2 q2 s3]
        simp only [Option.bind_some]
        rw [e3]
        rfl
      · cases h
  · match ws, hl, hb, h with
    | [t0, t1, t2, t3, t4, t5, t6, t7, t8, t9], _, hb, h =>
      have h : ln10 (bA t0) (bA t1) (bA t2) (bA t3) (bA t4) (bA t5) (bA t6) (bA t7) (bA t8) (bA t9) = some c := h
      have b0 := hb t0 (by simp); have b1 := hb t1 (by simp); have b2 := hb t2 (by simp); have b3 := hb t3 (by simp); have b4 := hb t4 (by simp); have b5 := hb t5 (by simp); have b6 := hb t6 (by simp); have b7 := hb t7 (by simp); have b8 := hb t8 (by simp); have b9 := hb t9 (by simp)
      unfold ln10 at h
      split at h
      · rename_i hq
        injection h with h; subst h
        simp only [Bool.and_eq_true] at hq
        obtain ⟨⟨⟨q0, q1⟩, q8⟩, ⟨⟨⟨q2, q3⟩, q4⟩, q5⟩, q9⟩ := hq
        have q4' : sEq (bA t4) sPermit = true ∨ sEq (bA t4) sDeny = true := by unfold oo at q4; simpa using q4
        have k4 : tkW t4 = some (.word t4) := by
          rcases q4' with z | z
          · exact kw_tk b4 (s := sPermit) (by decide) z
          · exact kw_tk b4 (s := sDeny) (by decide) z
        have s9 : HS (.w t9 :: ts') := by
          rw [Bool.or_eq_true] at q9
          rcases q9 with z | z
          · exact HS.word (kw_tk b9 (s := sAny) (by decide) z)
          · exact HS.nm b9 (by decide) (by decide) z
        have k8 := kw_tk b8 (s := sClass) (by decide) q8
        have s8 : HS (.w t8 :: .w t9 :: ts') := HS.word k8
        obtain ⟨e5, s5⟩ := pref_i b5 b6 b7 q5 hg2 s8
        have k2 := dv_tk b2 q2
        have k1 := kw_tk b1 (s := sInsert) (by decide) q1
        have k0 := kw_tk b0 (s := sAcl) (by decide) q0
        refine ch_fin k0 (HS.word k1) ?_ hck
        unfold chSwR
        rw [if_neg (by rw [sEq_ne q0 (b := sRoute) (by decide)]; simp), if_pos q0]
        show (kwR (.w t1 :: .w t2 :: .w t3 :: .w t4 :: .w t5 :: .w t6 :: .w t7 :: .w t8 :: .w t9 :: ts') sInsert sRemove).bind _ = _
        rw [kw_i k1 (.inl q1) (HS.word k2)]
        simp only [Option.bind_some]
        unfold chAclR
        rw [dev_i b2 q2 (HS.nm b3 (by decide) (by decide) q3)]
        simp only [Option.bind_some]
        rw [num_ii b3 (by decide) (by decide) q3 (HS.word k4)]
        simp only [Option.bind_some]
        rw [if_pos q1, kw_i k4 q4' s5]
        simp only [Option.bind_some]
        unfold chIns2R
        rw [e5]
        simp only [Option.bind_some]
        rw [kw_i k8 (.inl q8) s9]
        simp only [Option.bind_some]
        by_cases qa : sEq (bA t9) sAny = true
        · have k9 := kw_tk b9 (s := sAny) (by decide) qa
          rw [if_neg (by show ¬ isNu (tkW t9) = true; rw [k9]; exact Bool.noConfusion), kw_i k9 (.inl qa) hs]
          simp only [Option.bind_some]
          rw [if_pos qa]
        · have k9 : (nmW (bA t9) 15).isSome = true := by rw [Bool.or_eq_true] at q9; rcases q9 with z | z; exact absurd z qa; exact z
          rw [if_pos (by show isNu (tkW t9) = true; rw [(nm_tk b9 (by decide) (by decide) k9).1]; rfl), num_ii b9 (by decide) (by decide) k9 hs]
          simp only [Option.bind_some]
          rw [if_neg qa]
      · cases h
  · match ws, hl, hb, h with
    | [t0, t1, t2, t3], _, hb, h =>
      have h : ln4 (bA t0) (bA t1) (bA t2) (bA t3) = some c := h
      have b0 := hb t0 (by simp); have b1 := hb t1 (by simp); have b2 := hb t2 (by simp); have b3 := hb t3 (by simp)
      unfold ln4 at h
      split at h
      · rename_i hq
        rw [Bool.and_eq_true] at hq
        obtain ⟨q0, q1⟩ := hq
        split at h
        · rename_i hq2
          rw [Bool.and_eq_true] at hq2
          obtain ⟨q2, q3⟩ := hq2
          injection h with h; subst h
          have k2 := dv_tk b2 q2
          have k1 := kw_tk b1 (s := sRemove) (by decide) q1
          have k0 := kw_tk b0 (s := sAcl) (by decide) q0
          refine ch_fin k0 (HS.word k1) ?_ hck
          unfold chSwR
          rw [if_neg (by rw [sEq_ne q0 (b := sRoute) (by decide)]; simp), if_pos q0]
          show (kwR (.w t1 :: .w t2 :: .w t3 :: ts') sInsert sRemove).bind _ = _
          rw [kw_i k1 (.inr q1) (HS.word k2)]
          simp only [Option.bind_some]
          unfold chAclR
          rw [dev_i b2 q2 (HS.nm b3 (by decide) (by decide) q3)]
          simp only [Option.bind_some]
          rw [num_ii b3 (by decide) (by decide) q3 hs]
          simp only [Option.bind_some]
          rw [if_neg (by rw [sEq_ne q1 (b := sInsert) (by decide)]; simp)]
        · cases h
      · split at h
        · rename_i hq
          split at h
          · rename_i hq2
            simp only [Bool.and_eq_true] at hq2
            obtain ⟨⟨q1, q2⟩, q3⟩ := hq2
            have q1' : sEq (bA t1) sUp = true ∨ sEq (bA t1) sDown = true := by unfold oo at q1; simpa using q1
            have k1 : tkW t1 = some (.word t1) := by
              rcases q1' with z | z
              · exact kw_tk b1 (s := sUp) (by decide) z
              · exact kw_tk b1 (s := sDown) (by decide) z
            have k2 := dv_tk b2 q2
            have k3 := dv_tk b3 q3
            have key : ∀ f : Bool → List Ro → Option (Ch × List Ro), (kwR (.w t1 :: .w t2 :: .w t3 :: ts') sUp sDown).bind (fun k => f k.1 k.2) = f (sEq (bA t1) sUp) (.w t2 :: .w t3 :: ts') := fun f => by rw [kw_i k1 q1' (HS.word k2)]; rfl
            split at h
            · rename_i q0
              have k0 := kw_tk b0 (s := sLink) (by decide) q0
              refine ch_fin k0 (HS.word k1) ?_ hck
              unfold chSwR
              rw [if_neg (by rw [sEq_ne q0 (b := sRoute) (by decide)]; simp), if_neg (by rw [sEq_ne q0 (b := sAcl) (by decide)]; simp), if_pos q0]
              refine (key chLinkR).trans ?_
              unfold chLinkR
              rw [dev_i b2 q2 (HS.word k3)]
              simp only [Option.bind_some]
              rw [dev_i b3 q3 hs]
              simp only [Option.bind_some]
              split at h
              · rename_i hlt; rw [if_pos hlt]; injection h with h; rw [h]
              · rename_i hlt; rw [if_neg hlt]; injection h with h; rw [h]
            · rename_i q0
              have q0' : sEq (bA t0) sIface = true := by rw [Bool.or_eq_true] at hq; rcases hq with z | z; exact absurd z q0; exact z
              have k0 := kw_tk b0 (s := sIface) (by decide) q0'
              refine ch_fin k0 (HS.word k1) ?_ hck
              unfold chSwR
              rw [if_neg (by rw [sEq_ne q0' (b := sRoute) (by decide)]; simp), if_neg (by rw [sEq_ne q0' (b := sAcl) (by decide)]; simp), if_neg q0, if_pos q0']
              refine (key chIfaceR).trans ?_
              unfold chIfaceR
              rw [dev_i b2 q2 (HS.word k3)]
              simp only [Option.bind_some]
              rw [dev_i b3 q3 hs]
              injection h with h; rw [← h]; rfl
          · cases h
        · cases h

end Go.Proofs.Qxb6500907a

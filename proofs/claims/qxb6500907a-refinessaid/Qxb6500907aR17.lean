import Derived.Test.Qxb6500907aR16
import Derived.Test.Qxb6500907aR10
namespace Go.Proofs.Qxb6500907a
open Go.Eng
set_option linter.unusedVariables false
set_option linter.unusedSimpArgs false

/-! ## a change on tokens and on words -/
def HS (ts : List Ro) : Prop := (hd ts).isSome = true
theorem hd_w {ts : List Ro} {t : List Int} (h : hd ts = some (.word t)) : ∃ r, ts = .w t :: r ∧ tkW t = some (.word t) := by
  match ts, h with
  | .w x :: r, h => have h : tkW x = some (.word t) := h; have e := tk_word h; subst e; exact ⟨r, rfl, h⟩
theorem hd_n {ts : List Ro} {n : Int} (h : hd ts = some (.num n)) : ∃ t r, ts = .w t :: r ∧ tkW t = some (.num n) := by
  match ts, h with
  | .w x :: r, h => exact ⟨x, r, rfl, h⟩
theorem hd_s {ts : List Ro} (h : isSl (hd ts) = true) : ∃ t r, ts = .w t :: r ∧ isSl (tkW t) = true := by
  match ts, h with
  | .w x :: r, h => exact ⟨x, r, rfl, h⟩
theorem adv_i {x : Ro} {ts' : List Ro} (h : HS ts') : advR (x :: ts') = some ts' := by
  unfold advR; rw [List.tail_cons, if_pos (show (hd ts').isSome = true from h)]
theorem adv_o {x : Ro} {ts ts' : List Ro} (h : advR (x :: ts) = some ts') : ts' = ts ∧ HS ts := by
  unfold advR at h
  rw [List.tail_cons] at h
  split at h
  · injection h with h; exact ⟨h.symm, by assumption⟩
  · cases h
theorem word_i {t : List Int} {ts' : List Ro} (ht : tkW t = some (.word t)) (h : HS ts') : wordR (.w t :: ts') = some (bA t, ts') := by
  unfold wordR
  rw [show hd (Ro.w t :: ts') = some (.word t) from ht]
  simp only
  rw [adv_i h]; rfl
theorem word_o {ts ts' : List Ro} {x : ByteArray} (h : wordR ts = some (x, ts')) : ∃ t, ts = .w t :: ts' ∧ x = bA t ∧ tkW t = some (.word t) ∧ HS ts' := by
  unfold wordR at h
  cases hq : hd ts with
  | none => rw [hq] at h; cases h
  | some k =>
    rw [hq] at h
    cases k with
    | word t =>
      obtain ⟨r, rfl, e⟩ := hd_w hq
      simp only at h
      obtain ⟨y, hy, e2⟩ := map_some h
      obtain ⟨rfl, hs⟩ := adv_o hy
      injection e2 with e3 e4
      subst e4
      exact ⟨t, rfl, e3.symm, e, hs⟩
    | eof => cases h
    | nl => cases h
    | num n => cases h
    | slash => cases h
theorem num_i {t : List Int} {ts' : List Ro} {mx n : Int} (ht : tkW t = some (.num n)) (hn : n ≤ mx) (h : HS ts') : numR (.w t :: ts') mx = some (n, ts') := by
  unfold numR
  rw [show hd (Ro.w t :: ts') = some (.num n) from ht]
  simp only
  rw [if_neg (by omega), adv_i h]; rfl
theorem num_o {ts ts' : List Ro} {mx n : Int} (h : numR ts mx = some (n, ts')) : ∃ t, ts = .w t :: ts' ∧ tkW t = some (.num n) ∧ ¬ n > mx ∧ HS ts' := by
  unfold numR at h
  cases hq : hd ts with
  | none => rw [hq] at h; cases h
  | some k =>
    rw [hq] at h
    cases k with
    | num m =>
      obtain ⟨t, r, rfl, e⟩ := hd_n hq
      simp only at h
      split at h
      · cases h
      · rename_i hm
        obtain ⟨y, hy, e2⟩ := map_some h
        obtain ⟨rfl, hs⟩ := adv_o hy
        injection e2 with e3 e4
        subst e4; subst e3
        exact ⟨t, rfl, e, hm, hs⟩
    | eof => cases h
    | nl => cases h
    | word n => cases h
    | slash => cases h
theorem bind_o {α β : Type} {o : Option α} {f : α → Option β} {b : β} (h : o.bind f = some b) : ∃ a, o = some a ∧ f a = some b := by
  cases o with
  | none => cases h
  | some a => exact ⟨a, rfl, h⟩
theorem kw_i {t : List Int} {ts' : List Ro} {s1 s2 : ByteArray} (ht : tkW t = some (.word t)) (hk : sEq (bA t) s1 = true ∨ sEq (bA t) s2 = true) (h : HS ts') : kwR (.w t :: ts') s1 s2 = some (sEq (bA t) s1, ts') := by
  unfold kwR
  rw [word_i ht h]
  show (if _ then _ else _) = _
  rw [if_pos (by rcases hk with hk | hk <;> rw [hk] <;> simp)]
theorem kw_o {ts ts' : List Ro} {s1 s2 : ByteArray} {b : Bool} (h : kwR ts s1 s2 = some (b, ts')) : ∃ t, ts = .w t :: ts' ∧ b = sEq (bA t) s1 ∧ (sEq (bA t) s1 = true ∨ sEq (bA t) s2 = true) ∧ tkW t = some (.word t) ∧ HS ts' := by
  obtain ⟨⟨x, r⟩, h1, h2⟩ := bind_o h
  obtain ⟨t, rfl, rfl, ht, hs⟩ := word_o h1
  simp only at h2
  split at h2
  · rename_i hk
    injection h2 with h2; injection h2 with e1 e2; subst e2
    exact ⟨t, rfl, e1.symm, by simpa using hk, ht, hs⟩
  · cases h2
theorem dev_i {t : List Int} {ts' : List Ro} (hb : BW t) (hd : (dvM (bA t)).isSome = true) (h : HS ts') : devR (.w t :: ts') = some (dvG (bA t), ts') := by
  unfold devR
  rw [word_i (dv_tk hb hd) h]
  obtain ⟨e1, e2⟩ := dev_eq (bA t)
  show (if _ then _ else _) = _
  rw [if_neg (e1.2 hd)]
  simp only
  rw [e2 hd]
theorem dev_o {ts ts' : List Ro} {d : Int} (h : devR ts = some (d, ts')) : ∃ t, ts = .w t :: ts' ∧ d = dvG (bA t) ∧ (dvM (bA t)).isSome = true ∧ HS ts' := by
  obtain ⟨⟨x, r⟩, h1, h2⟩ := bind_o h
  obtain ⟨t, rfl, rfl, ht, hs⟩ := word_o h1
  obtain ⟨e1, e2⟩ := dev_eq (bA t)
  simp only at h2
  split at h2
  · cases h2
  · rename_i hk
    injection h2 with h2; injection h2 with e3 e4; subst e4
    exact ⟨t, rfl, by rw [← e3, e2 (e1.1 hk)], e1.1 hk, hs⟩
theorem WT.tail {x : Ro} {ts : List Ro} (h : WT (x :: ts)) : WT ts := fun t ht => h t (List.mem_cons_of_mem _ ht)
theorem WT.head {t : List Int} {ts : List Ro} (h : WT (.w t :: ts)) : Wf t ∧ BW t := h t List.mem_cons_self
theorem HS.word {t : List Int} {ts : List Ro} (h : tkW t = some (.word t)) : HS (.w t :: ts) := by show (tkW t).isSome = true; rw [h]; rfl
theorem HS.nm {t : List Int} {ts : List Ro} {mx : Int} (hb : BW t) (h0 : 0 ≤ mx) (h1 : mx ≤ 4294967295) (h : (nmW (bA t) mx).isSome = true) : HS (.w t :: ts) := by show (tkW t).isSome = true; rw [(nm_tk hb h0 h1 h).1]; rfl
theorem num_ii {t : List Int} {ts' : List Ro} {mx : Int} (hb : BW t) (h0 : 0 ≤ mx) (h1 : mx ≤ 4294967295) (hn : (nmW (bA t) mx).isSome = true) (h : HS ts') : numR (.w t :: ts') mx = some (nmG (bA t) mx, ts') := num_i (nm_tk hb h0 h1 hn).1 (nm_tk hb h0 h1 hn).2 h
theorem num_oo {ts ts' : List Ro} {mx n : Int} (hw : WT ts) (h0 : 0 ≤ mx) (h1 : mx ≤ 4294967295) (h : numR ts mx = some (n, ts')) : ∃ t, ts = .w t :: ts' ∧ n = nmG (bA t) mx ∧ (nmW (bA t) mx).isSome = true ∧ HS ts' := by
  obtain ⟨t, rfl, e, hm, hs⟩ := num_o h
  have := tk_nm hw.head.1 hw.head.2 h0 h1 e hm
  exact ⟨t, rfl, by unfold nmG; rw [this]; rfl, by rw [this]; rfl, hs⟩
theorem pref_i {t1 t2 t3 : List Int} {ts' : List Ro} (b1 : BW t1) (b2 : BW t2) (b3 : BW t3) (hp : pfM (bA t1) (bA t2) (bA t3) = true) (hg : gpF (nmG (bA t1) 255) (nmG (bA t3) 8) = true) (h : HS ts') : prefR (.w t1 :: .w t2 :: .w t3 :: ts') = some ((nmG (bA t1) 255, nmG (bA t3) 8), ts') ∧ HS (.w t1 :: .w t2 :: .w t3 :: ts') := by
  unfold pfM at hp
  simp only [Bool.and_eq_true] at hp
  obtain ⟨⟨h1, h3⟩, h2⟩ := hp
  have e2 := (sl_iff b2).1 h2
  subst e2
  have s3 : HS (.w t3 :: ts') := HS.nm b3 (by decide) (by decide) h3
  have s2 : HS (.w [47] :: .w t3 :: ts') := rfl
  refine ⟨?_, HS.nm b1 (by decide) (by decide) h1⟩
  unfold prefR
  rw [num_ii b1 (by decide) (by decide) h1 s2]
  simp only [Option.bind_some]
  rw [if_pos (show isSl (hd (Ro.w [47] :: Ro.w t3 :: ts')) = true from rfl), adv_i s3]
  simp only [Option.bind_some]
  rw [num_ii b3 (by decide) (by decide) h3 h]
  simp only [Option.bind_some]
  rw [if_pos hg]
theorem pref_o {ts ts' : List Ro} {p : Int × Int} (hw : WT ts) (h : prefR ts = some (p, ts')) : ∃ t1 t2 t3, ts = .w t1 :: .w t2 :: .w t3 :: ts' ∧ pfM (bA t1) (bA t2) (bA t3) = true ∧ p = (nmG (bA t1) 255, nmG (bA t3) 8) ∧ HS ts' := by
  obtain ⟨⟨a, r⟩, h1, h2⟩ := bind_o h
  obtain ⟨t1, rfl, rfl, g1, s1⟩ := num_oo hw (by decide) (by decide) h1
  simp only at h2
  split at h2
  · rename_i hsl
    obtain ⟨t2, r2, rfl, g2⟩ := hd_s hsl
    obtain ⟨r3, h3, h4⟩ := bind_o h2
    obtain ⟨rfl, s3⟩ := adv_o h3
    obtain ⟨⟨b, r4⟩, h5, h6⟩ := bind_o h4
    obtain ⟨t3, rfl, rfl, g3, s4⟩ := num_oo hw.tail.tail (by decide) (by decide) h5
    simp only at h6
    split at h6
    · injection h6 with h6; injection h6 with e1 e2; subst e2
      refine ⟨t1, t2, t3, rfl, ?_, e1.symm, s4⟩
      unfold pfM
      rw [g1, g3, (sl_iff hw.tail.head.2).2 (tk_slash hw.tail.head.1 g2)]; rfl
    · cases h6
  · cases h2
theorem sEq_ne {w a b : ByteArray} (h : sEq w a = true) (hn : a.data ≠ b.data) : sEq w b = false := by
  have e : w = a := by unfold sEq at h; exact str_eq (eq_of_beq h)
  rw [e]; exact sEq_sz hn
/-- from tokens to words -/
theorem ch_o {ts ts' : List Ro} {c : Ch} (hw : WT ts) (h : chR ts = some (c, ts')) : ∃ ws : List (List Int), ts = ws.map Ro.w ++ ts' ∧ lnM (ws.map bA) = some c ∧ ckF c = 0 ∧ HS ts' ∧ ∃ t0 r0, ws = t0 :: r0 := by
  obtain ⟨⟨x0, r0⟩, h1, h2⟩ := bind_o h
  obtain ⟨t0, rfl, rfl, k0, s0⟩ := word_o h1
  obtain ⟨⟨c1, r1⟩, h3, h4⟩ := bind_o h2
  simp only at h3 h4
  split at h4
  case isFalse => cases h4
  rename_i hck
  injection h4 with h4; injection h4 with e1 e2; subst e1; subst e2
  have w1 := hw.tail
  unfold chSwR at h3
  split at h3
  · rename_i q0
    obtain ⟨⟨b1, r2⟩, h5, h6⟩ := bind_o h3
    obtain ⟨t1, rfl, rfl, k1, _, s1⟩ := kw_o h5
    have w2 := w1.tail
    simp only at h6
    split at h6
    · rename_i q1
      obtain ⟨⟨d, r3⟩, h7, h8⟩ := bind_o h6
      obtain ⟨t2, rfl, rfl, k2, s2⟩ := dev_o h7
      obtain ⟨⟨p, r4⟩, h9, h10⟩ := bind_o h8
      obtain ⟨t3, t4, t5, rfl, k3, rfl, s3⟩ := pref_o w2.tail h9
      obtain ⟨⟨b6, r5⟩, h11, h12⟩ := bind_o h10
      obtain ⟨t6, rfl, rfl, k6, _, s6⟩ := kw_o h11
      simp only at h12
      split at h12
      · rename_i q6
        obtain ⟨⟨v, r6⟩, h13, h14⟩ := bind_o h12
        obtain ⟨t7, rfl, rfl, k7, s7⟩ := dev_o h13
        injection h14 with h14; injection h14 with e1 e2; subst e2
        refine ⟨[t0, t1, t2, t3, t4, t5, t6, t7], rfl, ?_, hck, s7, t0, _, rfl⟩
        show ln8 _ _ _ _ _ _ _ _ = _
        unfold ln8
        rw [q0, q1, q6, k2, k3, k7]
        exact congrArg some e1
      · rename_i q6
        have q6' : sEq (bA t6) sLocal = true := by rcases k6 with z | z; exact absurd z q6; exact z
        injection h12 with h12; injection h12 with e1 e2; subst e2
        refine ⟨[t0, t1, t2, t3, t4, t5, t6], rfl, ?_, hck, s6, t0, _, rfl⟩
        show ln7 _ _ _ _ _ _ _ = _
        unfold ln7
        rw [q0, q1, q6', k2, k3]
        exact congrArg some e1
    · rename_i q1
      have q1' : sEq (bA t1) sDel = true := by rcases k1 with z | z; exact absurd z q1; exact z
      obtain ⟨⟨d, r3⟩, h7, h8⟩ := bind_o h6
      obtain ⟨t2, rfl, rfl, k2, s2⟩ := dev_o h7
      obtain ⟨⟨p, r4⟩, h9, h10⟩ := bind_o h8
      obtain ⟨t3, t4, t5, rfl, k3, rfl, s3⟩ := pref_o w2.tail h9
      injection h10 with h10; injection h10 with e1 e2; subst e2
      refine ⟨[t0, t1, t2, t3, t4, t5], rfl, ?_, hck, s3, t0, _, rfl⟩
      show ln6 _ _ _ _ _ _ = _
      unfold ln6
      rw [q0, q1', k2, k3]
      exact congrArg some e1
  · split at h3
    · rename_i _ q0
      obtain ⟨⟨b1, r2⟩, h5, h6⟩ := bind_o h3
      obtain ⟨t1, rfl, rfl, k1, _, s1⟩ := kw_o h5
      have w2 := w1.tail
      obtain ⟨⟨d, r3⟩, h7, h8⟩ := bind_o h6
      obtain ⟨t2, rfl, rfl, k2, s2⟩ := dev_o h7
      obtain ⟨⟨i, r4⟩, h9, h10⟩ := bind_o h8
      obtain ⟨t3, rfl, rfl, k3, s3⟩ := num_oo w2.tail (by decide) (by decide) h9
      simp only at h10
      split at h10
      · rename_i q1
        obtain ⟨⟨b4, r5⟩, h11, h12⟩ := bind_o h10
        obtain ⟨t4, rfl, rfl, k4, _, s4⟩ := kw_o h11
        have w5 := w2.tail.tail.tail
        obtain ⟨⟨p, r6⟩, h13, h14⟩ := bind_o h12
        obtain ⟨t5, t6, t7, rfl, k5, rfl, s5⟩ := pref_o w5 h13
        obtain ⟨⟨b8, r8⟩, h15, h16⟩ := bind_o h14
        obtain ⟨t8, rfl, rfl, k8, _, s8⟩ := kw_o h15
        have k8' : sEq (bA t8) sClass = true := by rcases k8 with z | z <;> exact z
        have w9 : WT r8 := w5.tail.tail.tail.tail
        have ho4 : oo (bA t4) sPermit sDeny = true := by unfold oo; rcases k4 with z | z <;> rw [z] <;> simp
        simp only at h16
        split at h16
        · obtain ⟨⟨n9, r9⟩, h17, h18⟩ := bind_o h16
          obtain ⟨t9, rfl, rfl, k9, s9⟩ := num_oo w9 (by decide) (by decide) h17
          injection h18 with h18; injection h18 with e1 e2; subst e2
          have na : sEq (bA t9) sAny = false := by
            cases hq : sEq (bA t9) sAny
            · rfl
            · have z1 := kw_tk w9.head.2 (s := sAny) (by decide) hq
              have z2 := (nm_tk w9.head.2 (mx := 15) (by decide) (by decide) k9).1
              rw [z1] at z2; cases z2
          refine ⟨[t0, t1, t2, t3, t4, t5, t6, t7, t8, t9], rfl, ?_, hck, s9, t0, _, rfl⟩
          show ln10 _ _ _ _ _ _ _ _ _ _ = _
          unfold ln10
          rw [q0, q1, k8', k2, k3, ho4, k5, k9, na]
          exact congrArg some e1
        · obtain ⟨⟨n9, r9⟩, h17, h18⟩ := bind_o h16
          obtain ⟨t9, rfl, rfl, k9, _, s9⟩ := kw_o h17
          have k9' : sEq (bA t9) sAny = true := by rcases k9 with z | z <;> exact z
          injection h18 with h18; injection h18 with e1 e2; subst e2
          refine ⟨[t0, t1, t2, t3, t4, t5, t6, t7, t8, t9], rfl, ?_, hck, s9, t0, _, rfl⟩
          show ln10 _ _ _ _ _ _ _ _ _ _ = _
          unfold ln10
          rw [q0, q1, k8', k2, k3, ho4, k5, k9']
          exact congrArg some e1
      · rename_i q1
        have q1' : sEq (bA t1) sRemove = true := by rcases k1 with z | z; exact absurd z q1; exact z
        injection h10 with h10; injection h10 with e1 e2; subst e2
        refine ⟨[t0, t1, t2, t3], rfl, ?_, hck, s3, t0, _, rfl⟩
        show ln4 _ _ _ _ = _
        unfold ln4
        rw [q0, q1', k2, k3]
        exact congrArg some e1
    · split at h3
      · rename_i _ q1 q0
        obtain ⟨⟨b1, r2⟩, h5, h6⟩ := bind_o h3
        obtain ⟨t1, rfl, rfl, k1, _, s1⟩ := kw_o h5
        obtain ⟨⟨d, r3⟩, h7, h8⟩ := bind_o h6
        obtain ⟨t2, rfl, rfl, k2, s2⟩ := dev_o h7
        obtain ⟨⟨e, r4⟩, h9, h10⟩ := bind_o h8
        obtain ⟨t3, rfl, rfl, k3, s3⟩ := dev_o h9
        have ho : oo (bA t1) sUp sDown = true := by unfold oo; rcases k1 with z | z <;> rw [z] <;> simp
        simp only at h10
        split at h10
        · rename_i hlt
          injection h10 with h10; injection h10 with e1 e2; subst e2
          refine ⟨[t0, t1, t2, t3], rfl, ?_, hck, s3, t0, _, rfl⟩
          show ln4 _ _ _ _ = _
          unfold ln4
          rw [sEq_ne q0 (by decide), q0, ho, k2, k3, if_pos hlt]
          exact congrArg some e1
        · rename_i hlt
          injection h10 with h10; injection h10 with e1 e2; subst e2
          refine ⟨[t0, t1, t2, t3], rfl, ?_, hck, s3, t0, _, rfl⟩
          show ln4 _ _ _ _ = _
          unfold ln4
          rw [sEq_ne q0 (by decide), q0, ho, k2, k3, if_neg hlt]
          exact congrArg some e1
      · split at h3
        · rename_i _ q1 q2 q0
          obtain ⟨⟨b1, r2⟩, h5, h6⟩ := bind_o h3
          obtain ⟨t1, rfl, rfl, k1, _, s1⟩ := kw_o h5
          obtain ⟨⟨d, r3⟩, h7, h8⟩ := bind_o h6
          obtain ⟨t2, rfl, rfl, k2, s2⟩ := dev_o h7
          obtain ⟨⟨e, r4⟩, h9, h10⟩ := bind_o h8
          obtain ⟨t3, rfl, rfl, k3, s3⟩ := dev_o h9
          have ho : oo (bA t1) sUp sDown = true := by unfold oo; rcases k1 with z | z <;> rw [z] <;> simp
          injection h10 with h10; injection h10 with e1 e2; subst e2
          refine ⟨[t0, t1, t2, t3], rfl, ?_, hck, s3, t0, _, rfl⟩
          show ln4 _ _ _ _ = _
          unfold ln4
          rw [sEq_ne q0 (b := sAcl) (by decide), sEq_ne q0 (b := sLink) (by decide), q0, ho, k2, k3]
          exact congrArg some e1
        · cases h3

end Go.Proofs.Qxb6500907a

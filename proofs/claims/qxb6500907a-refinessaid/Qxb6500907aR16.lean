import Derived.Test.Qxb6500907aR15
namespace Go.Proofs.Qxb6500907a
open Go.Eng
set_option linter.unusedVariables false
set_option linter.unusedSimpArgs false

/-! ## words of a text -/
def BW (t : List Int) : Prop := ∀ x, x ∈ t → 0 ≤ x ∧ x ≤ 255
def Wf (t : List Int) : Prop := t = [47] ∨ (∃ c r, t = c :: r ∧ letB c = true) ∨ (t ≠ [] ∧ ∀ d ∈ t, digB d = true)
def WT (ts : List Ro) : Prop := ∀ t, Ro.w t ∈ ts → Wf t ∧ BW t
theorem sk_mem {l : List Int} {c : Int} (h : c ∈ skL l) : c ∈ l := by
  obtain ⟨k, _, e⟩ := skL_suf l.length l (Nat.le_refl _)
  rw [e] at h; exact List.mem_of_mem_drop h
theorem rtk_wt : ∀ (n : Nat) (l : List Int), l.length ≤ n → BW l → WT (rtk l)
  | n, l, h, hb => by
    rw [rtk_eq]
    have hl := sk_le l
    have hm : ∀ c, c ∈ skL l → 0 ≤ c ∧ c ≤ 255 := fun c hc => hb c (sk_mem hc)
    cases hs : skL l with
    | nil => exact fun t ht => by cases ht
    | cons c r =>
      rw [hs] at hl hm
      rw [List.length_cons] at hl
      have hc := hm c List.mem_cons_self
      have hr : BW r := fun x hx => hm x (List.mem_cons_of_mem _ hx)
      match n with
      | 0 => omega
      | n + 1 =>
        have ih : ∀ x : List Int, x.length ≤ r.length → BW x → WT (rtk x) := fun x hx hxb => rtk_wt n x (by omega) hxb
        have hdw : ∀ p : Int → Bool, BW (r.dropWhile p) := fun p x hx => hr x ((List.dropWhile_sublist p).subset hx)
        have htw : ∀ p : Int → Bool, BW (c :: r.takeWhile p) := fun p x hx => by
          rcases List.mem_cons.1 hx with rfl | hx
          · exact hc
          · exact hr x ((List.takeWhile_sublist p).subset hx)
        simp only
        split
        · intro t ht
          rcases List.mem_cons.1 ht with q | q
          · cases q
          · exact ih r (Nat.le_refl _) hr t q
        · split
          · rename_i e
            intro t ht
            rcases List.mem_cons.1 ht with q | q
            · injection q with q; subst q; exact ⟨.inl (by rw [e]), fun x hx => by rw [List.mem_singleton.1 hx]; exact hc⟩
            · exact ih r (Nat.le_refl _) hr t q
          · split
            · rename_i e
              intro t ht
              rcases List.mem_cons.1 ht with q | q
              · injection q with q; subst q; exact ⟨.inr (.inl ⟨c, _, rfl, e⟩), htw alnB⟩
              · exact ih _ (dropW_le _ _) (hdw alnB) t q
            · split
              · rename_i e
                intro t ht
                rcases List.mem_cons.1 ht with q | q
                · injection q with q; subst q
                  refine ⟨.inr (.inr ⟨by simp, fun d hd => ?_⟩), htw digB⟩
                  rcases List.mem_cons.1 hd with rfl | hd
                  · exact e
                  · exact take_dig d hd
                · exact ih _ (dropW_le _ _) (hdw digB) t q
              · intro t ht
                rcases List.mem_cons.1 ht with q | q
                · cases q
                · cases q
/-! numbers -/
theorem decF_ge : ∀ (ds : List Int) (v n : Int), 0 ≤ v → (∀ d ∈ ds, digB d = true) → decF v ds = some n → v ≤ n
  | [], v, n, _, _, h => by injection h with h; omega
  | d :: ds, v, n, h0, hd, h => by
    have := digB_iff.1 (hd d List.mem_cons_self)
    unfold decF at h
    split at h
    · cases h
    · have := decF_ge ds _ n (by omega) (fun x hx => hd x (List.mem_cons_of_mem _ hx)) h
      omega
theorem nm_dig : ∀ (ds : List Int) (mx v n : Int), nmF mx v ds = some n → ∀ d ∈ ds, digB d = true
  | [], mx, v, n, _ => fun d hd => by cases hd
  | d :: ds, mx, v, n, h => by
    unfold nmF at h
    split at h
    · rename_i hd
      split at h
      · cases h
      · intro x hx
        rcases List.mem_cons.1 hx with rfl | hx
        · exact hd
        · exact nm_dig ds mx _ n h x hx
    · cases h
theorem nm_dec : ∀ (ds : List Int) (mx v : Int), 0 ≤ v → v ≤ mx → mx ≤ 4294967295 → (∀ d ∈ ds, digB d = true) → nmF mx v ds = match decF v ds with
    | none => none
    | some n => if n > mx then none else some n
  | [], mx, v, _, h, _, _ => by show some v = if v > mx then none else some v; rw [if_neg (by omega)]
  | d :: ds, mx, v, h0, h1, h2, hd => by
    have hdd := hd d List.mem_cons_self
    have h3 := digB_iff.1 hdd
    have hds : ∀ x ∈ ds, digB x = true := fun x hx => hd x (List.mem_cons_of_mem _ hx)
    unfold nmF decF
    rw [if_pos hdd]
    by_cases c : v * 10 + (d - 48) > mx
    · rw [if_pos c]
      by_cases c2 : v * 10 + (d - 48) > 4294967295
      · rw [if_pos c2]
      · rw [if_neg c2]
        cases hq : decF (v * 10 + (d - 48)) ds with
        | none => rfl
        | some n =>
          have := decF_ge ds _ n (by omega) hds hq
          show none = if n > mx then none else some n
          rw [if_pos (by omega)]
    · rw [if_neg c, if_neg (by omega)]
      exact nm_dec ds mx _ (by omega) (by omega) h2 hds
theorem bys_bA {t : List Int} (h : BW t) : bys (bA t) = t := by
  apply List.ext_getElem?
  intro i
  unfold bys
  rw [bA_size]
  by_cases hi : i < t.length
  · rw [List.getElem?_map, List.getElem?_range hi, gD_get hi]
    show some (byteAt (bA t) i) = _
    rw [byteAt_bA h i hi]
  · rw [List.getElem?_eq_none (by simp; omega), List.getElem?_eq_none (by omega)]
theorem nmW_bA {t : List Int} (h : BW t) (mx : Int) : nmW (bA t) mx = if t.length = 0 then none else nmF mx 0 t := by
  unfold nmW; rw [bA_size, bys_bA h]
theorem tk_letter {c : Int} {r : List Int} (h : letB c = true) : tkW (c :: r) = some (.word (c :: r)) := by
  unfold tkW
  simp only
  have : 97 ≤ c := by unfold letB at h; simp only [Bool.and_eq_true, decide_eq_true_eq] at h; exact h.1
  rw [if_neg (by omega), if_pos h]
/-- a word that is a number, and its token -/
theorem tk_num {t : List Int} {n : Int} (hw : Wf t) (h : tkW t = some (.num n)) : (t ≠ [] ∧ ∀ d ∈ t, digB d = true) ∧ decF 0 t = some n := by
  rcases hw with rfl | ⟨c, r, rfl, hc⟩ | ⟨h1, h2⟩
  · cases h
  · rw [tk_letter hc] at h; cases h
  · refine ⟨⟨h1, h2⟩, ?_⟩
    match t, h1, h2, h with
    | c :: r, _, h2, h =>
      have hd := h2 c List.mem_cons_self
      have h3 := digB_iff.1 hd
      unfold tkW at h
      simp only at h
      rw [if_neg (by omega)] at h
      split at h
      · cases h
      · obtain ⟨x, hx, e⟩ := map_some h
        injection e with e; subst e; exact hx
theorem num_tk {t : List Int} (h1 : t ≠ []) (h2 : ∀ d ∈ t, digB d = true) {n : Int} (h : decF 0 t = some n) : tkW t = some (.num n) := by
  match t, h1, h2, h with
  | c :: r, _, h2, h =>
    have hd := h2 c List.mem_cons_self
    have h3 := digB_iff.1 hd
    unfold tkW
    simp only
    rw [if_neg (by omega), if_neg (by unfold letB; simp; omega), h]; rfl
theorem nm_tk {t : List Int} (hb : BW t) {mx : Int} (h0 : 0 ≤ mx) (h1 : mx ≤ 4294967295) (h : (nmW (bA t) mx).isSome = true) : tkW t = some (.num (nmG (bA t) mx)) ∧ nmG (bA t) mx ≤ mx := by
  unfold nmG
  have hg := nmW_g (w := bA t) (mx := mx) h0
  refine ⟨?_, hg.2⟩
  rw [nmW_bA hb] at h ⊢
  by_cases hl : t.length = 0
  · rw [if_pos hl] at h; cases h
  rw [if_neg hl] at h ⊢
  obtain ⟨n, hn⟩ := Option.isSome_iff_exists.1 h
  have hd := nm_dig t mx 0 n hn
  have he := nm_dec t mx 0 (Int.le_refl _) h0 h1 hd
  rw [hn] at he ⊢
  cases hq : decF 0 t with
  | none => rw [hq] at he; cases he
  | some m =>
    rw [hq] at he
    simp only at he
    split at he
    · cases he
    · injection he with he; subst he
      exact num_tk (fun e => hl (by rw [e]; rfl)) hd hq
theorem tk_nm {t : List Int} (hw : Wf t) (hb : BW t) {n mx : Int} (h0 : 0 ≤ mx) (h1 : mx ≤ 4294967295) (h : tkW t = some (.num n)) (hn : ¬ n > mx) : nmW (bA t) mx = some n := by
  obtain ⟨⟨a1, a2⟩, a3⟩ := tk_num hw h
  rw [nmW_bA hb, if_neg (fun e => a1 (List.eq_nil_of_length_eq_zero e)), nm_dec t mx 0 (Int.le_refl _) h0 h1 a2, a3]
  show (if n > mx then none else some n) = some n
  rw [if_neg hn]
/-! names of devices -/
theorem ext_bys (w : ByteArray) (h : 0 < w.size) : bys (w.extract 1 w.size) = dsW w := by
  unfold bys dsW
  have hs : (w.extract 1 w.size).size = w.size - 1 := by rw [ByteArray.size_extract]; omega
  rw [hs]
  apply List.map_congr_left
  intro i hi
  have hi := List.mem_range.1 hi
  unfold byteAt
  have e1 : (w.extract 1 w.size)[i]? = some ((w.extract 1 w.size)[i]'(by omega)) := by
    show (if h : i < (w.extract 1 w.size).size then some _ else none) = _
    rw [dif_pos (by omega)]
  have e2 : w[i + 1]? = some (w[i + 1]'(by omega)) := by
    show (if h : i + 1 < w.size then some _ else none) = _
    rw [dif_pos (by omega)]
  rw [e1, e2, ByteArray.getElem_extract]
  simp only [Nat.add_comm 1 i]
theorem dev_eq (w : ByteArray) : (¬ (devW w = -1 ∨ devW w = -2) ↔ (dvM w).isSome = true) ∧ ((dvM w).isSome = true → devW w = dvG w) := by
  unfold dvG
  by_cases h0 : w.size = 0 ∨ byteAt w 0 ≠ 114
  · rw [dvM_n h0, devW_1 (by omega)]
    exact ⟨⟨fun h => absurd (.inl rfl) h, fun h => by cases h⟩, fun h => by cases h⟩
  · rw [dvM_s h0]
    unfold nmW
    rw [ext_bys w (by omega)]
    have hs : (w.extract 1 w.size).size = w.size - 1 := by rw [ByteArray.size_extract]; omega
    rw [hs]
    by_cases h1 : w.size - 1 = 0
    · rw [if_pos h1, devW_1 (by omega)]
      exact ⟨⟨fun h => absurd (.inl rfl) h, fun h => by cases h⟩, fun h => by cases h⟩
    rw [if_neg h1]
    have h2 : ¬ (w.size < 2 ∨ byteAt w 0 ≠ 114) := by omega
    unfold devW
    rw [if_neg h2]
    by_cases ha : (dsW w).all digB = true
    · rw [if_pos ha, nm_dec (dsW w) 15 0 (Int.le_refl _) (by decide) (by decide) (List.all_eq_true.1 ha)]
      cases hq : decF 0 (dsW w) with
      | none => exact ⟨⟨fun h => absurd (.inr rfl) h, fun h => by cases h⟩, fun h => by cases h⟩
      | some n =>
        have hn := decF_ge (dsW w) 0 n (Int.le_refl _) (List.all_eq_true.1 ha) hq
        simp only
        by_cases hn2 : n ≥ 16
        · rw [if_pos hn2, if_pos (by omega)]
          exact ⟨⟨fun h => absurd (.inr rfl) h, fun h => by cases h⟩, fun h => by cases h⟩
        · rw [if_neg hn2, if_neg (by omega)]
          exact ⟨⟨fun _ => rfl, fun _ q => by omega⟩, fun _ => rfl⟩
    · rw [if_neg ha]
      have hn : nmF 15 0 (dsW w) = none := by
        cases hq : nmF 15 0 (dsW w) with
        | none => rfl
        | some n => exact absurd (List.all_eq_true.2 (nm_dig _ _ _ n hq)) ha
      rw [hn]
      exact ⟨⟨fun h => absurd (.inl rfl) h, fun h => by cases h⟩, fun h => by cases h⟩
/-! words -/
theorem first_bA {t : List Int} (hb : BW t) (h : 0 < t.length) : ∃ c r, t = c :: r ∧ c = byteAt (bA t) 0 := by
  match t, hb, h with
  | c :: r, hb, _ => exact ⟨c, r, rfl, (byteAt_bA hb 0 (by simp)).symm⟩
theorem kw_tk {t : List Int} (hb : BW t) {s : ByteArray} (hs : 0 < s.size ∧ letB (byteAt s 0) = true) (h : sEq (bA t) s = true) : tkW t = some (.word t) := by
  have e : bA t = s := by unfold sEq at h; exact str_eq (eq_of_beq h)
  have hl : 0 < t.length := by rw [← bA_size, e]; exact hs.1
  obtain ⟨c, r, e1, e2⟩ := first_bA hb hl
  rw [e] at e2
  rw [e1]
  exact tk_letter (by rw [e2]; exact hs.2)
theorem dv_tk {t : List Int} (hb : BW t) (h : (dvM (bA t)).isSome = true) : tkW t = some (.word t) := by
  by_cases h0 : (bA t).size = 0 ∨ byteAt (bA t) 0 ≠ 114
  · rw [dvM_n h0] at h; cases h
  · have hl : 0 < t.length := by rw [← bA_size]; omega
    obtain ⟨c, r, e1, e2⟩ := first_bA hb hl
    rw [e1]
    exact tk_letter (by rw [e2, show byteAt (bA t) 0 = 114 by omega]; decide)
theorem sl_iff {t : List Int} (hb : BW t) : sEq (bA t) ⟨#[47]⟩ = true ↔ t = [47] := by
  constructor
  · intro h
    have e : bA t = ⟨#[47]⟩ := by unfold sEq at h; exact str_eq (eq_of_beq h)
    have h1 := bys_bA hb
    rw [e] at h1
    rw [← h1]; rfl
  · intro h
    rw [h]
    exact (by decide +kernel)
theorem tk_slash {t : List Int} (hw : Wf t) (h : isSl (tkW t) = true) : t = [47] := by
  rcases hw with rfl | ⟨c, r, rfl, hc⟩ | ⟨h1, h2⟩
  · rfl
  · rw [tk_letter hc] at h; cases h
  · match t, h1, h2, h with
    | c :: r, _, h2, h =>
      have hd := digB_iff.1 (h2 c List.mem_cons_self)
      unfold tkW at h
      simp only at h
      rw [if_neg (by omega), if_neg (by unfold letB; simp; omega)] at h
      cases hq : decF 0 (c :: r) <;> rw [hq] at h <;> cases h
theorem tk_word {t x : List Int} (h : tkW t = some (.word x)) : x = t := by
  match t, h with
  | c :: r, h =>
    unfold tkW at h
    simp only at h
    split at h
    · cases h
    · split at h
      · injection h with h; injection h with h; exact h.symm
      · cases hq : decF 0 (c :: r) <;> rw [hq] at h <;> cases h

end Go.Proofs.Qxb6500907a

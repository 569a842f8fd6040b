import Derived.Test.Qxb6500907aR18
namespace Go.Proofs.Qxb6500907a
open Go.Eng
set_option linter.unusedVariables false
set_option linter.unusedSimpArgs false

/-! ## the two readers agree -/
theorem span (ts : List Ro) (h : Ro.bad ∉ ts) : ∃ (ws : List (List Int)) (rest : List Ro), ts = ws.map Ro.w ++ rest ∧ (rest = [] ∨ ∃ r, rest = .nl :: r) := by
  induction ts with
  | nil => exact ⟨[], [], rfl, .inl rfl⟩
  | cons x r ih =>
    cases x with
    | nl => exact ⟨[], _, rfl, .inr ⟨r, rfl⟩⟩
    | bad => exact absurd List.mem_cons_self h
    | w t =>
      obtain ⟨ws, rest, e, hr⟩ := ih (fun q => h (List.mem_cons_of_mem _ q))
      exact ⟨t :: ws, rest, by rw [e]; rfl, hr⟩
def aftR : List Ro → List (List (List Int))
  | .nl :: r => splA [] r
  | _ => []
theorem spl_line {ws : List (List Int)} (h : ws ≠ []) {rest : List Ro} (hr : rest = [] ∨ ∃ r, rest = .nl :: r) : splA [] (ws.map Ro.w ++ rest) = ws :: (aftR rest) := by
  rw [spl_w, List.nil_append]
  have hl : ¬ ws.length = 0 := fun e => h (List.eq_nil_of_length_eq_zero e)
  rcases hr with rfl | ⟨r, rfl⟩
  · show addLn ws [] = _; unfold addLn; rw [if_neg hl]; rfl
  · show addLn ws _ = _; unfold addLn; rw [if_neg hl]; rfl
theorem spl_nl (r : List Ro) : splA [] (.nl :: r) = splA [] r := rfl
theorem bl_some : ∀ (ts : List Ro) (ts2 : List Ro), blR ts = some ts2 → splA [] ts2 = splA [] ts ∧ ts2.length ≤ ts.length ∧ hd ts2 ≠ some .nl ∧ (∀ x, x ∈ ts2 → x ∈ ts) ∧ (∀ x, x ∈ ts → x = .nl ∨ x ∈ ts2)
  | [], ts2, h => by injection h with h; subst h; exact ⟨rfl, Nat.le_refl _, (fun q => by cases q), fun x hx => hx, fun x hx => .inr hx⟩
  | .nl :: r, ts2, h => by
    unfold blR at h
    split at h
    · obtain ⟨h1, h2, h3, h4, h5⟩ := bl_some r ts2 h
      refine ⟨h1, by rw [List.length_cons]; omega, h3, fun x hx => List.mem_cons_of_mem _ (h4 x hx), fun x hx => ?_⟩
      rcases List.mem_cons.1 hx with q | q
      · exact .inl q
      · exact h5 x q
    · cases h
  | .w t :: r, ts2, h => by
    injection h with h; subst h
    exact ⟨rfl, Nat.le_refl _, fun q => (by obtain ⟨r', e⟩ := tok_nl q; cases e), fun x hx => hx, fun x hx => .inr hx⟩
  | .bad :: r, ts2, h => by
    injection h with h; subst h
    exact ⟨rfl, Nat.le_refl _, fun q => (by cases q), fun x hx => hx, fun x hx => .inr hx⟩
/-- a stream whose first token cannot be read: a number too big, at the start of a line -/
def Ovf (ts : List Ro) : Prop := ∃ t ws L, splA [] ts = (t :: ws) :: L ∧ tkW t = none ∧ Ro.w t ∈ ts
theorem hd_none {ts : List Ro} (hb : Ro.bad ∉ ts) (h : ¬ HS ts) : Ovf ts := by
  match ts, hb, h with
  | [], _, h => exact absurd rfl h
  | .nl :: r, _, h => exact absurd rfl h
  | .bad :: r, hb, _ => exact absurd List.mem_cons_self hb
  | .w t :: r, hb, h =>
    obtain ⟨ws, rest, e, hr⟩ := span r (fun q => hb (List.mem_cons_of_mem _ q))
    have ht : tkW t = none := by
      cases hq : tkW t with
      | none => rfl
      | some x => exact absurd (show (tkW t).isSome = true by rw [hq]; rfl) h
    have := spl_line (ws := t :: ws) (by simp) hr
    exact ⟨t, ws, _, by rw [e]; exact this, ht, List.mem_cons_self⟩
theorem bl_none : ∀ (ts : List Ro), Ro.bad ∉ ts → blR ts = none → Ovf ts
  | [], _, h => by cases h
  | .nl :: r, hb, h => by
    have hb' : Ro.bad ∉ r := fun q => hb (List.mem_cons_of_mem _ q)
    unfold blR at h
    have key : Ovf r → Ovf (.nl :: r) := fun ⟨t, ws, L, a, b, c⟩ => ⟨t, ws, L, a, b, List.mem_cons_of_mem _ c⟩
    split at h
    · exact key (bl_none r hb' h)
    · rename_i hs
      exact key (hd_none hb' hs)
  | .w t :: r, _, h => by cases h
  | .bad :: r, hb, _ => absurd List.mem_cons_self hb
theorem spl_mem : ∀ (ts : List Ro) (acc : List (List Int)) (P : List Int → Prop), (∀ t, Ro.w t ∈ ts → P t) → (∀ t ∈ acc, P t) → ∀ ws ∈ splA acc ts, ∀ t ∈ ws, P t
  | [], acc, P, _, ha, ws, hw => by
    have hw : ws ∈ addLn acc [] := hw
    unfold addLn at hw
    split at hw
    · cases hw
    · rw [List.mem_singleton.1 hw]; exact ha
  | .nl :: r, acc, P, hp, ha, ws, hw => by
    have ih := spl_mem r [] P (fun t ht => hp t (List.mem_cons_of_mem _ ht)) (fun t ht => by cases ht)
    have hw : ws ∈ addLn acc (splA [] r) := hw
    unfold addLn at hw
    split at hw
    · exact ih ws hw
    · rcases List.mem_cons.1 hw with rfl | hw
      · exact ha
      · exact ih ws hw
  | .w t :: r, acc, P, hp, ha, ws, hw => by
    exact spl_mem r (acc ++ [t]) P (fun t ht => hp t (List.mem_cons_of_mem _ ht)) (fun x hx => by
      rcases List.mem_append.1 hx with q | q
      · exact ha x q
      · rw [List.mem_singleton.1 q]; exact hp t List.mem_cons_self) ws hw
  | .bad :: r, acc, P, hp, ha, ws, hw => by cases hw
theorem end_no {t : List Int} {ws : List (List Int)} (hb : ∀ x ∈ t :: ws, BW x) (he : sEq (bA t) sEnd = true) {c : Ch} (h : lnM ((t :: ws).map bA) = some c) (hck : ckF c = 0) : False := by
  have h1 := ch_i (t :: ws) (ts' := []) hb h hck rfl
  obtain ⟨⟨x0, r0⟩, h2, h3⟩ := bind_o h1
  obtain ⟨t', e, rfl, _, _⟩ := word_o h2
  injection e with e1 e2
  injection e1 with e1
  subst e1
  obtain ⟨⟨c1, r1⟩, h4, h5⟩ := bind_o h3
  simp only at h4
  unfold chSwR at h4
  rw [if_neg (by rw [sEq_ne he (b := sRoute) (by decide)]; simp), if_neg (by rw [sEq_ne he (b := sAcl) (by decide)]; simp), if_neg (by rw [sEq_ne he (b := sLink) (by decide)]; simp), if_neg (by rw [sEq_ne he (b := sIface) (by decide)]; simp)] at h4
  cases h4
theorem first_ok {t : List Int} {ws : List (List Int)} (hb : ∀ x ∈ t :: ws, BW x) {c : Ch} (h : lnM ((t :: ws).map bA) = some c) (hck : ckF c = 0) : (tkW t).isSome = true := by
  have h1 := ch_i (t :: ws) (ts' := []) hb h hck rfl
  obtain ⟨⟨x0, r0⟩, h2, h3⟩ := bind_o h1
  obtain ⟨t', e, rfl, k, _⟩ := word_o h2
  injection e with e1 e2
  injection e1 with e1
  rw [e1, k]; rfl
theorem isEnd_iff {ws : List (List Int)} (h : isEnd ws = true) : ∃ t, ws = [t] ∧ sEq (bA t) sEnd = true := by
  unfold isEnd at h
  rw [Bool.and_eq_true, decide_eq_true_eq] at h
  match ws, h with
  | [t], h => exact ⟨t, rfl, h.2⟩
theorem lnM_cok {ws : List ByteArray} {c : Ch} (h : lnM ws = some c) : c.ok := by
  have d : ∀ u, 0 ≤ dvG u ∧ dvG u ≤ 15 := dvM_g
  have n1 : ∀ u, 0 ≤ nmG u 255 ∧ nmG u 255 ≤ 255 := fun u => nmW_g (by decide)
  have n2 : ∀ u, 0 ≤ nmG u 8 ∧ nmG u 8 ≤ 8 := fun u => nmW_g (by decide)
  have n3 : ∀ u, 0 ≤ nmG u 63 ∧ nmG u 63 ≤ 63 := fun u => nmW_g (by decide)
  have n4 : ∀ u, 0 ≤ nmG u 15 ∧ nmG u 15 ≤ 15 := fun u => nmW_g (by decide)
  unfold lnM at h
  split at h
  · rename_i x0 x1 x2 x3 x4 x5 x6 x7
    have := d x2; have := d x7; have := n1 x3; have := n2 x5
    unfold ln8 at h
    split at h
    · injection h with h; subst h; constructor <;> (simp only; omega)
    · cases h
  · rename_i x0 x1 x2 x3 x4 x5 x6
    have := d x2; have := n1 x3; have := n2 x5
    unfold ln7 at h
    split at h
    · injection h with h; subst h; constructor <;> (simp only; omega)
    · cases h
  · rename_i x0 x1 x2 x3 x4 x5
    have := d x2; have := n1 x3; have := n2 x5
    unfold ln6 at h
    split at h
    · injection h with h; subst h; constructor <;> (simp only; omega)
    · cases h
  · rename_i x0 x1 x2 x3 x4 x5 x6 x7 x8 x9
    have := d x2; have := n3 x3; have := n1 x5; have := n2 x7; have := n4 x9
    unfold ln10 at h
    split at h
    · injection h with h; subst h
      constructor <;> (simp only; first | omega | (split <;> omega))
    · cases h
  · rename_i x0 x1 x2 x3
    have := d x2; have := d x3; have := n3 x3
    unfold ln4 at h
    split at h
    · split at h
      · injection h with h; subst h; constructor <;> (simp only; omega)
      · cases h
    · split at h
      · split at h
        · split at h
          · split at h
            · injection h with h; subst h; constructor <;> (simp only; omega)
            · injection h with h; subst h; constructor <;> (simp only; omega)
          · injection h with h; subst h; constructor <;> (simp only; omega)
        · cases h
      · cases h
  · cases h
theorem wf0 {ws : List ByteArray} {c : Ch} (h : lnM ws = some c) : wfF c = true ↔ ckF c = 0 := by
  rw [wf_ck c (lnM_cok h), decide_eq_true_eq]
theorem acc_ovf {n : Nat} {t : List Int} {ws : List (List Int)} {L : List (List (List Int))} (hb : ∀ x ∈ t :: ws, BW x) (h : tkW t = none) : accL n ((t :: ws) :: L) = none := by
  unfold accL
  by_cases he : isEnd (t :: ws) = true
  · obtain ⟨t', e, hs⟩ := isEnd_iff he
    injection e with e1 e2
    rw [← e1] at hs
    rw [kw_tk (hb t List.mem_cons_self) (s := sEnd) (by decide) hs] at h; cases h
  · rw [if_neg (by simp [he])]
    split
    · rfl
    · split
      · rfl
      · rename_i c hc
        by_cases hf : wfF c = true
        · have := first_ok hb hc ((wf0 hc).1 hf)
          rw [h] at this; cases this
        · rw [if_neg hf]

def finZ (N : Nat) (z : ZS) : ZS := fnZ (blZ N (advZ N z))
theorem fin_mo (N : Nat) (z : ZS) : Mo z (finZ N z) := by
  have h1 : Mo (advZ N z) (blZ N (advZ N z)) := Mo.blF N _ _
  refine (Mo.adv N z).trans (h1.trans ?_)
  unfold finZ fnZ
  split
  · exact Mo.fail _ _ _
  · exact Mo.refl _
theorem spl_ne (ts : List Ro) (acc : List (List Int)) (ha : acc ≠ []) (hb : Ro.bad ∉ ts) : ∃ ws L, splA acc ts = (acc ++ ws) :: L := by
  obtain ⟨ws, rest, rfl, hr⟩ := span ts hb
  rw [spl_w]
  have hl : ¬ (acc ++ ws).length = 0 := fun e => by
    have := List.eq_nil_of_length_eq_zero e
    exact ha (List.append_eq_nil_iff.1 this).1
  rcases hr with rfl | ⟨r, rfl⟩
  · exact ⟨ws, [], by show addLn _ _ = _; unfold addLn; rw [if_neg hl]⟩
  · exact ⟨ws, splA [] r, by show addLn _ _ = _; unfold addLn; rw [if_neg hl]⟩
theorem spl_nil : ∀ (r : List Ro), Ro.bad ∉ r → splA [] r = [] → blR r = some []
  | [], _, _ => rfl
  | .nl :: r, hb, h => by
    have hb' : Ro.bad ∉ r := fun q => hb (List.mem_cons_of_mem _ q)
    have ih := spl_nil r hb' h
    unfold blR
    have hs : (hd r).isSome = true := by
      match r, ih with
      | [], _ => rfl
      | .nl :: _, _ => rfl
      | .w t :: _, q => cases q
    rw [if_pos hs]; exact ih
  | .bad :: r, hb, _ => absurd List.mem_cons_self hb
  | .w t :: r, hb, h => by
    obtain ⟨ws, L, e⟩ := spl_ne r [t] (by simp) (fun q => hb (List.mem_cons_of_mem _ q))
    have h : splA [t] r = [] := h
    rw [e] at h; cases h
theorem spl_one {t : List Int} {r : List Ro} (hb : Ro.bad ∉ r) (h : splA [t] r = [[t]]) : blR r = some [] := by
  match r, hb, h with
  | [], _, _ => rfl
  | .nl :: r, hb, h =>
    have h : [t] :: splA [] r = [[t]] := h
    injection h with _ h
    exact spl_nil (.nl :: r) hb h
  | .bad :: r, hb, _ => exact absurd List.mem_cons_self hb
  | .w t1 :: r, hb, h =>
    obtain ⟨ws, L, e⟩ := spl_ne r [t, t1] (by simp) (fun q => hb (List.mem_cons_of_mem _ q))
    have h : splA [t, t1] r = [[t]] := h
    rw [e] at h
    injection h with h _
    simp at h
theorem bl_all {r : List Ro} (h : blR r = some []) (t : List Int) : splA [t] r = [[t]] ∧ Ro.bad ∉ r := by
  obtain ⟨h1, _, _, _, h5⟩ := bl_some r [] h
  refine ⟨?_, fun q => ?_⟩
  · match r, h, h1, h5 with
    | [], _, _, _ => rfl
    | .nl :: r, h, h1, _ =>
      show [t] :: splA [] r = _
      have : splA [] r = [] := h1.symm
      rw [this]
    | .w t1 :: r, h, _, _ => cases h
    | .bad :: r, h, _, _ => cases h
  · rcases h5 _ q with z | z
    · cases z
    · cases z
theorem go_end {z : ZS} (hok : z.err.isNone = true) (h : goB z = false) : ∃ t, z.tok = .word t ∧ sEq (bA t) sEnd = true := by
  unfold goB at h
  rw [hok, Bool.true_and] at h
  cases ht : z.tok with
  | word t => rw [ht] at h; exact ⟨t, rfl, by simpa [Tk.kind, Tk.txt] using h⟩
  | eof => rw [ht] at h; revert h; simp [Tk.kind]
  | nl => rw [ht] at h; revert h; simp [Tk.kind]
  | num n => rw [ht] at h; revert h; simp [Tk.kind]
  | slash => rw [ht] at h; revert h; simp [Tk.kind]
theorem go_word {z : ZS} {t : List Int} (hok : z.err.isNone = true) (ht : z.tok = .word t) (h : sEq (bA t) sEnd = true) : goB z = false := by
  unfold goB
  rw [hok, ht]
  show (true && !(decide ((2 : Int) = 2) && sEq (bA t) sEnd)) = false
  rw [h]; rfl
def PlM (N : Nat) (ts : List Ro) (z : ZS) (cs : List Ch) (n : Nat) : Prop :=
  (Ro.bad ∈ ts → (finZ N (plF N n z cs).2).err.isNone = false) ∧
  (Ro.bad ∉ ts → match accL cs.length (splA [] ts) with
    | none => (finZ N (plF N n z cs).2).err.isNone = false
    | some cs' => (plF N n z cs).1 = cs ++ cs' ∧ (finZ N (plF N n z cs).2).err.isNone = true)
theorem plm_err {N : Nat} {ts : List Ro} {z : ZS} {cs : List Ch} {n : Nat} (h : (finZ N (plF N n z cs).2).err.isNone = false) (ha : Ro.bad ∉ ts → accL cs.length (splA [] ts) = none) : PlM N ts z cs n :=
  ⟨fun _ => h, fun hb => by rw [ha hb]; exact h⟩
theorem plF_bad (N n : Nat) {z : ZS} (cs : List Ch) (h : z.err.isNone = false) : (finZ N (plF N n z cs).2).err.isNone = false := by
  rw [plF_stop N n cs (go_f1 h)]
  exact (fin_mo N z).bad h
theorem pl_main (N : Nat) : ∀ (k : Nat) (ts : List Ro) (z : ZS) (cs : List Ch) (n : Nat), ts.length ≤ k → Zs z ts → WT ts → hd ts ≠ some .nl → muZ z + 1 ≤ n → cs.length ≤ 128 → PlM N ts z cs n := by
  intro k
  induction k with
  | zero => ?_
  | succ k ih => ?_
  all_goals
    intro ts z cs n hk hz hw hnl hn hcs
    have hBW : ∀ ws ∈ splA [] ts, ∀ t ∈ ws, BW t := spl_mem ts [] BW (fun t ht => (hw t ht).2) (fun t ht => by cases ht)
    cases hg : goB z
  case zero.false =>
    obtain ⟨t, ht, _⟩ := go_end hz.ok hg
    have := hz.hd
    rw [ht, List.eq_nil_of_length_eq_zero (by omega : ts.length = 0)] at this
    cases this
  case zero.true =>
    obtain rfl : ts = [] := List.eq_nil_of_length_eq_zero (by omega)
    refine plm_err ?_ (fun _ => rfl)
    rw [plF_go N n cs hg (by omega)]
    have hk0 : z.tok = .eof := by have := hz.hd; injection this with this; exact this.symm
    have htm : tmZ z cs.length = z := tm_f (.inr (by rw [hk0]; rfl))
    rw [htm]
    have hc : (chgZ N z).2.err.isNone = false := chg_sm N hz
    exact plF_bad N _ _ ((Mo.eol N _).bad hc)
  case succ.false =>
    obtain ⟨t, ht, he⟩ := go_end hz.ok hg
    have hh := hz.hd
    rw [ht] at hh
    obtain ⟨r, rfl, hkt⟩ := hd_w hh
    have hac : Ro.bad ∉ (Ro.w t :: r) → (accL cs.length (splA [] (Ro.w t :: r)) = if (splA [t] r = [[t]]) then some [] else none) := fun hb => by
      obtain ⟨ws, L, e⟩ := spl_ne r [t] (by simp) (fun q => hb (List.mem_cons_of_mem _ q))
      have e' : splA [] (Ro.w t :: r) = (t :: ws) :: L := e
      have hb2 : ∀ x ∈ t :: ws, BW x := hBW _ (by rw [e']; exact List.mem_cons_self)
      rw [e', show splA [t] r = (t :: ws) :: L from e]
      unfold accL
      by_cases hq : (t :: ws) :: L = [[t]]
      · rw [if_pos hq]
        injection hq with q1 q2
        injection q1 with _ q1
        subst q1; subst q2
        have : isEnd [t] = true := by unfold isEnd; show (true && sEq (bA t) sEnd) = true; rw [he]; rfl
        rw [if_pos (by rw [this]; rfl)]
      · rw [if_neg hq]
        have hne : ¬ ((L.isEmpty && isEnd (t :: ws)) = true) := fun q => by
          rw [Bool.and_eq_true] at q
          obtain ⟨t', e1, _⟩ := isEnd_iff q.2
          injection e1 with e1 e2
          exact hq (by rw [e2, List.isEmpty_iff.1 q.1])
        rw [if_neg hne]
        split
        · rfl
        · split
          · rfl
          · rename_i c hc
            by_cases hf : wfF c = true
            · exact absurd ((wf0 hc).1 hf) (fun q => end_no hb2 he hc q)
            · rw [if_neg hf]
    have hpl : plF N n z cs = (cs, z) := plF_stop N n cs hg
    have ha := adv_sm N hz
    unfold advR at ha
    rw [List.tail_cons] at ha
    by_cases hs : (hd r).isSome = true
    · rw [if_pos hs] at ha
      have hb := bl_sm N ha
      cases hbr : blR r with
      | none =>
        rw [hbr] at hb
        refine plm_err ?_ (fun q => ?_)
        · rw [hpl]
          have hb' : (blZ N (advZ N z)).err.isNone = false := hb
          show (fnZ _).err.isNone = false
          rw [fn_f (.inl hb')]; exact hb'
        · rw [hac q, if_neg (fun z9 => by rw [spl_one (fun y => q (List.mem_cons_of_mem _ y)) z9] at hbr; cases hbr)]
      | some r2 =>
        rw [hbr] at hb
        have hb' : Zs (blZ N (advZ N z)) r2 := hb
        by_cases h2 : r2 = []
        · subst h2
          obtain ⟨e1, e2⟩ := bl_all hbr t
          have hnb : Ro.bad ∉ (Ro.w t :: r) := fun q => by
            rcases List.mem_cons.1 q with q | q
            · cases q
            · exact e2 q
          refine ⟨fun q => absurd q hnb, fun q => ?_⟩
          rw [hac q, if_pos e1, hpl]
          refine ⟨by simp, ?_⟩
          show (fnZ _).err.isNone = true
          have hk0 : (blZ N (advZ N z)).tok.kind = 0 := by have := hb'.hd; injection this with this; rw [← this]; rfl
          rw [fn_f (.inr hk0)]; exact hb'.ok
        · refine plm_err ?_ (fun q => ?_)
          · rw [hpl]
            show (fnZ _).err.isNone = false
            have hk0 : ¬ (blZ N (advZ N z)).tok.kind = 0 := fun q => by
              have hx := hb'.hd
              match r2, h2, hx with
              | .nl :: _, _, hx => injection hx with hx; rw [← hx] at q; exact absurd q (by decide)
              | .bad :: _, _, hx => cases hx
              | .w t1 :: _, _, hx =>
                have hx : tkW t1 = some _ := hx
                cases ht9 : (blZ N (advZ N z)).tok with
                | eof =>
                  rw [ht9] at hx
                  match t1, hx with
                  | c :: r', hx =>
                    unfold tkW at hx
                    simp only at hx
                    split at hx
                    · cases hx
                    · split at hx
                      · cases hx
                      · cases hq : decF 0 (c :: r') <;> rw [hq] at hx <;> cases hx
                | nl => rw [ht9] at q; exact absurd q (by decide)
                | word x => rw [ht9] at q; exact absurd q (show ¬ (2 : Int) = 0 by decide)
                | num x => rw [ht9] at q; exact absurd q (show ¬ (3 : Int) = 0 by decide)
                | slash => rw [ht9] at q; exact absurd q (by decide)
            rw [fn_t hb'.ok hk0]; exact fail_err _ _ _
          · rw [hac q, if_neg (fun z9 => by rw [spl_one (fun y => q (List.mem_cons_of_mem _ y)) z9] at hbr; injection hbr with hbr; exact h2 hbr.symm)]
    · rw [if_neg hs] at ha
      have ha' : (advZ N z).err.isNone = false := ha
      refine plm_err ?_ (fun q => ?_)
      · rw [hpl]
        have hb' : (blZ N (advZ N z)).err.isNone = false := (Mo.blF N _ _).bad ha'
        show (fnZ _).err.isNone = false
        rw [fn_f (.inl hb')]; exact hb'
      · rw [hac q, if_neg (fun z9 => by
          have hbl := spl_one (fun y => q (List.mem_cons_of_mem _ y)) z9
          match r, hbl, hs with
          | [], _, hs => exact hs rfl
          | .nl :: _, _, hs => exact hs rfl
          | .w t1 :: _, hbl, _ => cases hbl
          | .bad :: _, hbl, _ => cases hbl)]
  case succ.true =>
    -- a line that is not the end
    have hend : ∀ ws L, splA [] ts = ws :: L → Ro.bad ∉ ts → ¬ ((L.isEmpty && isEnd ws) = true) := fun ws L e hb q => by
      rw [Bool.and_eq_true] at q
      obtain ⟨t, rfl, he⟩ := isEnd_iff q.2
      obtain ⟨ws2, rest, e2, hr⟩ := span ts hb
      have hne : ws2 ≠ [] := fun q9 => by
        rw [q9] at e2
        rcases hr with rfl | ⟨r, rfl⟩
        · rw [e2] at e; cases e
        · rw [e2] at hnl; exact hnl rfl
      rw [e2, spl_line hne hr] at e
      injection e with e _
      rw [e] at e2
      have hh := hz.hd
      rw [e2] at hh
      have hbt : BW t := (hw t (by rw [e2]; exact List.mem_cons_self)).2
      have hkt := kw_tk hbt (s := sEnd) (by decide) he
      have hh : tkW t = some z.tok := hh
      rw [hkt] at hh
      injection hh with hh
      rw [go_word hz.ok hh.symm he] at hg; cases hg
    have hpg := plF_go N n cs hg (by omega)
    -- the stream as a line
    have hln : Ro.bad ∉ ts → ts ≠ [] → ∃ ws rest, ts = ws.map Ro.w ++ rest ∧ (rest = [] ∨ ∃ r, rest = .nl :: r) ∧ ws ≠ [] ∧ splA [] ts = ws :: (aftR rest) := fun hb hne => by
      obtain ⟨ws2, rest, e2, hr⟩ := span ts hb
      have hne2 : ws2 ≠ [] := fun q9 => by
        rw [q9] at e2
        rcases hr with rfl | ⟨r, rfl⟩
        · exact hne e2
        · rw [e2] at hnl; exact hnl rfl
      exact ⟨ws2, rest, e2, hr, hne2, by rw [e2]; exact spl_line hne2 hr⟩
    by_cases hte : ts = []
    · refine plm_err ?_ (fun _ => by rw [hte]; rfl)
      subst hte
      rw [hpg]
      have hk0 : z.tok = .eof := by have := hz.hd; injection this with this; exact this.symm
      have htm : tmZ z cs.length = z := tm_f (.inr (by rw [hk0]; rfl))
      rw [htm]
      have hc : (chgZ N z).2.err.isNone = false := chg_sm N hz
      exact plF_bad N _ _ ((Mo.eol N _).bad hc)
    have hk0 : ¬ z.tok.kind = 0 := fun q => by
      have hx := hz.hd
      match ts, hte, hx with
      | .nl :: _, _, hx => injection hx with hx; rw [← hx] at q; exact absurd q (by decide)
      | .bad :: _, _, hx => cases hx
      | .w t1 :: _, _, hx =>
        have hx : tkW t1 = some _ := hx
        cases ht9 : z.tok with
        | eof =>
          rw [ht9] at hx
          match t1, hx with
          | c :: r', hx =>
            unfold tkW at hx
            simp only at hx
            split at hx
            · cases hx
            · split at hx
              · cases hx
              · cases hq : decF 0 (c :: r') <;> rw [hq] at hx <;> cases hx
        | nl => rw [ht9] at q; exact absurd q (by decide)
        | word x => rw [ht9] at q; exact absurd q (show ¬ (2 : Int) = 0 by decide)
        | num x => rw [ht9] at q; exact absurd q (show ¬ (3 : Int) = 0 by decide)
        | slash => rw [ht9] at q; exact absurd q (by decide)
    by_cases h8 : cs.length = 128
    · refine plm_err ?_ (fun hb => ?_)
      · rw [hpg]
        have htm : tmZ z cs.length = failZ z 12 (z.tp : Int) := tm_t h8 hk0
        rw [htm]
        exact plF_bad N _ _ ((Mo.eol N _).bad ((chg_le N _).bad (fail_err _ _ _)))
      · obtain ⟨ws, rest, e2, hr, hne, e3⟩ := hln hb hte
        rw [e3]
        unfold accL
        rw [if_neg (hend _ _ e3 hb), if_pos (by omega)]
    have htm : tmZ z cs.length = z := tm_f (.inl h8)
    rw [htm] at hpg
    have hc := chg_sm N hz
    have hmu : muZ (eolZ N (chgZ N z).2) < muZ z := Nat.lt_of_le_of_lt (Mo.eol N _).mu (chg_lt hz.ok)
    -- acceptance of the first line, if it is accepted
    have hacc : ∀ (hb : Ro.bad ∉ ts) (ws : List (List Int)) (rest : List Ro), ts = ws.map Ro.w ++ rest → (rest = [] ∨ ∃ r, rest = .nl :: r) → splA [] ts = ws :: (aftR rest) → (accL cs.length (splA [] ts) = none ∨ ∃ c, chR ts = some (c, rest) ∧ accL cs.length (splA [] ts) = (accL (cs.length + 1) (aftR rest)).map (c :: ·)) := fun hb ws rest e2 hr e3 => by
      have hb2 : ∀ x ∈ ws, BW x := hBW _ (by rw [e3]; exact List.mem_cons_self)
      have hne := hend _ _ e3 hb
      rw [e3]
      conv => enter [1, 1]; unfold accL
      conv => enter [2, 1, c, 2, 1]; unfold accL
      rw [if_neg hne, if_neg (by omega)]
      cases hl : lnM (ws.map bA) with
      | none => exact .inl rfl
      | some c =>
        simp only
        by_cases hf : wfF c = true
        · right
          refine ⟨c, ?_, by rw [if_pos hf]⟩
          rw [e2]
          exact ch_i ws hb2 hl ((wf0 hl).1 hf) (by rcases hr with rfl | ⟨r, rfl⟩ <;> rfl)
        · left; rw [if_neg hf]
    cases hcr : chR ts with
    | none =>
      rw [hcr] at hc
      have hc' : (chgZ N z).2.err.isNone = false := hc
      refine plm_err ?_ (fun hb => ?_)
      · rw [hpg]; exact plF_bad N _ _ ((Mo.eol N _).bad hc')
      · obtain ⟨ws, rest, e2, hr, hne, e3⟩ := hln hb hte
        rcases hacc hb ws rest e2 hr e3 with q | ⟨c, q, _⟩
        · exact q
        · rw [hcr] at q; cases q
    | some p =>
      obtain ⟨c, ts'⟩ := p
      rw [hcr] at hc
      obtain ⟨hcv, hz2⟩ := hc
      simp only at hcv hz2
      have he := eol_sm N hz2
      cases her : eolR ts' with
      | none =>
        rw [her] at he
        have he' : (eolZ N (chgZ N z).2).err.isNone = false := he
        refine plm_err ?_ (fun hb => ?_)
        · rw [hpg]; exact plF_bad N _ _ he'
        · obtain ⟨ws, rest, e2, hr, hne, e3⟩ := hln hb hte
          rcases hacc hb ws rest e2 hr e3 with q | ⟨c2, q, q2⟩
          · exact q
          · rw [hcr] at q
            injection q with q; injection q with _ q
            subst q
            rw [q2]
            rcases hr with rfl | ⟨r, rfl⟩
            · rfl
            · have hbr : Ro.bad ∉ (Ro.nl :: r) := fun y => hb (by rw [e2]; exact List.mem_append_right _ y)
              obtain ⟨t9, ws9, L9, e9, e10, e11⟩ := bl_none (.nl :: r) hbr her
              have e9' : splA [] r = (t9 :: ws9) :: L9 := e9
              show (accL (cs.length + 1) (splA [] r)).map _ = none
              rw [e9', acc_ovf (fun x hx => spl_mem (.nl :: r) [] BW (fun t ht => (hw t (by rw [e2]; exact List.mem_append_right _ ht)).2) (fun t ht => by cases ht) _ (by rw [e9]; exact List.mem_cons_self) x hx) e10]
              rfl
      | some ts2 =>
        rw [her] at he
        have he' : Zs (eolZ N (chgZ N z).2) ts2 := he
        obtain ⟨r, rfl⟩ : ∃ r, ts' = .nl :: r := by
          match ts', her with
          | .nl :: r, _ => exact ⟨r, rfl⟩
        have hbs : blR (.nl :: r) = some ts2 := her
        obtain ⟨b1, b2, b3, b4, b5⟩ := bl_some _ _ hbs
        obtain ⟨ws, e2, hl, hck, _, _⟩ := ch_o hw hcr
        have hmem : ∀ x, x ∈ ts2 → x ∈ ts := fun x hx => by rw [e2]; exact List.mem_append_right _ (b4 x hx)
        have hwne : ws ≠ [] := fun q => by
          rw [q] at e2
          rw [e2] at hnl; exact hnl rfl
        have hlen : ts2.length ≤ k := by
          have h1 := congrArg List.length e2
          rw [List.length_append, List.length_map] at h1
          have h2 : 0 < ws.length := by cases ws with | nil => exact absurd rfl hwne | cons a b => simp
          omega
        have hI := ih ts2 (eolZ N (chgZ N z).2) (cs ++ [(chgZ N z).1]) (n - 1) hlen he' (fun t ht => hw t (hmem _ ht)) b3 (by omega) (by rw [List.length_append]; simp; omega)
        refine ⟨fun hb => ?_, fun hb => ?_⟩
        · rw [hpg]
          refine hI.1 ?_
          rw [e2] at hb
          rcases List.mem_append.1 hb with q | q
          · exact absurd q (w_nb ws)
          · rcases b5 _ q with q | q
            · cases q
            · exact q
        · have hb2 : Ro.bad ∉ ts2 := fun q => hb (hmem _ q)
          have e3 : splA [] ts = ws :: splA [] r := by rw [e2]; exact spl_line hwne (.inr ⟨r, rfl⟩)
          rcases hacc hb ws (.nl :: r) e2 (.inr ⟨r, rfl⟩) e3 with q | ⟨c2, q, q2⟩
          · have hne := hend _ _ e3 hb
            rw [q]
            rw [e3] at q
            unfold accL at q
            rw [if_neg hne, if_neg (by omega), hl] at q
            simp only at q
            rw [if_pos ((wf0 hl).2 hck)] at q
            have := hI.2 hb2
            have b1' : splA [] ts2 = splA [] r := b1
            rw [b1', List.length_append, List.length_singleton] at this
            rw [hpg]
            cases hq : accL (cs.length + 1) (splA [] r) with
            | none => rw [hq] at this; exact this
            | some cs' => rw [hq] at q; cases q
          · rw [q2, hpg]
            rw [hcr] at q
            injection q with q; injection q with q _
            have := hI.2 hb2
            have b1' : splA [] ts2 = splA [] r := b1
            rw [b1', List.length_append, List.length_singleton] at this
            show (match (accL (cs.length + 1) (splA [] r)).map (c2 :: ·) with | none => _ | some cs' => _)
            cases hq : accL (cs.length + 1) (splA [] r) with
            | none => rw [hq] at this; exact this
            | some cs' =>
              rw [hq] at this
              refine ⟨?_, this.2⟩
              rw [this.1, hcv, ← q]
              simp

end Go.Proofs.Qxb6500907a

import Derived.Test.Qxb6500913aL1
namespace Go.Proofs.Qxb6500913a
open Go.Eng
set_option linter.unusedVariables false
set_option linter.unusedSimpArgs false

/-- all that is known of a hand-out -/
structure AllocOk (f f' : Nat → Int) (fl fl' : Nat → List Nat) (x s : Nat) : Prop where
  s1 : 2 ≤ s
  s2 : s ≤ 32
  s3 : s % 2 = 0
  x1 : 2 ≤ x
  x2 : x % 2 = 0
  xs : x + s ≤ 4096
  g0 : 0 ≤ gen f x
  g1 : gen f x < 281474976710655
  gb : boot f ≤ gen f x
  cells : ∀ c, x ≤ c → c < x + s → gen f c = gen f x ∧ role f c ≠ 1 ∧ role f c ≠ 2
  inner : ∀ c, x < c → c < x + s → ¬ IsHead (role f c)
  rl : ∀ c, c < 4096 → role f' c = if x ≤ c ∧ c < x + s then (if c = x then 1 else 2) else role f c
  gn : ∀ c, c < 4096 → gen f' c = if x ≤ c ∧ c < x + s then gen f x + 1 else gen f c
  szz : ∀ c, c < 4096 → sz f' c = if c = x then (s : Int) else sz f c
  bt : boot f' = boot f
  which : (role f x = 3 ∧ fresh f' = fresh f ∧ (x : Int) < fresh f ∧ ∃ l, fl (s / 2 - 1) = x :: l ∧ fl' = (fun c => if c = s / 2 - 1 then l else fl c)) ∨
    (role f x = 0 ∧ gen f x = boot f ∧ fresh f = x ∧ fresh f' = x + s ∧ fl' = fl ∧ fl (s / 2 - 1) = [])

theorem Inv.allocOk {f : Nat → Int} {fl : Nat → List Nat} {k : Nat} (h : Inv f fl k) (n : Nat) (h0 : (allocF f n).st = 0) :
    1 ≤ n ∧ n ≤ 32 ∧ ∃ x fl', Inv (allocF f n).f fl' (k + 1) ∧ AllocOk f (allocF f n).f fl fl' x ((n + 1) / 2 * 2) ∧ (allocF f n).ref = ((((gen f x).toNat + 1) * 65536 + x : Nat) : Int) := by
  unfold allocF at h0 ⊢
  by_cases c1 : n = 0 ∨ 32 < n
  · rw [if_pos c1] at h0; cases h0
  rw [if_neg c1] at h0 ⊢
  obtain ⟨s, hs⟩ : ∃ s, (n + 1) / 2 * 2 = s := ⟨_, rfl⟩
  simp only [hs] at h0 ⊢
  have s1 : 2 ≤ s := by omega
  have s2 : s ≤ 32 := by omega
  have s3 : s % 2 = 0 := by omega
  refine ⟨by omega, by omega, ?_⟩
  by_cases c2 : lst f (s / 2 - 1) ≠ 0
  · rw [if_pos c2] at h0 ⊢
    obtain ⟨x, hx⟩ : ∃ x : Nat, lst f (s / 2 - 1) = x := by
      have hch := h.chain (s / 2 - 1) (by omega)
      cases hfl : fl (s / 2 - 1) with
      | nil => rw [hfl] at hch; exact absurd hch c2
      | cons y l => rw [hfl] at hch; exact ⟨y, hch.1⟩
    rw [hx]
    simp only [Int.toNat_natCast]
    obtain ⟨m1, m2, m3, m4, l, m5, hi⟩ := h.pop s1 s2 s3 hx (by omega)
    have hle := m4.le
    obtain ⟨fr, q1, q2, q3, q4⟩ := h.fr
    have hbody : ∀ c, x ≤ c → c < x + s → gen f c = gen f x ∧ role f c ≠ 1 ∧ role f c ≠ 2 ∧ (x < c → role f c = 4) := by
      intro c d1 d2
      by_cases e : c = x
      · subst e; exact ⟨rfl, by omega, by omega, fun q => by omega⟩
      · have hb := m4.body (c - x) (by omega) (by omega)
        rw [show x + (c - x) = c by omega] at hb
        exact ⟨hb.2, by omega, by omega, fun _ => by omega⟩
    have g0 := h.gens x m1
    have g1 := m4.free m2
    refine ⟨x, _, hi, ⟨s1, s2, s3, m4.ge, m4.even', by omega, g0.1, g1, by have := m4.glo; omega, fun c d1 d2 => ⟨(hbody c d1 d2).1, (hbody c d1 d2).2.1, (hbody c d1 d2).2.2.1⟩,
      fun c d1 d2 => ?_, fun c hc => role_A1 f x s c m1 s2 hc, fun c hc => ?_, fun c hc => ?_, boot_A1 f x s m1 s2, .inl ⟨m2, fresh_A1 f x s m1 s2, by omega, l, m5, rfl⟩⟩, by simp⟩
    · rw [(hbody c (by omega) d2).2.2.2 d1]
      rintro (e | e | e) <;> omega
    · rw [gen_A1 f x s c m1 s2 hc]
      split
      · rename_i hin; rw [(hbody c hin.1 hin.2).1]
      · rfl
    · rw [sz_A1 f x s c m1 s2 hc]
      split
      · rename_i e; rw [e]; exact m3
      · rfl
  rw [if_neg c2] at h0 ⊢
  by_cases c3 : fresh f + s ≤ 4096 ∧ boot f < 281474976710655
  · rw [if_pos c3]
    obtain ⟨x, hx, q2, q3, q4⟩ := h.fr
    rw [hx]
    simp only [Int.toNat_natCast]
    have m1 : x < 4096 := by omega
    have hu : ∀ c, x ≤ c → c < 4096 → role f c = 0 ∧ gen f c = boot f := fun c d1 d2 => ⟨(h.unt c d2 (.inr (by omega))).1, (h.unt c d2 (.inr (by omega))).2.1⟩
    have hb := h.bootR
    have hux := hu x (Nat.le_refl _) m1
    have hfl0 : fl (s / 2 - 1) = [] := by
      have hch := h.chain (s / 2 - 1) (by omega)
      cases hfl : fl (s / 2 - 1) with
      | nil => rfl
      | cons y l => rw [hfl] at hch; have := hch.1; have := hch.2.1; omega
    refine ⟨x, fl, h.carve s1 s2 s3 hx (by omega) c3.2, ⟨s1, s2, s3, q2, q4, by omega, by omega, by omega, by omega, fun c d1 d2 => ?_, fun c d1 d2 => ?_, fun c hc => role_A2 f x s c m1 s2 hc, fun c hc => ?_, fun c hc => sz_A2 f x s c m1 s2 hc, boot_A2 f x s m1 s2,
      .inr ⟨hux.1, hux.2, hx, by rw [fresh_A2 f x s m1 s2, hx], rfl, hfl0⟩⟩, by simp⟩
    · have := hu c d1 (by omega)
      exact ⟨by rw [this.2, hux.2], by omega, by omega⟩
    · have := hu c (by omega) (by omega)
      rw [this.1]
      rintro (e | e | e) <;> omega
    · rw [gen_A2 f x s c m1 s2 hc]
      split
      · rename_i hin
        have := hu c hin.1 hc
        rw [this.2, hux.2]
      · rfl
  · rw [if_neg c3] at h0; cases h0

theorem doF_alloc (f : Nat → Int) (o : MOp) (hk : o.kd = 5) (h0 : (doF f o).ans.st = 0) : (doF f o).f = (allocF f o.a).f ∧ (doF f o).ans = ⟨0, false, (allocF f o.a).ref, 0⟩ ∧ (allocF f o.a).st = 0 := by
  unfold doF at h0 ⊢
  rw [if_neg (by omega), if_neg (by omega), if_neg (by omega), if_neg (by omega), if_neg (by omega), if_pos hk] at h0 ⊢
  by_cases c : 32 < o.a
  · rw [if_pos c] at h0; cases h0
  · rw [if_neg c] at h0 ⊢
    have h0' : (allocF f o.a).st = 0 := h0
    exact ⟨rfl, by rw [h0'], h0'⟩
theorem doF_free (f : Nat → Int) (o : MOp) (hk : o.kd = 6) : (doF f o).f = (freeF f o.a).f ∧ (doF f o).ans = ⟨(freeF f o.a).st, false, 0, 0⟩ := by
  unfold doF
  rw [if_neg (by omega), if_neg (by omega), if_neg (by omega), if_neg (by omega), if_neg (by omega), if_neg (by omega), if_pos hk]
  exact ⟨rfl, rfl⟩
theorem doF_sameBut (f : Nat → Int) (o : MOp) (h5 : o.kd = 5 → (doF f o).ans.st ≠ 0) (h6 : o.kd = 6 → (doF f o).ans.st ≠ 0) : SameBut f (doF f o).f := by
  by_cases h0 : (doF f o).ans.st = 0
  · have k5 : o.kd ≠ 5 := fun e => h5 e h0
    have k6 : o.kd ≠ 6 := fun e => h6 e h0
    unfold doF
    by_cases k0 : o.kd = 0
    · rw [if_pos k0]; exact SameBut.refl f
    rw [if_neg k0]
    by_cases k1 : o.kd = 1
    · rw [if_pos k1]
      show SameBut f (storeF f o.x o.a)
      unfold storeF
      split
      · exact SameBut.set f _ _ (by omega)
      · exact SameBut.refl f
    rw [if_neg k1]
    by_cases k2 : o.kd = 2
    · rw [if_pos k2]
      show SameBut f (casF f o.x o.a o.b)
      unfold casF
      split
      · exact SameBut.set f _ _ (by omega)
      · exact SameBut.refl f
    rw [if_neg k2]
    by_cases k3 : o.kd = 3
    · rw [if_pos k3]
      show SameBut f (addF f o.x o.a)
      unfold addF
      split
      · exact SameBut.set f _ _ (by omega)
      · exact SameBut.refl f
    rw [if_neg k3]
    by_cases k4 : o.kd = 4
    · rw [if_pos k4]
      show SameBut f (dcasF f o.x o.a o.b o.c o.d)
      unfold dcasF
      split
      · exact (SameBut.set f _ _ (by omega)).trans (SameBut.set _ _ _ (by omega))
      · exact SameBut.refl f
    rw [if_neg k4, if_neg k5, if_neg k6]
    exact SameBut.refl f
  · rw [(doF_refuse f o h0).1]; exact SameBut.refl f

/-- all that is known of a free -/
structure FreeOk (f f' : Nat → Int) (fl fl' : Nat → List Nat) (x s : Nat) : Prop where
  s1 : 2 ≤ s
  s2 : s ≤ 32
  s3 : s % 2 = 0
  x1 : 2 ≤ x
  xs : x + s ≤ 4096
  live : role f x = 1
  size : sz f x = s
  body : ∀ c, x < c → c < x + s → role f c = 2
  rl : ∀ c, c < 4096 → role f' c = if x ≤ c ∧ c < x + s then (if c = x then (if gen f x = 281474976710655 then 5 else 3) else (if gen f x = 281474976710655 then 6 else 4)) else role f c
  gn : ∀ c, c < 4096 → gen f' c = gen f c
  szz : ∀ c, c < 4096 → sz f' c = sz f c
  bt : boot f' = boot f
  frs : fresh f' = fresh f
  fls : fl' = if gen f x = 281474976710655 then fl else (fun c => if c = s / 2 - 1 then x :: fl c else fl c)

theorem Inv.freeOk {f : Nat → Int} {fl : Nat → List Nat} {k : Nat} (h : Inv f fl k) (r : Nat) (hj : judgeF f r = 0) :
    (freeF f r).st = 0 ∧ ∃ s fl', Inv (freeF f r).f fl' (k + 1) ∧ FreeOk f (freeF f r).f fl fl' (r % 65536) s := by
  have ha := judge_addr hj
  obtain ⟨l1, l2, l3⟩ := judge_live hj
  obtain ⟨s, hs⟩ := h.head _ ha.2 (.inl l1)
  have hle := hs.le
  obtain ⟨fr, q1, q2, q3, q4⟩ := h.fr
  have hb : ∀ c, r % 65536 < c → c < r % 65536 + s → role f c = 2 := by
    intro c d1 d2
    have := (hs.body (c - r % 65536) (by omega) (by omega)).1
    rw [show r % 65536 + (c - r % 65536) = c by omega] at this
    omega
  unfold freeF
  rw [if_neg (by rw [hj]; decide)]
  simp only [hs.size, Int.toNat_natCast]
  by_cases e : gen f (r % 65536) = 281474976710655
  · rw [if_pos e]
    refine ⟨rfl, s, fl, h.spend ha.2 l1 hs e, ⟨hs.lo, hs.hi, hs.even, hs.ge, by omega, l1, hs.size, hb, fun c hc => ?_, fun c hc => gen_F2 f _ s c ha.2 hs.hi hc, fun c hc => sz_F2 f _ s c ha.2 hs.hi hc, boot_F2 f _ s ha.2 hs.hi, fresh_F2 f _ s ha.2 hs.hi, by rw [if_pos e]⟩⟩
    rw [role_F2 f _ s c ha.2 hs.hi hc, if_pos e, if_pos e]
  · rw [if_neg e]
    refine ⟨rfl, s, _, h.push ha.2 l1 hs e, ⟨hs.lo, hs.hi, hs.even, hs.ge, by omega, l1, hs.size, hb, fun c hc => ?_, fun c hc => gen_F1 f _ s c ha.2 hs.hi hc, fun c hc => sz_F1 f _ s c ha.2 hs.hi hc, boot_F1 f _ s ha.2 hs.hi, fresh_F1 f _ s ha.2 hs.hi, by rw [if_neg e]⟩⟩
    rw [role_F1 f _ s c ha.2 hs.hi hc, if_neg e, if_neg e]

theorem judge_same {f f' : Nat → Int} (h : SameBut f f') (r : Nat) : judgeF f' r = judgeF f r := by
  unfold judgeF
  by_cases c : 2 ≤ r % 65536 ∧ r % 65536 < 4096
  · rw [h.role _ c.2, h.gen _ c.2, h.boot]
  · rw [if_pos c, if_pos c]
theorem freeF_st0 (f : Nat → Int) (r : Nat) : (freeF f r).st = judgeF f r := by
  unfold freeF
  by_cases c : judgeF f r ≠ 0
  · rw [if_pos c]
  · rw [if_neg c]
    have hj : judgeF f r = 0 := Decidable.not_not.1 c
    rw [hj]
    by_cases c2 : gen f (r % 65536) = 281474976710655
    · simp only [if_pos c2]
    · simp only [if_neg c2]
theorem freeF_no (f : Nat → Int) (r : Nat) (h : judgeF f r ≠ 0) : (freeF f r).f = f := by
  unfold freeF; rw [if_pos h]
theorem judge_alloc {f f' : Nat → Int} {fl fl' : Nat → List Nat} {x s r0 : Nat} (h : AllocOk f f' fl fl' x s) (hr0 : r0 = ((gen f x).toNat + 1) * 65536 + x) (r : Nat) : judgeF f' r = if r = r0 then 0 else judgeF f r := by
  have hg0 := h.g0
  have hxs := h.xs
  have hs1 := h.s1
  have hgb := h.gb
  have hx1 := h.x1
  have hh : (role f x = 3 ∨ (role f x = 0 ∧ gen f x = boot f)) := h.which.elim (fun q => .inl q.1) (fun q => .inr ⟨q.1, q.2.1⟩)
  obtain ⟨G, hG⟩ : ∃ G : Nat, gen f x = G := ⟨(gen f x).toNat, by omega⟩
  rw [hG] at hr0 hgb hh
  simp only [Int.toNat_natCast] at hr0
  unfold judgeF
  by_cases c : 2 ≤ r % 65536 ∧ r % 65536 < 4096
  · have h1 := h.rl _ c.2
    have h2 := h.gn _ c.2
    have h3 := h.inner (r % 65536)
    unfold IsHead at h3
    rw [hG] at h2
    rw [if_neg (not_not_intro c), if_neg (not_not_intro c), h1, h2, h.bt]
    clear h1 h2
    by_cases hin : x ≤ r % 65536 ∧ r % 65536 < x + s
    · simp only [if_pos hin]
      by_cases e : r % 65536 = x
      · simp only [if_pos e]
        rw [e, hG]
        clear h3
        (repeat' split) <;> first | rfl | omega | (exfalso; simp_all; done)
      · simp only [if_neg e]
        have h4 := h3 (by omega) hin.2
        clear h3
        have hne : r ≠ r0 := by omega
        rw [if_neg hne, if_pos (by omega), if_pos h4]
    · have hne : r ≠ r0 := by omega
      simp only [if_neg hin, if_neg hne]
  · have hne : r ≠ r0 := by omega
    rw [if_pos c, if_neg hne, if_pos c]
theorem judge_free {f f' : Nat → Int} {fl fl' : Nat → List Nat} {s r0 : Nat} (hj : judgeF f r0 = 0) (h : FreeOk f f' fl fl' (r0 % 65536) s) (r : Nat) : judgeF f' r = if r = r0 then 6 else judgeF f r := by
  obtain ⟨l1, l2, l3⟩ := judge_live hj
  have ha := judge_addr hj
  have hs1 := h.s1
  have hxs := h.xs
  unfold judgeF
  by_cases c : 2 ≤ r % 65536 ∧ r % 65536 < 4096
  · have h1 := h.rl _ c.2
    have h2 := h.gn _ c.2
    rw [if_neg (not_not_intro c), if_neg (not_not_intro c), h1, h2, h.bt]
    clear h1 h2
    by_cases hin : r0 % 65536 ≤ r % 65536 ∧ r % 65536 < r0 % 65536 + s
    · simp only [if_pos hin]
      by_cases e : r % 65536 = r0 % 65536
      · simp only [if_pos e]
        have hR : (if gen f (r0 % 65536) = 281474976710655 then (5 : Int) else 3) = 5 ∨ (if gen f (r0 % 65536) = 281474976710655 then (5 : Int) else 3) = 3 := by split <;> simp
        generalize (if gen f (r0 % 65536) = 281474976710655 then (5 : Int) else 3) = R at hR
        rw [e, l1, l3]
        (repeat' split) <;> first | rfl | omega
      · simp only [if_neg e]
        have hb := h.body (r % 65536) (by omega) hin.2
        have hne : r ≠ r0 := by rintro rfl; exact e rfl
        have hR : (if gen f (r0 % 65536) = 281474976710655 then (6 : Int) else 4) = 6 ∨ (if gen f (r0 % 65536) = 281474976710655 then (6 : Int) else 4) = 4 := by split <;> simp
        generalize (if gen f (r0 % 65536) = 281474976710655 then (6 : Int) else 4) = R at hR
        rw [if_neg hne, if_pos (by omega), if_pos (by omega)]
    · have hne : r ≠ r0 := by rintro rfl; omega
      simp only [if_neg hin, if_neg hne]
  · have hne : r ≠ r0 := by rintro rfl; omega
    rw [if_pos c, if_neg hne, if_pos c]

end Go.Proofs.Qxb6500913a

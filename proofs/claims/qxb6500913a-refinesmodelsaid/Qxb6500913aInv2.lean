import Derived.Test.Qxb6500913aInv1
namespace Go.Proofs.Qxb6500913a
open Go.Eng
set_option linter.unusedVariables false
set_option linter.unusedSimpArgs false

def Chain (f : Nat → Int) : Int → List Nat → Prop
  | h, [] => h = 0
  | h, x :: l => h = (x : Int) ∧ x ≠ 0 ∧ Chain f (nxt f x) l
theorem chain_congr {f f' : Nat → Int} : ∀ {l : List Nat} {h : Int}, (∀ y, y ∈ l → nxt f' y = nxt f y) → Chain f h l → Chain f' h l
  | [], _, _, hc => hc
  | x :: l, _, hn, hc => ⟨hc.1, hc.2.1, by rw [hn x (List.mem_cons_self ..)]; exact chain_congr (fun y hy => hn y (List.mem_cons_of_mem _ hy)) hc.2.2⟩
/-- the first cell of a node -/
def IsHead (r : Int) : Prop := r = 1 ∨ r = 3 ∨ r = 5
structure HeadAt (f : Nat → Int) (fr b : Int) (d s : Nat) : Prop where
  size : sz f d = s
  lo : 2 ≤ s
  hi : s ≤ 32
  even : s % 2 = 0
  even' : d % 2 = 0
  ge : 2 ≤ d
  le : (d : Int) + s ≤ fr
  body : ∀ i, 1 ≤ i → i < s → role f (d + i) = role f d + 1 ∧ gen f (d + i) = gen f d
  glo : b < gen f d
  ghi : gen f d ≤ 281474976710655
  free : role f d = 3 → gen f d < 281474976710655
  spent : role f d = 5 → gen f d = 281474976710655
def Heads (f : Nat → Int) (fr b : Int) : Prop := ∀ d, d < 4096 → IsHead (role f d) → ∃ s, HeadAt f fr b d s
theorem heads_upd {f f' : Nat → Int} {fr fr' b : Int} {x s : Nat} {r G : Int} (H : Heads f fr b)
    (hdis : ∀ d, d < 4096 → IsHead (role f d) → d ≠ x → ∀ t : Nat, sz f d = t → d + t ≤ x ∨ x + s ≤ d)
    (hrole : ∀ d, d < 4096 → role f' d = if x ≤ d ∧ d < x + s then (if d = x then r else r + 1) else role f d)
    (hgen : ∀ d, d < 4096 → gen f' d = if x ≤ d ∧ d < x + s then G else gen f d)
    (hsz : ∀ d, d < 4096 → sz f' d = if d = x then (s : Int) else sz f d)
    (hr : IsHead r) (s1 : 2 ≤ s) (s2 : s ≤ 32) (s3 : s % 2 = 0) (x1 : x % 2 = 0) (x2 : 2 ≤ x) (hxs : (x : Int) + s ≤ fr') (hfr : fr ≤ fr') (hfr' : fr' ≤ 4096)
    (g1 : b < G) (g2 : G ≤ 281474976710655) (g3 : r = 3 → G < 281474976710655) (g4 : r = 5 → G = 281474976710655) : Heads f' fr' b := by
  intro d hd hh
  have hx4 : x + s ≤ 4096 := by omega
  by_cases e : d = x
  · subst e
    have r0 : role f' d = r := by rw [hrole d hd, if_pos (by omega), if_pos rfl]
    have g0 : gen f' d = G := by rw [hgen d hd, if_pos (by omega)]
    refine ⟨s, ⟨by rw [hsz d hd, if_pos rfl], s1, s2, s3, x1, x2, hxs, fun i i1 i2 => ?_, by rw [g0]; exact g1, by rw [g0]; exact g2, by rw [r0, g0]; exact g3, by rw [r0, g0]; exact g4⟩⟩
    rw [r0, g0, hrole (d + i) (by omega), hgen (d + i) (by omega), if_pos (by omega), if_neg (by omega), if_pos (by omega)]
    exact ⟨rfl, rfl⟩
  · have hn : ¬ (x ≤ d ∧ d < x + s) := by
      intro hin
      rw [hrole d hd, if_pos hin, if_neg e] at hh
      rcases hr with rfl | rfl | rfl <;> rcases hh with h | h | h <;> omega
    have r0 : role f' d = role f d := by rw [hrole d hd, if_neg hn]
    have g0 : gen f' d = gen f d := by rw [hgen d hd, if_neg hn]
    rw [r0] at hh
    obtain ⟨t, ht⟩ := H d hd hh
    have hap := hdis d hd hh e t ht.size
    refine ⟨t, ⟨by rw [hsz d hd, if_neg e]; exact ht.size, ht.lo, ht.hi, ht.even, ht.even', ht.ge, by have := ht.le; omega, fun i i1 i2 => ?_, by rw [g0]; exact ht.glo, by rw [g0]; exact ht.ghi, by rw [r0, g0]; exact ht.free, by rw [r0, g0]; exact ht.spent⟩⟩
    have hle := ht.le
    have hb := ht.body i i1 i2
    rw [r0, g0, hrole (d + i) (by omega), hgen (d + i) (by omega), if_neg (by omega), if_neg (by omega)]
    exact hb

structure Inv (f : Nat → Int) (fl : Nat → List Nat) (k : Nat) : Prop where
  words : ∀ i : Nat, i < 4096 → Fits .u64 (word f i)
  bootR : 0 ≤ boot f ∧ boot f ≤ 281474976710655
  fr : ∃ x : Nat, fresh f = x ∧ 2 ≤ x ∧ x ≤ 4096 ∧ x % 2 = 0
  unt : ∀ d : Nat, d < 4096 → ((d : Int) < 2 ∨ fresh f ≤ d) → role f d = 0 ∧ gen f d = boot f ∧ nxt f d = 0 ∧ sz f d = 0
  head : Heads f (fresh f) (boot f)
  roles : ∀ d : Nat, d < 4096 → 0 ≤ role f d ∧ role f d ≤ 6
  gens : ∀ d : Nat, d < 4096 → 0 ≤ gen f d ∧ gen f d ≤ 281474976710655
  nxts : ∀ d : Nat, d < 4096 → 0 ≤ nxt f d ∧ nxt f d ≤ 4095
  szs : ∀ d : Nat, d < 4096 → 0 ≤ sz f d ∧ sz f d ≤ 32
  chain : ∀ c : Nat, c < 16 → Chain f (lst f c) (fl c)
  mem : ∀ c : Nat, c < 16 → ∀ x : Nat, x ∈ fl c → x < 4096 ∧ role f x = 3 ∧ sz f x = 2 * ((c : Int) + 1)
  nodup : ∀ c : Nat, c < 16 → (fl c).Nodup
  all : ∀ d : Nat, d < 4096 → role f d = 3 → ∀ c : Nat, c < 16 → sz f d = 2 * ((c : Int) + 1) → d ∈ fl c
  cn1 : -(5000 + 32 * (k : Int)) ≤ cnLive f ∧ cnLive f ≤ 5000 + 32 * k
  cn2 : -(5000 + 32 * (k : Int)) ≤ cnFree f ∧ cnFree f ≤ 5000 + 32 * k
  cn3 : -(5000 + 32 * (k : Int)) ≤ cnSpent f ∧ cnSpent f ≤ 5000 + 32 * k
  cn4 : -(5000 + 32 * (k : Int)) ≤ cnUnt f ∧ cnUnt f ≤ 5000 + 32 * k
  cn0 : cnNil f = 2

theorem Inv.apart {f : Nat → Int} {fl : Nat → List Nat} {k : Nat} (h : Inv f fl k) {x s : Nat} (hx : x < 4096) (hr : IsHead (role f x)) (hs : HeadAt f (fresh f) (boot f) x s) :
    ∀ d, d < 4096 → IsHead (role f d) → d ≠ x → ∀ t : Nat, sz f d = t → d + t ≤ x ∨ x + s ≤ d := by
  intro d hd hdr hne t ht
  obtain ⟨t', ht'⟩ := h.head d hd hdr
  have e : t' = t := by have := ht'.size; omega
  subst e
  rcases Nat.lt_or_ge d x with c | c
  · rcases Nat.lt_or_ge x (d + t') with c2 | c2
    · have := (ht'.body (x - d) (by omega) (by omega)).1
      rw [show d + (x - d) = x by omega] at this
      rcases hr with a | a | a <;> rcases hdr with b | b | b <;> omega
    · exact .inl c2
  · rcases Nat.lt_or_ge d (x + s) with c2 | c2
    · have := (hs.body (d - x) (by omega) (by omega)).1
      rw [show x + (d - x) = d by omega] at this
      rcases hr with a | a | a <;> rcases hdr with b | b | b <;> omega
    · exact .inr c2

theorem Inv.wf {f : Nat → Int} {fl : Nat → List Nat} {k : Nat} (h : Inv f fl k) (hk : k ≤ 1000000) : Wf f := by
  intro i hi
  by_cases c1 : i < 4096
  · have := h.words i c1
    unfold kindAt; rw [if_pos c1]; exact this
  by_cases c2 : i < 20480
  · have hd : (i - 4096) / 4 < 4096 := by omega
    by_cases m0 : i % 4 = 0
    · have := h.gens _ hd
      unfold gen at this; rw [show 4096 + (i - 4096) / 4 * 4 = i by omega] at this
      unfold kindAt; rw [if_neg c1, if_pos c2, if_pos m0]; simp only [Fits]; omega
    by_cases m1 : i % 4 = 1
    · have := h.nxts _ hd
      unfold nxt at this; rw [show 4096 + (i - 4096) / 4 * 4 + 1 = i by omega] at this
      unfold kindAt; rw [if_neg c1, if_pos c2, if_neg m0, if_pos m1]; simp only [Fits]; omega
    by_cases m2 : i % 4 = 2
    · have := h.szs _ hd
      unfold sz at this; rw [show 4096 + (i - 4096) / 4 * 4 + 2 = i by omega] at this
      unfold kindAt; rw [if_neg c1, if_pos c2, if_neg m0, if_neg m1]; simp only [Fits]; omega
    · have := h.roles _ hd
      unfold role at this; rw [show 4096 + (i - 4096) / 4 * 4 + 3 = i by omega] at this
      unfold kindAt; rw [if_neg c1, if_pos c2, if_neg m0, if_neg m1]; simp only [Fits]; omega
  by_cases c3 : i < 20496
  · have hc := h.chain (i - 20480) (by omega)
    unfold lst at hc; rw [show 20480 + (i - 20480) = i by omega] at hc
    unfold kindAt; rw [if_neg c1, if_neg c2, if_pos (by omega)]
    simp only [Fits]
    cases hfl : fl (i - 20480) with
    | nil => rw [hfl] at hc; simp only [Chain] at hc; omega
    | cons x l =>
      rw [hfl] at hc
      have := (h.mem (i - 20480) (by omega) x (by rw [hfl]; exact List.mem_cons_self ..)).1
      have := hc.1
      omega
  obtain ⟨x, h1, h2, h3, _⟩ := h.fr
  unfold fresh at h1
  have hb := h.bootR
  unfold boot at hb
  have d0 := h.cn0
  have d1 := h.cn1
  have d2 := h.cn2
  have d3 := h.cn3
  have d4 := h.cn4
  unfold cnNil at d0
  unfold cnLive at d1
  unfold cnFree at d2
  unfold cnSpent at d3
  unfold cnUnt at d4
  unfold kindAt; rw [if_neg c1, if_neg c2]
  by_cases e1 : i = 20496
  · subst e1; rw [if_pos (by omega)]; simp only [Fits]; omega
  rw [if_neg (by omega)]
  by_cases e2 : i = 20497
  · subst e2; rw [if_pos (by omega)]; simp only [Fits]; omega
  rw [if_neg (by omega)]
  simp only [Fits]
  by_cases e3 : i = 20498
  · subst e3; omega
  by_cases e4 : i = 20499
  · subst e4; omega
  by_cases e5 : i = 20500
  · subst e5; omega
  by_cases e6 : i = 20501
  · subst e6; omega
  have e7 : i = 20502 := by omega
  subst e7; omega

theorem Inv.good {f : Nat → Int} {fl : Nat → List Nat} {k : Nat} (h : Inv f fl k) (hk : k ≤ 1000000) : Good f := by
  obtain ⟨x, h1, h2, h3, h4⟩ := h.fr
  refine ⟨fun c hc => ?_, ⟨x, h1, h2, h3, fun d d1 d2 => (h.unt d d2 (.inr (by omega))).2.1⟩, h.bootR, fun r hr => ?_, ?_, ?_, ?_, ?_⟩
  · have hch := h.chain c hc
    cases hfl : fl c with
    | nil => rw [hfl] at hch; exact .inl hch
    | cons y l =>
      rw [hfl] at hch
      obtain ⟨m1, m2, m3⟩ := h.mem c hc y (by rw [hfl]; exact List.mem_cons_self ..)
      obtain ⟨s, hs⟩ := h.head y m1 (.inr (.inl m2))
      have e := hs.size
      have es : s = 2 * (c + 1) := by omega
      refine .inr ⟨y, hch.1, hs.ge, by have := hs.le; omega, fun d d1 d2 => ?_⟩
      have g := hs.free m2
      have gl := hs.glo
      have hb := h.bootR
      by_cases ed : d = y
      · subst ed; omega
      · have := (hs.body (d - y) (by omega) (by omega)).2
        rw [show y + (d - y) = d by omega] at this
        omega
  · have ha := judge_addr hr
    have hj := hr
    unfold judgeF at hj
    rw [if_neg (by omega)] at hj
    split at hj
    · cases hj
    · rename_i hroles
      obtain ⟨s, hs⟩ := h.head (r % 65536) ha.2 (Classical.not_not.1 hroles)
      exact ⟨s, hs.size, hs.lo, hs.hi, by have := hs.le; omega⟩
  · have := h.cn1; omega
  · have := h.cn2; omega
  · have := h.cn3; omega
  · have := h.cn4; omega

end Go.Proofs.Qxb6500913a

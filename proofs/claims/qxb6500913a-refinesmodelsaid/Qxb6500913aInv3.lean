import Derived.Test.Qxb6500913aInv2
namespace Go.Proofs.Qxb6500913a
open Go.Eng
set_option linter.unusedVariables false
set_option linter.unusedSimpArgs false

theorem Inv.mono {f : Nat → Int} {fl : Nat → List Nat} {k : Nat} (h : Inv f fl k) : Inv f fl (k + 1) :=
  ⟨h.words, h.bootR, h.fr, h.unt, h.head, h.roles, h.gens, h.nxts, h.szs, h.chain, h.mem, h.nodup, h.all,
   by have := h.cn1; omega, by have := h.cn2; omega, by have := h.cn3; omega, by have := h.cn4; omega, h.cn0⟩

structure SameBut (f f' : Nat → Int) : Prop where
  gen : ∀ d, d < 4096 → gen f' d = gen f d
  nxt : ∀ d, d < 4096 → nxt f' d = nxt f d
  sz : ∀ d, d < 4096 → sz f' d = sz f d
  role : ∀ d, d < 4096 → role f' d = role f d
  lst : ∀ d, d < 16 → lst f' d = lst f d
  fresh : fresh f' = fresh f
  boot : boot f' = boot f
  cn0 : cnNil f' = cnNil f
  cn1 : cnLive f' = cnLive f
  cn2 : cnFree f' = cnFree f
  cn3 : cnSpent f' = cnSpent f
  cn4 : cnUnt f' = cnUnt f

theorem SameBut.refl (f : Nat → Int) : SameBut f f :=
  ⟨fun _ _ => rfl, fun _ _ => rfl, fun _ _ => rfl, fun _ _ => rfl, fun _ _ => rfl, rfl, rfl, rfl, rfl, rfl, rfl, rfl⟩

theorem SameBut.trans {f g h : Nat → Int} (a : SameBut f g) (b : SameBut g h) : SameBut f h :=
  ⟨fun d hd => (b.gen d hd).trans (a.gen d hd), fun d hd => (b.nxt d hd).trans (a.nxt d hd), fun d hd => (b.sz d hd).trans (a.sz d hd), fun d hd => (b.role d hd).trans (a.role d hd), fun d hd => (b.lst d hd).trans (a.lst d hd), b.fresh.trans a.fresh, b.boot.trans a.boot, b.cn0.trans a.cn0, b.cn1.trans a.cn1, b.cn2.trans a.cn2, b.cn3.trans a.cn3, b.cn4.trans a.cn4⟩

theorem SameBut.set (f : Nat → Int) (x : Nat) (y : Int) (hx : x < 4096) : SameBut f (setWord f x y) := by
  constructor
  · intro d hd; rw [gen_setWord] <;> omega
  · intro d hd; rw [nxt_setWord] <;> omega
  · intro d hd; rw [sz_setWord] <;> omega
  · intro d hd; rw [role_setWord] <;> omega
  · intro d hd; rw [lst_setWord] <;> omega
  · rw [fresh_setWord] <;> omega
  · rw [boot_setWord] <;> omega
  · rw [cnNil_setWord] <;> omega
  · rw [cnLive_setWord] <;> omega
  · rw [cnFree_setWord] <;> omega
  · rw [cnSpent_setWord] <;> omega
  · rw [cnUnt_setWord] <;> omega

theorem Inv.words_only {f f' : Nat → Int} {fl : Nat → List Nat} {k : Nat} (h : Inv f fl k) (e : SameBut f f') (hw : ∀ i : Nat, i < 4096 → Fits .u64 (word f' i)) : Inv f' fl k where
  words := hw
  bootR := by rw [e.boot]; exact h.bootR
  fr := by rw [e.fresh]; exact h.fr
  unt := by intro d hd; rw [e.fresh, e.role d hd, e.gen d hd, e.nxt d hd, e.sz d hd, e.boot]; exact h.unt d hd
  head := by
    intro d hd hr
    rw [e.role d hd] at hr
    obtain ⟨s, hs⟩ := h.head d hd hr
    have hle := hs.le
    obtain ⟨y, e1, _, e3, _⟩ := h.fr
    refine ⟨s, ⟨by rw [e.sz d hd]; exact hs.size, hs.lo, hs.hi, hs.even, hs.even', hs.ge, by rw [e.fresh]; exact hs.le, fun i i1 i2 => ?_, ?_, ?_, ?_, ?_⟩⟩
    · rw [e.role d hd, e.gen d hd, e.role _ (by omega), e.gen _ (by omega)]; exact hs.body i i1 i2
    · rw [e.boot, e.gen d hd]; exact hs.glo
    · rw [e.gen d hd]; exact hs.ghi
    · rw [e.gen d hd, e.role d hd]; exact hs.free
    · rw [e.gen d hd, e.role d hd]; exact hs.spent
  roles := by intro d hd; rw [e.role d hd]; exact h.roles d hd
  gens := by intro d hd; rw [e.gen d hd]; exact h.gens d hd
  nxts := by intro d hd; rw [e.nxt d hd]; exact h.nxts d hd
  szs := by intro d hd; rw [e.sz d hd]; exact h.szs d hd
  chain := by
    intro c hc
    rw [e.lst c hc]
    exact chain_congr (fun y hy => e.nxt y (h.mem c hc y hy).1) (h.chain c hc)
  mem := by
    intro c hc x hx
    obtain ⟨m1, m2, m3⟩ := h.mem c hc x hx
    rw [e.role x m1, e.sz x m1]; exact ⟨m1, m2, m3⟩
  nodup := h.nodup
  all := by intro d hd; rw [e.role d hd, e.sz d hd]; exact h.all d hd
  cn1 := by rw [e.cn1]; exact h.cn1
  cn2 := by rw [e.cn2]; exact h.cn2
  cn3 := by rw [e.cn3]; exact h.cn3
  cn4 := by rw [e.cn4]; exact h.cn4
  cn0 := by rw [e.cn0]; exact h.cn0

theorem Inv.setWord {f : Nat → Int} {fl : Nat → List Nat} {k : Nat} (h : Inv f fl k) (x : Nat) (y : Int) (hx : x < 4096) (hy : Fits .u64 y) : Inv (setWord f x y) fl k := by
  refine h.words_only (SameBut.set f x y hx) (fun i hi => ?_)
  rw [word_setWord]
  split
  · exact hy
  · exact h.words i hi

theorem Inv.upd {f f' : Nat → Int} {fl fl' : Nat → List Nat} {k : Nat} (h : Inv f fl k) {x s fr' : Nat} {r G : Int}
    (hw : ∀ d, d < 4096 → word f' d = word f d) (hb : boot f' = boot f) (hfr : fresh f' = fr') (hfr1 : fresh f ≤ fr') (hfr2 : fr' ≤ 4096) (hfr3 : fr' % 2 = 0)
    (hdis : ∀ d, d < 4096 → IsHead (role f d) → d ≠ x → ∀ t : Nat, sz f d = t → d + t ≤ x ∨ x + s ≤ d)
    (hrole : ∀ d, d < 4096 → role f' d = if x ≤ d ∧ d < x + s then (if d = x then r else r + 1) else role f d)
    (hgen : ∀ d, d < 4096 → gen f' d = if x ≤ d ∧ d < x + s then G else gen f d)
    (hsz : ∀ d, d < 4096 → sz f' d = if d = x then (s : Int) else sz f d)
    (hr : IsHead r) (s1 : 2 ≤ s) (s2 : s ≤ 32) (s3 : s % 2 = 0) (x1 : x % 2 = 0) (x2 : 2 ≤ x) (hxs : x + s ≤ fr')
    (g1 : boot f < G) (g2 : G ≤ 281474976710655) (g3 : r = 3 → G < 281474976710655) (g4 : r = 5 → G = 281474976710655)
    (hnx : ∀ d, d < 4096 → 0 ≤ nxt f' d ∧ nxt f' d ≤ 4095) (hnu : ∀ d, d < 4096 → d ≠ x → nxt f' d = nxt f d)
    (chain : ∀ c, c < 16 → Chain f' (lst f' c) (fl' c))
    (mem : ∀ c, c < 16 → ∀ y, y ∈ fl' c → y < 4096 ∧ role f' y = 3 ∧ sz f' y = 2 * ((c : Int) + 1))
    (nodup : ∀ c, c < 16 → (fl' c).Nodup)
    (all : ∀ d, d < 4096 → role f' d = 3 → ∀ c : Nat, c < 16 → sz f' d = 2 * ((c : Int) + 1) → d ∈ fl' c)
    (c1 : cnLive f - 32 ≤ cnLive f' ∧ cnLive f' ≤ cnLive f + 32) (c2 : cnFree f - 32 ≤ cnFree f' ∧ cnFree f' ≤ cnFree f + 32)
    (c3 : cnSpent f - 32 ≤ cnSpent f' ∧ cnSpent f' ≤ cnSpent f + 32) (c4 : cnUnt f - 32 ≤ cnUnt f' ∧ cnUnt f' ≤ cnUnt f + 32) (c0 : cnNil f' = cnNil f) :
    Inv f' fl' (k + 1) where
  words := by intro d hd; rw [hw d hd]; exact h.words d hd
  bootR := by rw [hb]; exact h.bootR
  fr := ⟨fr', hfr, by omega, hfr2, hfr3⟩
  unt := by
    intro d hd hx
    rw [hfr] at hx
    have hn : ¬ (x ≤ d ∧ d < x + s) := by omega
    rw [hrole d hd, hgen d hd, hsz d hd, hnu d hd (by omega), if_neg hn, if_neg hn, if_neg (by omega), hb]
    exact h.unt d hd (by omega)
  head := by rw [hfr, hb]; exact heads_upd h.head hdis hrole hgen hsz hr s1 s2 s3 x1 x2 (by omega) (by omega) (by omega) g1 g2 g3 g4
  roles := by
    intro d hd
    have := h.roles d hd
    rw [hrole d hd]
    rcases hr with e | e | e <;> (repeat' split) <;> omega
  gens := by
    intro d hd
    have := h.gens d hd
    have := h.bootR
    rw [hgen d hd]
    split <;> omega
  nxts := hnx
  szs := by
    intro d hd
    have := h.szs d hd
    rw [hsz d hd]
    split <;> omega
  chain := chain
  mem := mem
  nodup := nodup
  all := all
  cn1 := by have := h.cn1; omega
  cn2 := by have := h.cn2; omega
  cn3 := by have := h.cn3; omega
  cn4 := by have := h.cn4; omega
  cn0 := by rw [c0]; exact h.cn0

theorem Inv.pop {f : Nat → Int} {fl : Nat → List Nat} {k : Nat} (h : Inv f fl k) {x s : Nat} (s1 : 2 ≤ s) (s2 : s ≤ 32) (s3 : s % 2 = 0) (hx : lst f (s / 2 - 1) = x) (hx0 : x ≠ 0) :
    x < 4096 ∧ role f x = 3 ∧ sz f x = s ∧ HeadAt f (fresh f) (boot f) x s ∧ ∃ l, fl (s / 2 - 1) = x :: l ∧ Inv (handF (popF f x s) x s) (fun c => if c = s / 2 - 1 then l else fl c) (k + 1) := by
  have hc : s / 2 - 1 < 16 := by omega
  have hch := h.chain _ hc
  cases hfl : fl (s / 2 - 1) with
  | nil => rw [hfl] at hch; simp only [Chain] at hch; omega
  | cons y l =>
    rw [hfl] at hch
    have e := hch.1
    have e' : y = x := by omega
    subst e'
    obtain ⟨m1, m2, m3⟩ := h.mem _ hc y (by rw [hfl]; exact List.mem_cons_self ..)
    obtain ⟨t, ht⟩ := h.head y m1 (.inr (.inl m2))
    have et : t = s := by have := ht.size; omega
    subst et
    have hap := h.apart m1 (.inr (.inl m2)) ht
    have hle := ht.le
    obtain ⟨fr, q1, q2, q3, q4⟩ := h.fr
    have hbd : ∀ d, y ≤ d → d < y + t → gen f d = gen f y := by
      intro d d1 d2
      by_cases c : d = y
      · rw [c]
      · have := (ht.body (d - y) (by omega) (by omega)).2
        rw [show y + (d - y) = d by omega] at this
        exact this
    have hnd := h.nodup _ hc
    rw [hfl] at hnd
    have hnot : y ∉ l := (List.nodup_cons.1 hnd).1
    have hother : ∀ c, c < 16 → c ≠ t / 2 - 1 → y ∉ fl c := by
      intro c c1 c2 hm
      have := (h.mem c c1 y hm).2.2
      omega
    have hout : ∀ d, d < 4096 → role f d = 3 → d ≠ y → ¬ (y ≤ d ∧ d < y + t) := by
      intro d d1 d2 d3 d4
      obtain ⟨u, hu⟩ := h.head d d1 (.inr (.inl d2))
      have := hap d d1 (.inr (.inl d2)) d3 u hu.size
      have := hu.lo
      omega
    have hchl : ∀ c, c < 16 → Chain (handF (popF f y t) y t) (lst (handF (popF f y t) y t) c) (if c = t / 2 - 1 then l else fl c) := by
      intro c hc'
      rw [lst_A1 f y t c m1 s2 hc']
      by_cases ec : c = t / 2 - 1
      · rw [if_pos ec, if_pos ec]
        refine chain_congr (fun z hz => ?_) hch.2.2
        rw [nxt_A1 f y t z m1 s2 (h.mem _ hc z (by rw [hfl]; exact List.mem_cons_of_mem _ hz)).1, if_neg (fun e : z = y => hnot (e ▸ hz))]
      · rw [if_neg ec, if_neg ec]
        refine chain_congr (fun z hz => ?_) (h.chain c hc')
        rw [nxt_A1 f y t z m1 s2 (h.mem _ hc' z hz).1, if_neg (fun e : z = y => hother c hc' ec (e ▸ hz))]
    refine ⟨m1, m2, ht.size, ht, l, rfl, ?_⟩
    refine h.upd (x := y) (s := t) (fr' := fr) (r := 1) (G := gen f y + 1) (fun d hd => word_A1 f y t d m1 s2 hd) (boot_A1 f y t m1 s2) (by rw [fresh_A1 f y t m1 s2]; exact q1) (by omega) q3 q4 hap (fun d hd => role_A1 f y t d m1 s2 hd) ?_ ?_ (.inl rfl) s1 s2 s3 ht.even' ht.ge (by omega) (by have := ht.glo; omega) (by have := ht.free m2; omega) (fun e => by omega) (fun e => by omega) ?_ ?_ hchl ?_ ?_ ?_ ?_ ?_ ?_ ?_ (cnNil_A1 f y t m1 s2)
    · intro d hd
      rw [gen_A1 f y t d m1 s2 hd]
      split
      · rw [hbd d (by omega) (by omega)]
      · rfl
    · intro d hd
      rw [sz_A1 f y t d m1 s2 hd]
      split
      · rename_i e; rw [e]; exact ht.size
      · rfl
    · intro d hd
      rw [nxt_A1 f y t d m1 s2 hd]
      have := h.nxts d hd
      split <;> omega
    · intro d hd hne
      rw [nxt_A1 f y t d m1 s2 hd, if_neg hne]
    · intro c hc' z hz
      have hz' : z ∈ fl c ∧ z ≠ y := by
        by_cases ec : c = t / 2 - 1
        · rw [if_pos ec] at hz
          exact ⟨by rw [ec, hfl]; exact List.mem_cons_of_mem _ hz, fun e => hnot (e ▸ hz)⟩
        · rw [if_neg ec] at hz
          exact ⟨hz, fun e => hother c hc' ec (e ▸ hz)⟩
      obtain ⟨n1, n2, n3⟩ := h.mem c hc' z hz'.1
      rw [role_A1 f y t z m1 s2 n1, sz_A1 f y t z m1 s2 n1, if_neg (hout z n1 n2 hz'.2)]
      exact ⟨n1, n2, n3⟩
    · intro c hc'
      show (if c = t / 2 - 1 then l else fl c).Nodup
      split
      · exact (List.nodup_cons.1 hnd).2
      · exact h.nodup c hc'
    · intro d hd hr c hc' hs
      rw [role_A1 f y t d m1 s2 hd] at hr
      rw [sz_A1 f y t d m1 s2 hd] at hs
      by_cases hin : y ≤ d ∧ d < y + t
      · rw [if_pos hin] at hr
        split at hr <;> omega
      · rw [if_neg hin] at hr
        have := h.all d hd hr c hc' hs
        show d ∈ if c = t / 2 - 1 then l else fl c
        split
        · rename_i e
          rw [e, hfl] at this
          rcases List.mem_cons.1 this with e2 | e2
          · omega
          · exact e2
        · exact this
    · rw [cnLive_A1 f y t m1 s2]; omega
    · rw [cnFree_A1 f y t m1 s2]; omega
    · rw [cnSpent_A1 f y t m1 s2]; omega
    · rw [cnUnt_A1 f y t m1 s2]; omega

theorem Inv.carve {f : Nat → Int} {fl : Nat → List Nat} {k : Nat} (h : Inv f fl k) {x s : Nat} (s1 : 2 ≤ s) (s2 : s ≤ 32) (s3 : s % 2 = 0) (hx : fresh f = x) (hxs : x + s ≤ 4096) (hb : boot f < 281474976710655) :
    Inv (handF (carveF f x s) x s) fl (k + 1) := by
  obtain ⟨fr, q1, q2, q3, q4⟩ := h.fr
  have e : fr = x := by omega
  subst e
  have m1 : fr < 4096 := by omega
  have hu := h.unt fr m1 (.inr (by omega))
  have hout : ∀ d, d < 4096 → role f d = 3 → d < fr := by
    intro d d1 d2
    rcases Nat.lt_or_ge d fr with c | c
    · exact c
    · have := (h.unt d d1 (.inr (by omega))).1; omega
  refine h.upd (x := fr) (s := s) (fr' := fr + s) (r := 1) (G := boot f + 1) (fun d hd => word_A2 f fr s d m1 s2 hd) (boot_A2 f fr s m1 s2) (by rw [fresh_A2 f fr s m1 s2]; omega) (by omega) hxs (by omega) ?_ (fun d hd => role_A2 f fr s d m1 s2 hd) ?_ (fun d hd => sz_A2 f fr s d m1 s2 hd) (.inl rfl) s1 s2 s3 q4 q2 (by omega) (by omega) (by omega) (fun e => by omega) (fun e => by omega) ?_ ?_ ?_ ?_ h.nodup ?_ ?_ ?_ ?_ ?_ (cnNil_A2 f fr s m1 s2)
  · intro d hd hr hne t ht
    obtain ⟨t', ht'⟩ := h.head d hd hr
    have := ht'.le
    have := ht'.size
    omega
  · intro d hd
    rw [gen_A2 f fr s d m1 s2 hd]
    split
    · rw [(h.unt d hd (.inr (by omega))).2.1]
    · rfl
  · intro d hd
    rw [nxt_A2 f fr s d m1 s2 hd]; exact h.nxts d hd
  · intro d hd hne
    rw [nxt_A2 f fr s d m1 s2 hd]
  · intro c hc
    rw [lst_A2 f fr s c m1 s2 hc]
    exact chain_congr (fun z hz => nxt_A2 f fr s z m1 s2 (h.mem c hc z hz).1) (h.chain c hc)
  · intro c hc z hz
    obtain ⟨n1, n2, n3⟩ := h.mem c hc z hz
    have := hout z n1 n2
    rw [role_A2 f fr s z m1 s2 n1, sz_A2 f fr s z m1 s2 n1, if_neg (by omega), if_neg (by omega)]
    exact ⟨n1, n2, n3⟩
  · intro d hd hr c hc hs
    rw [role_A2 f fr s d m1 s2 hd] at hr
    rw [sz_A2 f fr s d m1 s2 hd] at hs
    by_cases hin : fr ≤ d ∧ d < fr + s
    · rw [if_pos hin] at hr
      split at hr <;> omega
    · rw [if_neg hin] at hr
      rw [if_neg (by omega)] at hs
      exact h.all d hd hr c hc hs
  · rw [cnLive_A2 f fr s m1 s2]; omega
  · rw [cnFree_A2 f fr s m1 s2]; omega
  · rw [cnSpent_A2 f fr s m1 s2]; omega
  · rw [cnUnt_A2 f fr s m1 s2]; omega

theorem Inv.push {f : Nat → Int} {fl : Nat → List Nat} {k : Nat} (h : Inv f fl k) {x s : Nat} (m1 : x < 4096) (m2 : role f x = 1) (hs : HeadAt f (fresh f) (boot f) x s) (hg : gen f x ≠ 281474976710655) :
    Inv (pushF f x s) (fun c => if c = s / 2 - 1 then x :: fl c else fl c) (k + 1) := by
  have s1 := hs.lo
  have s2 := hs.hi
  have s3 := hs.even
  have hle := hs.le
  have hc : s / 2 - 1 < 16 := by omega
  obtain ⟨fr, q1, q2, q3, q4⟩ := h.fr
  have hap := h.apart m1 (.inl m2) hs
  have hbd : ∀ d, x ≤ d → d < x + s → gen f d = gen f x := by
    intro d d1 d2
    by_cases c : d = x
    · rw [c]
    · have := (hs.body (d - x) (by omega) (by omega)).2
      rw [show x + (d - x) = d by omega] at this
      exact this
  have hno : ∀ c, c < 16 → x ∉ fl c := by
    intro c c1 hm
    have := (h.mem c c1 x hm).2.1
    omega
  have hout : ∀ d, d < 4096 → role f d = 3 → ¬ (x ≤ d ∧ d < x + s) := by
    intro d d1 d2 d4
    obtain ⟨u, hu⟩ := h.head d d1 (.inr (.inl d2))
    have hne : d ≠ x := by intro e; subst e; omega
    have := hap d d1 (.inr (.inl d2)) hne u hu.size
    have := hu.lo
    omega
  have hsz := hs.size
  have hcg : ∀ c, c < 16 → ∀ z, z ∈ fl c → nxt (pushF f x s) z = nxt f z := by
    intro c hc' z hz
    rw [nxt_F1 f x s z m1 s2 (h.mem _ hc' z hz).1, if_neg (fun e : z = x => hno c hc' (e ▸ hz))]
  have hchl : ∀ c, c < 16 → Chain (pushF f x s) (lst (pushF f x s) c) (if c = s / 2 - 1 then x :: fl c else fl c) := by
    intro c hc'
    rw [lst_F1 f x s c m1 s2 hc']
    by_cases ec : c = s / 2 - 1
    · rw [if_pos ec, if_pos ec]
      refine ⟨rfl, by have := hs.ge; omega, ?_⟩
      rw [nxt_F1 f x s x m1 s2 m1, if_pos rfl, ← ec]
      exact chain_congr (hcg c hc') (h.chain c hc')
    · rw [if_neg ec, if_neg ec]
      exact chain_congr (hcg c hc') (h.chain c hc')
  refine h.upd (x := x) (s := s) (fr' := fr) (r := 3) (G := gen f x) (fun d hd => word_F1 f x s d m1 s2 hd) (boot_F1 f x s m1 s2) (by rw [fresh_F1 f x s m1 s2]; exact q1) (by omega) q3 q4 hap (fun d hd => role_F1 f x s d m1 s2 hd) ?_ ?_ (.inr (.inl rfl)) s1 s2 s3 hs.even' hs.ge (by omega) hs.glo hs.ghi (fun _ => by have := hs.ghi; omega) (fun e => by omega) ?_ ?_ hchl ?_ ?_ ?_ ?_ ?_ ?_ ?_ (cnNil_F1 f x s m1 s2)
  · intro d hd
    rw [gen_F1 f x s d m1 s2 hd]
    split
    · rw [hbd d (by omega) (by omega)]
    · rfl
  · intro d hd
    rw [sz_F1 f x s d m1 s2 hd]
    split
    · rename_i e; rw [e]; exact hs.size
    · rfl
  · intro d hd
    rw [nxt_F1 f x s d m1 s2 hd]
    have := h.nxts d hd
    have hw := h.chain _ hc
    split
    · cases hfl : fl (s / 2 - 1) with
      | nil => rw [hfl] at hw; simp only [Chain] at hw; omega
      | cons z l =>
        rw [hfl] at hw
        have := (h.mem _ hc z (by rw [hfl]; exact List.mem_cons_self ..)).1
        have := hw.1
        omega
    · omega
  · intro d hd hne
    rw [nxt_F1 f x s d m1 s2 hd, if_neg hne]
  · intro c hc' z hz
    have key : z = x ∧ c = s / 2 - 1 ∨ z ∈ fl c := by
      by_cases ec : c = s / 2 - 1
      · rw [if_pos ec] at hz
        rcases List.mem_cons.1 hz with e | e
        · exact .inl ⟨e, ec⟩
        · exact .inr e
      · rw [if_neg ec] at hz; exact .inr hz
    rcases key with ⟨e1, e2⟩ | hz'
    · subst e1
      rw [role_F1 f z s z m1 s2 m1, sz_F1 f z s z m1 s2 m1, if_pos (by omega), if_pos rfl]
      exact ⟨m1, rfl, by omega⟩
    · obtain ⟨n1, n2, n3⟩ := h.mem c hc' z hz'
      rw [role_F1 f x s z m1 s2 n1, sz_F1 f x s z m1 s2 n1, if_neg (hout z n1 n2)]
      exact ⟨n1, n2, n3⟩
  · intro c hc'
    show (if c = s / 2 - 1 then x :: fl c else fl c).Nodup
    split
    · exact List.nodup_cons.2 ⟨hno c hc', h.nodup c hc'⟩
    · exact h.nodup c hc'
  · intro d hd hr c hc' hs'
    rw [role_F1 f x s d m1 s2 hd] at hr
    rw [sz_F1 f x s d m1 s2 hd] at hs'
    show d ∈ if c = s / 2 - 1 then x :: fl c else fl c
    by_cases hin : x ≤ d ∧ d < x + s
    · rw [if_pos hin] at hr
      have e : d = x := by split at hr <;> omega
      subst e
      rw [if_pos (by omega)]
      exact List.mem_cons_self ..
    · rw [if_neg hin] at hr
      have := h.all d hd hr c hc' hs'
      split
      · exact List.mem_cons_of_mem _ this
      · exact this
  · rw [cnLive_F1 f x s m1 s2]; omega
  · rw [cnFree_F1 f x s m1 s2]; omega
  · rw [cnSpent_F1 f x s m1 s2]; omega
  · rw [cnUnt_F1 f x s m1 s2]; omega

theorem Inv.spend {f : Nat → Int} {fl : Nat → List Nat} {k : Nat} (h : Inv f fl k) {x s : Nat} (m1 : x < 4096) (m2 : role f x = 1) (hs : HeadAt f (fresh f) (boot f) x s) (hg : gen f x = 281474976710655) :
    Inv (spendF f x s) fl (k + 1) := by
  have s1 := hs.lo
  have s2 := hs.hi
  have s3 := hs.even
  have hle := hs.le
  obtain ⟨fr, q1, q2, q3, q4⟩ := h.fr
  have hap := h.apart m1 (.inl m2) hs
  have hbd : ∀ d, x ≤ d → d < x + s → gen f d = gen f x := by
    intro d d1 d2
    by_cases c : d = x
    · rw [c]
    · have := (hs.body (d - x) (by omega) (by omega)).2
      rw [show x + (d - x) = d by omega] at this
      exact this
  have hout : ∀ d, d < 4096 → role f d = 3 → ¬ (x ≤ d ∧ d < x + s) := by
    intro d d1 d2 d4
    obtain ⟨u, hu⟩ := h.head d d1 (.inr (.inl d2))
    have hne : d ≠ x := by intro e; subst e; omega
    have := hap d d1 (.inr (.inl d2)) hne u hu.size
    have := hu.lo
    omega
  refine h.upd (x := x) (s := s) (fr' := fr) (r := 5) (G := gen f x) (fun d hd => word_F2 f x s d m1 s2 hd) (boot_F2 f x s m1 s2) (by rw [fresh_F2 f x s m1 s2]; exact q1) (by omega) q3 q4 hap (fun d hd => role_F2 f x s d m1 s2 hd) ?_ ?_ (.inr (.inr rfl)) s1 s2 s3 hs.even' hs.ge (by omega) hs.glo hs.ghi (fun e => by omega) (fun _ => hg) ?_ ?_ ?_ ?_ h.nodup ?_ ?_ ?_ ?_ ?_ (cnNil_F2 f x s m1 s2)
  · intro d hd
    rw [gen_F2 f x s d m1 s2 hd]
    split
    · rw [hbd d (by omega) (by omega)]
    · rfl
  · intro d hd
    rw [sz_F2 f x s d m1 s2 hd]
    split
    · rename_i e; rw [e]; exact hs.size
    · rfl
  · intro d hd
    rw [nxt_F2 f x s d m1 s2 hd]; exact h.nxts d hd
  · intro d hd hne
    rw [nxt_F2 f x s d m1 s2 hd]
  · intro c hc
    rw [lst_F2 f x s c m1 s2 hc]
    exact chain_congr (fun z hz => nxt_F2 f x s z m1 s2 (h.mem c hc z hz).1) (h.chain c hc)
  · intro c hc z hz
    obtain ⟨n1, n2, n3⟩ := h.mem c hc z hz
    rw [role_F2 f x s z m1 s2 n1, sz_F2 f x s z m1 s2 n1, if_neg (hout z n1 n2)]
    exact ⟨n1, n2, n3⟩
  · intro d hd hr c hc hs'
    rw [role_F2 f x s d m1 s2 hd] at hr
    rw [sz_F2 f x s d m1 s2 hd] at hs'
    by_cases hin : x ≤ d ∧ d < x + s
    · rw [if_pos hin] at hr
      split at hr <;> omega
    · rw [if_neg hin] at hr
      exact h.all d hd hr c hc hs'
  · rw [cnLive_F2 f x s m1 s2]; omega
  · rw [cnFree_F2 f x s m1 s2]; omega
  · rw [cnSpent_F2 f x s m1 s2]; omega
  · rw [cnUnt_F2 f x s m1 s2]; omega

theorem judge_live {f : Nat → Int} {r : Nat} (h : judgeF f r = 0) : role f (r % 65536) = 1 ∧ boot f < ((r / 65536 : Nat) : Int) ∧ gen f (r % 65536) = ((r / 65536 : Nat) : Int) := by
  have ha := judge_addr h
  unfold judgeF at h
  rw [if_neg (by omega)] at h
  split at h
  · cases h
  split at h
  · cases h
  split at h
  · cases h
  omega

theorem Inv.alloc {f : Nat → Int} {fl : Nat → List Nat} {k : Nat} (h : Inv f fl k) (n : Nat) : ∃ fl', Inv (allocF f n).f fl' (k + 1) := by
  unfold allocF
  by_cases c1 : n = 0 ∨ 32 < n
  · rw [if_pos c1]; exact ⟨fl, h.mono⟩
  rw [if_neg c1]
  obtain ⟨s, hs⟩ : ∃ s, (n + 1) / 2 * 2 = s := ⟨_, rfl⟩
  simp only [hs]
  have s1 : 2 ≤ s := by omega
  have s2 : s ≤ 32 := by omega
  have s3 : s % 2 = 0 := by omega
  by_cases c2 : lst f (s / 2 - 1) ≠ 0
  · rw [if_pos c2]
    obtain ⟨x, hx⟩ : ∃ x : Nat, lst f (s / 2 - 1) = x := by
      have hch := h.chain (s / 2 - 1) (by omega)
      cases hfl : fl (s / 2 - 1) with
      | nil => rw [hfl] at hch; exact absurd hch c2
      | cons y l => rw [hfl] at hch; exact ⟨y, hch.1⟩
    rw [hx]
    obtain ⟨_, _, _, _, l, _, hi⟩ := h.pop s1 s2 s3 hx (by omega)
    exact ⟨_, hi⟩
  rw [if_neg c2]
  by_cases c3 : fresh f + s ≤ 4096 ∧ boot f < 281474976710655
  · rw [if_pos c3]
    obtain ⟨x, hx, _⟩ := h.fr
    rw [hx]
    exact ⟨_, h.carve s1 s2 s3 hx (by omega) c3.2⟩
  · rw [if_neg c3]; exact ⟨fl, h.mono⟩

theorem Inv.freeI {f : Nat → Int} {fl : Nat → List Nat} {k : Nat} (h : Inv f fl k) (r : Nat) : ∃ fl', Inv (freeF f r).f fl' (k + 1) := by
  unfold freeF
  by_cases c1 : judgeF f r ≠ 0
  · rw [if_pos c1]; exact ⟨fl, h.mono⟩
  rw [if_neg c1]
  have hj : judgeF f r = 0 := Decidable.not_not.1 c1
  have ha := judge_addr hj
  obtain ⟨l1, l2, l3⟩ := judge_live hj
  obtain ⟨s, hs⟩ := h.head _ ha.2 (.inl l1)
  simp only [hs.size, Int.toNat_natCast]
  split
  · rename_i e; exact ⟨_, h.spend ha.2 l1 hs e⟩
  · rename_i e; exact ⟨_, h.push ha.2 l1 hs e⟩

theorem fits_nat {n : Nat} (h : n < 18446744073709551616) : Fits .u64 (n : Int) := by
  simp only [Fits]; omega

theorem Inv.do {f : Nat → Int} {fl : Nat → List Nat} {k : Nat} (h : Inv f fl k) {o : MOp} (ho : o.ok) : ∃ fl', Inv (doF f o).f fl' (k + 1) := by
  obtain ⟨_, _, p1, p2, p3, p4⟩ := ho
  unfold doF
  split
  · exact ⟨fl, h.mono⟩
  split
  · refine ⟨fl, ?_⟩
    show Inv (storeF f o.x o.a) fl (k + 1)
    unfold storeF
    split
    · exact (h.setWord _ _ (by omega) (fits_nat p1)).mono
    · exact h.mono
  split
  · refine ⟨fl, ?_⟩
    show Inv (casF f o.x o.a o.b) fl (k + 1)
    unfold casF
    split
    · exact (h.setWord _ _ (by omega) (fits_nat p2)).mono
    · exact h.mono
  split
  · refine ⟨fl, ?_⟩
    show Inv (addF f o.x o.a) fl (k + 1)
    unfold addF
    split
    · exact (h.setWord _ _ (by omega) (fits_wrap _ _)).mono
    · exact h.mono
  split
  · refine ⟨fl, ?_⟩
    show Inv (dcasF f o.x o.a o.b o.c o.d) fl (k + 1)
    unfold dcasF
    split
    · exact ((h.setWord _ _ (by omega) (fits_nat p3)).setWord _ _ (by omega) (fits_nat p4)).mono
    · exact h.mono
  split
  · split
    · exact ⟨fl, h.mono⟩
    · exact h.alloc _
  split
  · exact h.freeI _
  · exact ⟨fl, h.mono⟩

theorem initF_at (g : Int) (j : Nat) : initF g j = if 4096 ≤ j ∧ j < 20480 ∧ j % 4 = 0 then g else if j = 20496 then 2 else if j = 20497 then g else if j = 20498 then 2 else if j = 20502 then 4094 else 0 := by
  unfold initF setCensus setCnUnt setCnSpent setCnFree setCnLive setCnNil initTo newF setBoot setFresh upd zeroF
  dsimp only
  by_cases e1 : j = 20502
  · subst e1; rfl
  rw [if_neg e1]
  by_cases e2 : j = 20501
  · subst e2; rfl
  rw [if_neg e2]
  by_cases e3 : j = 20500
  · subst e3; rfl
  rw [if_neg e3]
  by_cases e4 : j = 20499
  · subst e4; rfl
  rw [if_neg e4]
  by_cases e5 : j = 20498
  · subst e5; rfl
  rw [if_neg e5]
  by_cases e6 : j = 20497
  · subst e6; rfl
  by_cases e7 : j = 20496
  · subst e7; rfl
  rw [if_neg e6, if_neg e7, if_neg e7, if_neg e6, if_neg e5, if_neg e1]
  by_cases e8 : 4096 ≤ j ∧ j < 20480 ∧ j % 4 = 0
  · rw [if_pos e8, if_pos (by omega)]
  · rw [if_neg e8, if_neg (by omega)]

theorem inv_init (g : Int) (h0 : 0 ≤ g) (h1 : g ≤ 281474976710655) : Inv (initF g) (fun _ => []) 0 := by
  have hr : ∀ d, d < 4096 → role (initF g) d = 0 := fun d hd => by
    unfold role; rw [initF_at, if_neg (by omega), if_neg (by omega), if_neg (by omega), if_neg (by omega), if_neg (by omega)]
  have hs : ∀ d, d < 4096 → sz (initF g) d = 0 := fun d hd => by
    unfold sz; rw [initF_at, if_neg (by omega), if_neg (by omega), if_neg (by omega), if_neg (by omega), if_neg (by omega)]
  have hn : ∀ d, d < 4096 → nxt (initF g) d = 0 := fun d hd => by
    unfold nxt; rw [initF_at, if_neg (by omega), if_neg (by omega), if_neg (by omega), if_neg (by omega), if_neg (by omega)]
  have hg : ∀ d, d < 4096 → gen (initF g) d = g := fun d hd => by
    unfold gen; rw [initF_at, if_pos (by omega)]
  have hb : boot (initF g) = g := by
    unfold boot; rw [initF_at, if_neg (by omega), if_neg (by omega), if_pos (by omega)]
  constructor
  · intro i hi
    unfold word; rw [initF_at, if_neg (by omega), if_neg (by omega), if_neg (by omega), if_neg (by omega), if_neg (by omega)]
    simp only [Fits]; omega
  · rw [hb]; exact ⟨h0, h1⟩
  · refine ⟨2, ?_, by omega, by omega, by omega⟩
    unfold fresh; rw [initF_at, if_neg (by omega), if_pos (by omega)]; rfl
  · intro d hd _
    rw [hb]; exact ⟨hr d hd, hg d hd, hn d hd, hs d hd⟩
  · intro d hd hh
    rw [hr d hd] at hh
    rcases hh with e | e | e <;> omega
  · intro d hd; rw [hr d hd]; omega
  · intro d hd; rw [hg d hd]; exact ⟨h0, h1⟩
  · intro d hd; rw [hn d hd]; omega
  · intro d hd; rw [hs d hd]; omega
  · intro c hc
    show lst (initF g) c = 0
    unfold lst; rw [initF_at, if_neg (by omega), if_neg (by omega), if_neg (by omega), if_neg (by omega), if_neg (by omega)]
  · intro c _ x hx; cases hx
  · intro c _; exact List.nodup_nil
  · intro d hd h; rw [hr d hd] at h; omega
  · unfold cnLive; rw [initF_at, if_neg (by omega), if_neg (by omega), if_neg (by omega), if_neg (by omega), if_neg (by omega)]; omega
  · unfold cnFree; rw [initF_at, if_neg (by omega), if_neg (by omega), if_neg (by omega), if_neg (by omega), if_neg (by omega)]; omega
  · unfold cnSpent; rw [initF_at, if_neg (by omega), if_neg (by omega), if_neg (by omega), if_neg (by omega), if_neg (by omega)]; omega
  · unfold cnUnt; rw [initF_at, if_neg (by omega), if_neg (by omega), if_neg (by omega), if_neg (by omega), if_pos (by omega)]; omega
  · unfold cnNil; rw [initF_at, if_neg (by omega), if_neg (by omega), if_neg (by omega), if_pos (by omega)]

end Go.Proofs.Qxb6500913a

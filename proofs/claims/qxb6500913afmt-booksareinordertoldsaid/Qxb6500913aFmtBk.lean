import Derived.Test.Qxb6500913aFmtL1
namespace Go.Proofs.Qxb6500913aFmt
open Go.Eng
set_option linter.unusedVariables false
set_option linter.unusedSimpArgs false

/-! the books: the nodes tile the arena, the census is their sum -/
def Tile (f : Nat → Int) : Nat → Nat → List Nat → Prop
  | a, e, [] => a = e
  | a, e, x :: l => x = a ∧ IsHead (role f a) ∧ a < e ∧ 0 < sz f a ∧ Tile f (a + (sz f a).toNat) e l
def tot (f : Nat → Int) (q : Int) : List Nat → Int
  | [] => 0
  | x :: l => (if role f x = q then sz f x else 0) + tot f q l
theorem Tile.ge {f : Nat → Int} {e : Nat} : ∀ {l : List Nat} {a : Nat}, Tile f a e l → ∀ x, x ∈ l → a ≤ x ∧ x < e ∧ IsHead (role f x)
  | [], _, _, x, hx => by cases hx
  | y :: l, a, ⟨h1, h2, h3, h4, h5⟩, x, hx => by
    subst h1
    rcases List.mem_cons.1 hx with rfl | hx
    · exact ⟨Nat.le_refl _, h3, h2⟩
    · obtain ⟨g1, g2, g3⟩ := Tile.ge h5 x hx
      exact ⟨by omega, g2, g3⟩
theorem Tile.nodup {f : Nat → Int} {e : Nat} : ∀ {l : List Nat} {a : Nat}, Tile f a e l → l.Nodup
  | [], _, _ => List.nodup_nil
  | y :: l, a, ⟨h1, h2, h3, h4, h5⟩ => by
    subst h1
    refine List.nodup_cons.2 ⟨fun hm => ?_, Tile.nodup h5⟩
    have := (Tile.ge h5 y hm).1
    omega
theorem Tile.le {f : Nat → Int} {e : Nat} : ∀ {l : List Nat} {a : Nat}, Tile f a e l → a ≤ e
  | [], a, h => by have h : a = e := h; omega
  | y :: l, a, ⟨h1, h2, h3, h4, h5⟩ => by omega
theorem Tile.has {f : Nat → Int} {e : Nat} (he : e ≤ 4096) (H : ∀ d, d < 4096 → IsHead (role f d) → ∀ i : Nat, 1 ≤ i → (i : Int) < sz f d → ¬ IsHead (role f (d + i))) {d : Nat} (hd : IsHead (role f d)) (hde : d < e) : ∀ {l : List Nat} {a : Nat}, Tile f a e l → a ≤ d → d ∈ l
  | [], a, h, hle => by have h : a = e := h; omega
  | y :: l, a, ⟨h1, h2, h3, h4, h5⟩, hle => by
    subst h1
    by_cases c : d = y
    · exact c ▸ List.mem_cons_self ..
    · by_cases c2 : y + (sz f y).toNat ≤ d
      · exact List.mem_cons_of_mem _ (Tile.has he H hd hde h5 c2)
      · exfalso
        have := H y (by omega) h2 (d - y) (by omega) (by omega)
        rw [show y + (d - y) = d by omega] at this
        exact this hd
theorem Tile.congr {f f' : Nat → Int} {e : Nat} : ∀ {l : List Nat} {a : Nat}, (∀ x, x ∈ l → IsHead (role f' x) ∧ sz f' x = sz f x) → Tile f a e l → Tile f' a e l
  | [], _, _, h => h
  | y :: l, a, hc, ⟨h1, h2, h3, h4, h5⟩ => by
    subst h1
    obtain ⟨g1, g2⟩ := hc y (List.mem_cons_self ..)
    exact ⟨rfl, g1, h3, by rw [g2]; exact h4, by rw [g2]; exact Tile.congr (fun x hx => hc x (List.mem_cons_of_mem _ hx)) h5⟩
theorem Tile.snoc {f : Nat → Int} {e s : Nat} (hr : IsHead (role f e)) (hs : sz f e = s) (h0 : 0 < s) : ∀ {l : List Nat} {a : Nat}, Tile f a e l → Tile f a (e + s) (l ++ [e])
  | [], a, h => by
    have h : a = e := h
    subst h
    exact ⟨rfl, hr, by omega, by omega, by show a + (sz f a).toNat = a + s; omega⟩
  | y :: l, a, ⟨h1, h2, h3, h4, h5⟩ => ⟨h1, h2, by omega, h4, Tile.snoc hr hs h0 h5⟩
theorem tot_congr {f f' : Nat → Int} {q : Int} : ∀ {l : List Nat}, (∀ x, x ∈ l → role f' x = role f x ∧ sz f' x = sz f x) → tot f' q l = tot f q l
  | [], _ => rfl
  | y :: l, h => by
    unfold tot
    rw [tot_congr (fun x hx => h x (List.mem_cons_of_mem _ hx)), (h y (List.mem_cons_self ..)).1, (h y (List.mem_cons_self ..)).2]
theorem tot_snoc (f : Nat → Int) (q : Int) (x : Nat) : ∀ l : List Nat, tot f q (l ++ [x]) = tot f q l + (if role f x = q then sz f x else 0)
  | [] => by unfold tot; simp [tot]
  | y :: l => by
    show (if role f y = q then sz f y else 0) + tot f q (l ++ [x]) = _
    rw [tot_snoc f q x l]
    show _ = (if role f y = q then sz f y else 0) + tot f q l + _
    omega
theorem tot_one {f f' : Nat → Int} {q : Int} {x : Nat} (hs : sz f' x = sz f x) : ∀ {l : List Nat}, x ∈ l → l.Nodup → (∀ y, y ∈ l → y ≠ x → role f' y = role f y ∧ sz f' y = sz f y) → tot f' q l = tot f q l + (if role f' x = q then sz f x else 0) - (if role f x = q then sz f x else 0)
  | [], hx, _, _ => by cases hx
  | y :: l, hx, hn, hc => by
    obtain ⟨n1, n2⟩ := List.nodup_cons.1 hn
    unfold tot
    by_cases e : y = x
    · subst e
      rw [tot_congr (l := l) (f := f) (f' := f') (fun z hz => hc z (List.mem_cons_of_mem _ hz) (fun e => n1 (e ▸ hz))), hs]
      omega
    · obtain ⟨g1, g2⟩ := hc y (List.mem_cons_self ..) e
      rw [tot_one hs ((List.mem_cons.1 hx).resolve_left (fun h => e h.symm)) n2 (fun z hz => hc z (List.mem_cons_of_mem _ hz)), g1, g2]
      omega
structure Bk (f : Nat → Int) (ns : List Nat) : Prop where
  w0 : ∀ i, i < 2 → word f i = 0
  tile : ∃ e : Nat, fresh f = e ∧ Tile f 2 e ns
  nz : ∀ d : Nat, d < 4096 → role f d ≠ 3 → nxt f d = 0
  bz : ∀ d : Nat, d < 4096 → ¬ IsHead (role f d) → sz f d = 0
  cL : cnLive f = tot f 1 ns
  cF : cnFree f = tot f 3 ns
  cS : cnSpent f = tot f 5 ns
  cU : cnUnt f = 4096 - fresh f
theorem head_next {r : Int} (h : IsHead r) : ¬ IsHead (r + 1) ∧ r + 1 ≠ 3 := by
  rcases h with rfl | rfl | rfl <;> refine ⟨?_, by decide⟩ <;> rintro (e | e | e) <;> omega
theorem Inv.inner {f : Nat → Int} {fl : Nat → List Nat} {k : Nat} (h : Inv f fl k) (d : Nat) (hd : d < 4096) (hr : IsHead (role f d)) (i : Nat) (i1 : 1 ≤ i) (i2 : (i : Int) < sz f d) : ¬ IsHead (role f (d + i)) := by
  obtain ⟨s, hs⟩ := h.head d hd hr
  have := hs.size
  rw [(hs.body i i1 (by omega)).1]
  exact (head_next hr).1
theorem Bk.mem {f : Nat → Int} {fl : Nat → List Nat} {ns : List Nat} {k : Nat} (h : Inv f fl k) (B : Bk f ns) {d : Nat} (hd : d < 4096) (hr : IsHead (role f d)) : d ∈ ns := by
  obtain ⟨e, he, ht⟩ := B.tile
  obtain ⟨e', he', _, h3, _⟩ := h.fr
  obtain ⟨s, hs⟩ := h.head d hd hr
  have := hs.le
  have := hs.lo
  exact Tile.has (by omega) h.inner hr (by omega) ht hs.ge
theorem Bk.repaint {f f' : Nat → Int} {fl : Nat → List Nat} {ns : List Nat} {k : Nat} (h : Inv f fl k) (B : Bk f ns) {x s : Nat} {r : Int} (hx : x < 4096) (hxr : IsHead (role f x)) (hs : HeadAt f (fresh f) (boot f) x s) (hr : IsHead r)
    (hw : ∀ d, d < 4096 → word f' d = word f d) (hfr : fresh f' = fresh f)
    (hrole : ∀ d, d < 4096 → role f' d = if x ≤ d ∧ d < x + s then (if d = x then r else r + 1) else role f d)
    (hsz : ∀ d, d < 4096 → sz f' d = sz f d) (hnu : ∀ d, d < 4096 → d ≠ x → nxt f' d = nxt f d) (hn0 : r ≠ 3 → nxt f' x = 0)
    (c1 : cnLive f' = cnLive f + (if r = 1 then (s : Int) else 0) - (if role f x = 1 then (s : Int) else 0))
    (c2 : cnFree f' = cnFree f + (if r = 3 then (s : Int) else 0) - (if role f x = 3 then (s : Int) else 0))
    (c3 : cnSpent f' = cnSpent f + (if r = 5 then (s : Int) else 0) - (if role f x = 5 then (s : Int) else 0)) (c4 : cnUnt f' = cnUnt f) : Bk f' ns := by
  have hlo := hs.lo
  have hsx := hs.size
  have hle := hs.le
  obtain ⟨e, he, ht⟩ := B.tile
  obtain ⟨e', he', _, h3, _⟩ := h.fr
  have hrx : role f' x = r := by rw [hrole x hx, if_pos (by omega), if_pos rfl]
  have hap := h.apart hx hxr hs
  have hoth : ∀ y, y ∈ ns → y ≠ x → role f' y = role f y ∧ sz f' y = sz f y := by
    intro y hy hne
    obtain ⟨g1, g2, g3⟩ := ht.ge y hy
    have hy4 : y < 4096 := by omega
    obtain ⟨t, htt⟩ := h.head y hy4 g3
    have := hap y hy4 g3 hne t htt.size
    have := htt.lo
    exact ⟨by rw [hrole y hy4, if_neg (by omega)], hsz y hy4⟩
  have hmx := B.mem h hx hxr
  have htot : ∀ q, tot f' q ns = tot f q ns + (if r = q then (s : Int) else 0) - (if role f x = q then (s : Int) else 0) := by
    intro q
    rw [tot_one (hsz x hx) hmx ht.nodup hoth, hrx, hsx]
  refine ⟨fun i hi => by rw [hw i (by omega)]; exact B.w0 i hi, ⟨e, by rw [hfr]; exact he, ht.congr fun y hy => ?_⟩, fun d hd hne => ?_, fun d hd hne => ?_, by rw [htot, c1, B.cL], by rw [htot, c2, B.cF], by rw [htot, c3, B.cS], by rw [c4, hfr]; exact B.cU⟩
  · by_cases c : y = x
    · subst c; exact ⟨by rw [hrx]; exact hr, hsz y hx⟩
    · obtain ⟨q1, q2⟩ := hoth y hy c
      exact ⟨by rw [q1]; exact (ht.ge y hy).2.2, q2⟩
  · by_cases c : d = x
    · subst c; exact hn0 (by rw [hrx] at hne; exact hne)
    · rw [hnu d hd c]
      by_cases hin : x ≤ d ∧ d < x + s
      · have hb := (hs.body (d - x) (by omega) (by omega)).1
        rw [show x + (d - x) = d by omega] at hb
        exact B.nz d hd (by rw [hb]; exact (head_next hxr).2)
      · rw [hrole d hd, if_neg hin] at hne
        exact B.nz d hd hne
  · rw [hsz d hd]
    by_cases hin : x ≤ d ∧ d < x + s
    · by_cases c : d = x
      · subst c; exact absurd hr (by rw [← hrx]; exact hne)
      · have hb := (hs.body (d - x) (by omega) (by omega)).1
        rw [show x + (d - x) = d by omega] at hb
        exact B.bz d hd (by rw [hb]; exact (head_next hxr).1)
    · rw [hrole d hd, if_neg hin] at hne
      exact B.bz d hd hne
theorem Bk.carve {f : Nat → Int} {fl : Nat → List Nat} {ns : List Nat} {k : Nat} (h : Inv f fl k) (B : Bk f ns) {x s : Nat} (s1 : 2 ≤ s) (s2 : s ≤ 32) (hx : fresh f = x) (hxs : x + s ≤ 4096) : Bk (handF (carveF f x s) x s) (ns ++ [x]) := by
  obtain ⟨e, he, ht⟩ := B.tile
  have ee : e = x := by omega
  subst ee
  have hx4 : e < 4096 := by omega
  have h2 := ht.le
  have hrx : role (handF (carveF f e s) e s) e = 1 := by rw [role_A2 f e s e hx4 s2 hx4, if_pos (by omega), if_pos rfl]
  have hsx : sz (handF (carveF f e s) e s) e = (s : Int) := by rw [sz_A2 f e s e hx4 s2 hx4, if_pos rfl]
  have hoth : ∀ y, y ∈ ns → role (handF (carveF f e s) e s) y = role f y ∧ sz (handF (carveF f e s) e s) y = sz f y := by
    intro y hy
    obtain ⟨g1, g2, g3⟩ := ht.ge y hy
    exact ⟨by rw [role_A2 f e s y hx4 s2 (by omega), if_neg (by omega)], by rw [sz_A2 f e s y hx4 s2 (by omega), if_neg (by omega)]⟩
  refine ⟨fun i hi => by rw [word_A2 f e s i hx4 s2 (by omega)]; exact B.w0 i hi, ⟨e + s, by rw [fresh_A2 f e s hx4 s2]; omega, ?_⟩, fun d hd hne => ?_, fun d hd hne => ?_, ?_, ?_, ?_, ?_⟩
  · refine Tile.snoc (by rw [hrx]; exact .inl rfl) hsx (by omega) (ht.congr fun y hy => ?_)
    rw [(hoth y hy).1]; exact ⟨(ht.ge y hy).2.2, (hoth y hy).2⟩
  · rw [nxt_A2 f e s d hx4 s2 hd]
    rw [role_A2 f e s d hx4 s2 hd] at hne
    by_cases hin : e ≤ d ∧ d < e + s
    · exact (h.unt d hd (.inr (by omega))).2.2.1
    · rw [if_neg hin] at hne; exact B.nz d hd hne
  · rw [sz_A2 f e s d hx4 s2 hd]
    rw [role_A2 f e s d hx4 s2 hd] at hne
    by_cases c : d = e
    · subst c; rw [if_pos (by omega), if_pos rfl] at hne; exact absurd (.inl rfl) hne
    · rw [if_neg c]
      by_cases hin : e ≤ d ∧ d < e + s
      · exact (h.unt d hd (.inr (by omega))).2.2.2
      · rw [if_neg hin] at hne; exact B.bz d hd hne
  · rw [cnLive_A2 f e s hx4 s2, tot_snoc, tot_congr hoth, hrx, hsx, B.cL, if_pos rfl]
  · rw [cnFree_A2 f e s hx4 s2, tot_snoc, tot_congr hoth, hrx, if_neg (by decide), B.cF, Int.add_zero]
  · rw [cnSpent_A2 f e s hx4 s2, tot_snoc, tot_congr hoth, hrx, if_neg (by decide), B.cS, Int.add_zero]
  · rw [cnUnt_A2 f e s hx4 s2, fresh_A2 f e s hx4 s2, B.cU]; omega
theorem Bk.alloc {f : Nat → Int} {fl : Nat → List Nat} {ns : List Nat} {k : Nat} (h : Inv f fl k) (B : Bk f ns) (n : Nat) : ∃ ns', Bk (allocF f n).f ns' := by
  unfold allocF
  by_cases c1 : n = 0 ∨ 32 < n
  · rw [if_pos c1]; exact ⟨ns, B⟩
  rw [if_neg c1]
  obtain ⟨s, hs⟩ : ∃ s, (n + 1) / 2 * 2 = s := ⟨_, rfl⟩
  simp only [hs]
  have s1 : 2 ≤ s := by omega
  have s2 : s ≤ 32 := by omega
  have s3 : s % 2 = 0 := by omega
  by_cases c2 : lst f (s / 2 - 1) ≠ 0
  · rw [if_pos c2]
    obtain ⟨x, hx⟩ : ∃ x : Nat, lst f (s / 2 - 1) = x := by
      have hch := h.chain (s / 2 - 1) (by omega)
      cases hfl : fl (s / 2 - 1) with
      | nil => rw [hfl] at hch; exact absurd hch c2
      | cons y l => rw [hfl] at hch; exact ⟨y, hch.1⟩
    rw [hx]
    simp only [Int.toNat_natCast]
    obtain ⟨m1, m2, m3, m4, l, m5, hi⟩ := h.pop s1 s2 s3 hx (by omega)
    refine ⟨ns, B.repaint h m1 (.inr (.inl m2)) m4 (r := 1) (.inl rfl) (fun d hd => word_A1 f x s d m1 s2 hd) (fresh_A1 f x s m1 s2) (fun d hd => role_A1 f x s d m1 s2 hd) (fun d hd => sz_A1 f x s d m1 s2 hd)
      (fun d hd hne => by rw [nxt_A1 f x s d m1 s2 hd, if_neg hne]) (fun _ => by rw [nxt_A1 f x s x m1 s2 m1, if_pos rfl]) ?_ ?_ ?_ (cnUnt_A1 f x s m1 s2)⟩
    · rw [cnLive_A1 f x s m1 s2, m2]; simp
    · rw [cnFree_A1 f x s m1 s2, m2]; simp
    · rw [cnSpent_A1 f x s m1 s2, m2]; simp
  rw [if_neg c2]
  by_cases c3 : fresh f + s ≤ 4096 ∧ boot f < 281474976710655
  · rw [if_pos c3]
    obtain ⟨x, hx, _⟩ := h.fr
    rw [hx]
    exact ⟨_, B.carve h s1 s2 hx (by omega)⟩
  · rw [if_neg c3]; exact ⟨ns, B⟩
theorem Bk.free {f : Nat → Int} {fl : Nat → List Nat} {ns : List Nat} {k : Nat} (h : Inv f fl k) (B : Bk f ns) (r : Nat) : ∃ ns', Bk (freeF f r).f ns' := by
  unfold freeF
  by_cases c1 : judgeF f r ≠ 0
  · rw [if_pos c1]; exact ⟨ns, B⟩
  rw [if_neg c1]
  have hj : judgeF f r = 0 := Decidable.not_not.1 c1
  have ha := judge_addr hj
  obtain ⟨l1, l2, l3⟩ := judge_live hj
  obtain ⟨s, hs⟩ := h.head _ ha.2 (.inl l1)
  have m1 := ha.2
  have s2 := hs.hi
  generalize r % 65536 = x at *
  simp only [hs.size, Int.toNat_natCast]
  split
  · refine ⟨ns, B.repaint h m1 (.inl l1) hs (r := 5) (.inr (.inr rfl)) (fun d hd => word_F2 f x s d m1 s2 hd) (fresh_F2 f x s m1 s2) (fun d hd => role_F2 f x s d m1 s2 hd) (fun d hd => sz_F2 f x s d m1 s2 hd)
      (fun d hd hne => nxt_F2 f x s d m1 s2 hd) (fun _ => by rw [nxt_F2 f x s x m1 s2 m1]; exact B.nz x m1 (by rw [l1]; decide)) ?_ ?_ ?_ (cnUnt_F2 f x s m1 s2)⟩
    · rw [cnLive_F2 f x s m1 s2, l1]; simp
    · rw [cnFree_F2 f x s m1 s2, l1]; simp
    · rw [cnSpent_F2 f x s m1 s2, l1]; simp
  · refine ⟨ns, B.repaint h m1 (.inl l1) hs (r := 3) (.inr (.inl rfl)) (fun d hd => word_F1 f x s d m1 s2 hd) (fresh_F1 f x s m1 s2) (fun d hd => role_F1 f x s d m1 s2 hd) (fun d hd => sz_F1 f x s d m1 s2 hd)
      (fun d hd hne => by rw [nxt_F1 f x s d m1 s2 hd, if_neg hne]) (fun q => absurd rfl q) ?_ ?_ ?_ (cnUnt_F1 f x s m1 s2)⟩
    · rw [cnLive_F1 f x s m1 s2, l1]; simp
    · rw [cnFree_F1 f x s m1 s2, l1]; simp
    · rw [cnSpent_F1 f x s m1 s2, l1]; simp
theorem Bk.words_only {f f' : Nat → Int} {fl : Nat → List Nat} {ns : List Nat} {k : Nat} (h : Inv f fl k) (B : Bk f ns) (e : SameBut f f') (hw : ∀ i, i < 2 → word f' i = word f i) : Bk f' ns := by
  obtain ⟨fr, he, ht⟩ := B.tile
  obtain ⟨e', he', _, h3, _⟩ := h.fr
  have hoth : ∀ y, y ∈ ns → role f' y = role f y ∧ sz f' y = sz f y := fun y hy => by
    have := (ht.ge y hy).2.1
    exact ⟨e.role y (by omega), e.sz y (by omega)⟩
  exact ⟨fun i hi => by rw [hw i hi]; exact B.w0 i hi, ⟨fr, by rw [e.fresh]; exact he, ht.congr fun y hy => by rw [(hoth y hy).1]; exact ⟨(ht.ge y hy).2.2, (hoth y hy).2⟩⟩,
    fun d hd hne => by rw [e.nxt d hd]; exact B.nz d hd (by rw [← e.role d hd]; exact hne), fun d hd hne => by rw [e.sz d hd]; exact B.bz d hd (by rw [← e.role d hd]; exact hne),
    by rw [e.cn1, tot_congr hoth]; exact B.cL, by rw [e.cn2, tot_congr hoth]; exact B.cF, by rw [e.cn3, tot_congr hoth]; exact B.cS, by rw [e.cn4, e.fresh]; exact B.cU⟩
theorem Bk.setWord {f : Nat → Int} {fl : Nat → List Nat} {ns : List Nat} {k : Nat} (h : Inv f fl k) (B : Bk f ns) (x : Nat) (y : Int) (hx : x < 4096) (h2 : 2 ≤ x) : Bk (setWord f x y) ns :=
  B.words_only h (SameBut.set f x y hx) fun i hi => by rw [word_setWord, if_neg (by omega)]
theorem Bk.do {f : Nat → Int} {fl : Nat → List Nat} {ns : List Nat} {k : Nat} (h : Inv f fl k) (B : Bk f ns) {o : MOp} (ho : o.ok) : ∃ ns', Bk (doF f o).f ns' := by
  obtain ⟨_, _, p1, p2, p3, p4⟩ := ho
  unfold doF
  split
  · exact ⟨ns, B⟩
  split
  · refine ⟨ns, ?_⟩
    show Bk (storeF f o.x o.a) ns
    unfold storeF
    split
    · exact B.setWord h _ _ (by omega) (by omega)
    · exact B
  split
  · refine ⟨ns, ?_⟩
    show Bk (casF f o.x o.a o.b) ns
    unfold casF
    split
    · exact B.setWord h _ _ (by omega) (by omega)
    · exact B
  split
  · refine ⟨ns, ?_⟩
    show Bk (addF f o.x o.a) ns
    unfold addF
    split
    · exact B.setWord h _ _ (by omega) (by omega)
    · exact B
  split
  · refine ⟨ns, ?_⟩
    show Bk (dcasF f o.x o.a o.b o.c o.d) ns
    unfold dcasF
    split
    · exact (B.setWord h _ _ (by omega) (by omega)).setWord (h.setWord _ _ (by omega) (fits_nat p3)) _ _ (by omega) (by omega)
    · exact B
  split
  · split
    · exact ⟨ns, B⟩
    · exact B.alloc h _
  split
  · exact B.free h _
  · exact ⟨ns, B⟩
theorem bk_init (g : Int) : Bk (initF g) [] := by
  have hr : ∀ d, d < 4096 → role (initF g) d = 0 := fun d hd => by
    unfold role; rw [initF_at, if_neg (by omega), if_neg (by omega), if_neg (by omega), if_neg (by omega), if_neg (by omega)]
  have hf : fresh (initF g) = 2 := by unfold fresh; rw [initF_at, if_neg (by omega), if_pos (by omega)]
  refine ⟨fun i hi => ?_, ⟨2, hf, rfl⟩, fun d hd _ => ?_, fun d hd _ => ?_, ?_, ?_, ?_, ?_⟩
  · unfold word; rw [initF_at, if_neg (by omega), if_neg (by omega), if_neg (by omega), if_neg (by omega), if_neg (by omega)]
  · unfold nxt; rw [initF_at, if_neg (by omega), if_neg (by omega), if_neg (by omega), if_neg (by omega), if_neg (by omega)]
  · unfold sz; rw [initF_at, if_neg (by omega), if_neg (by omega), if_neg (by omega), if_neg (by omega), if_neg (by omega)]
  · unfold cnLive; rw [initF_at, if_neg (by omega), if_neg (by omega), if_neg (by omega), if_neg (by omega), if_neg (by omega)]; rfl
  · unfold cnFree; rw [initF_at, if_neg (by omega), if_neg (by omega), if_neg (by omega), if_neg (by omega), if_neg (by omega)]; rfl
  · unfold cnSpent; rw [initF_at, if_neg (by omega), if_neg (by omega), if_neg (by omega), if_neg (by omega), if_neg (by omega)]; rfl
  · unfold cnUnt; rw [initF_at, if_neg (by omega), if_neg (by omega), if_neg (by omega), if_neg (by omega), if_pos (by omega), hf]; rfl

end Go.Proofs.Qxb6500913aFmt

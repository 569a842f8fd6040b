import Derived.Test.Qxb6500914aFmtN1
namespace Go.Proofs.Qxb6500914aFmt
open Go.Eng
set_option linter.unusedVariables false
set_option linter.unusedSimpArgs false

/-! ## what an operation does to the content (as for linearizability) -/
theorem apL_same {C : List (Int × Int)} {ck cv cp : Int} (h : (apL C ck cv cp).2.2 = false) : (apL C ck cv cp).1 = C := by
  unfold apL at h ⊢
  by_cases c : ck = 0 ∨ ck = 1 ∨ ck = 4
  · rw [if_pos c] at h ⊢
    by_cases c8 : C.length = 8
    · rw [if_pos c8]
    · rw [if_neg c8] at h; cases h
  · rw [if_neg c] at h ⊢
    generalize (if ck = 3 then C.getLast? else C.head?) = o at h ⊢
    cases o with
    | none => rfl
    | some x =>
      simp only at h ⊢
      by_cases c6 : ck = 6
      · rw [if_pos c6]
      · rw [if_neg c6] at h ⊢
        by_cases c7 : ck = 7 ∧ cp < x.1
        · rw [if_pos c7]
        · rw [if_neg c7] at h; cases h
def noPr (q : PG) : PG := { q with ip := fun _ => 0 }
theorem apply_noPr (q : PG) (nn : Nat) (ck cv cp : Int) (h3 : ck ≤ 3) : (applyF (noPr q) nn ck cv cp).p.n = (applyF q nn ck cv cp).p.n ∧ (applyF (noPr q) nn ck cv cp).p.iv = (applyF q nn ck cv cp).p.iv ∧ (applyF (noPr q) nn ck cv cp).ra = (applyF q nn ck cv cp).ra ∧ (applyF (noPr q) nn ck cv cp).rv = (applyF q nn ck cv cp).rv ∧ (applyF (noPr q) nn ck cv cp).ch = (applyF q nn ck cv cp).ch := by
  by_cases h1 : ck = 0 ∨ ck = 1 ∨ ck = 4
  · by_cases h2 : nn = 8
    · rw [applyF_full h1 h2, applyF_full h1 h2]; exact ⟨rfl, rfl, rfl, rfl, rfl⟩
    · rw [applyF_push h1 h2, applyF_push h1 h2]
      have hp : putAt (noPr q) nn ck cp = putAt q nn ck cp := by unfold putAt; rw [if_neg (show ¬ ck = 4 by omega), if_neg (show ¬ ck = 4 by omega)]
      rw [hp]
      exact ⟨rfl, rfl, rfl, rfl, rfl⟩
  · by_cases h2 : nn = 0
    · rw [applyF_empty h1 h2, applyF_empty h1 h2]; exact ⟨rfl, rfl, rfl, rfl, rfl⟩
    · rw [applyF_pop h1 h2 (by omega) (by omega), applyF_pop h1 h2 (by omega) (by omega)]; exact ⟨rfl, rfl, rfl, rfl, rfl⟩
theorem commit {w : Nat → Int} {k : Bool} {q0 : PG} {nn : Nat} {ck cv cp rp : Int} (hc : ContK w k q0 nn) (hk : boxOf ck = k) (h0 : 0 ≤ ck ∧ ck ≤ 7) (hf : k = false → cp = 0 ∧ rp = 0) (ht : k = true → rp = (applyF q0 nn ck cv cp).rp) :
    ∃ P : PG, P.n = (applyF q0 nn ck cv cp).p.n ∧ P.iv = (applyF q0 nn ck cv cp).p.iv ∧ (k = true → P.ip = (applyF q0 nn ck cv cp).p.ip) ∧ (k = false → ∀ i, P.ip i = 0) ∧ (itm P P.n.toNat, (⟨(applyF q0 nn ck cv cp).ra, (applyF q0 nn ck cv cp).rv, rp⟩ : Rs), (applyF q0 nn ck cv cp).ch) = apL (cLi w k) ck cv cp := by
  have hdn : (w (nd k (crN w k))).toNat = nn := by rw [hc.dn]; exact Int.toNat_natCast _
  cases k with
  | true =>
    have hi : itm q0 nn = cLi w true := by
      unfold itm cLi
      rw [hdn]
      refine List.map_congr_left fun i hi => ?_
      have hi' := List.mem_range.1 hi
      have e1 := hc.c (2 * i) (by show 2 * i < nn * 2; omega)
      have e2 := hc.c (2 * i + 1) (by show 2 * i + 1 < nn * 2; omega)
      have c1 : cellV true q0 (2 * i) = q0.ip i := by unfold cellV; rw [if_pos rfl, if_pos (by omega), show 2 * i / 2 = i by omega]
      have c2 : cellV true q0 (2 * i + 1) = q0.iv i := by unfold cellV; rw [if_pos rfl, if_neg (by omega), show (2 * i + 1) / 2 = i by omega]
      rw [c1] at e1; rw [c2] at e2
      rw [e1, e2]; rfl
    refine ⟨(applyF q0 nn ck cv cp).p, rfl, rfl, fun _ => rfl, fun q => (by cases q), ?_⟩
    rw [ht rfl, apply_list hc.n hc.n8, hi]
  | false =>
    obtain ⟨f1, f2⟩ := hf rfl
    have h3 : ck ≤ 3 := by unfold boxOf at hk; have := of_decide_eq_false hk; omega
    obtain ⟨a1, a2, a3, a4, a5⟩ := apply_noPr q0 nn ck cv cp h3
    obtain ⟨z1, z2⟩ := apply_zero (noPr q0) nn ck cv cp (fun _ => rfl) f1
    have hi : itm (noPr q0) nn = cLi w false := by
      unfold itm cLi
      rw [hdn]
      refine List.map_congr_left fun i hi => ?_
      have hi' := List.mem_range.1 hi
      have e1 := hc.c i (by show i < nn * 1; omega)
      have c1 : cellV false q0 i = q0.iv i := rfl
      rw [c1] at e1
      show (0, q0.iv i) = _
      rw [e1]; rfl
    refine ⟨(applyF (noPr q0) nn ck cv cp).p, a1, a2, fun q => (by cases q), fun _ => z1, ?_⟩
    rw [← a3, ← a4, ← a5, show rp = (applyF (noPr q0) nn ck cv cp).rp by rw [f2, z2], apply_list (show (noPr q0).n = nn from hc.n) hc.n8, hi]
theorem cLi_of {w' : Nat → Int} {k : Bool} {P Q : PG} (h1 : P.n = Q.n) (h2 : P.iv = Q.iv) (h3 : k = true → P.ip = Q.ip) (h4 : k = false → ∀ i, P.ip i = 0) (h0 : 0 ≤ Q.n) (hn : w' (nd k (crN w' k)) = Q.n) (hcl : ∀ c : Nat, (c : Int) < Q.n * wd k → ndC w' k (crN w' k) c = cellV k Q c) : cLi w' k = itm P P.n.toNat := by
  obtain ⟨n, hQ⟩ : ∃ n : Nat, Q.n = n := ⟨Q.n.toNat, by omega⟩
  unfold cLi itm
  rw [h1, hn, hQ, Int.toNat_natCast]
  refine List.map_congr_left fun i hi => ?_
  have hi' := List.mem_range.1 hi
  rw [hQ] at hcl
  cases k with
  | true =>
    have w2 : ((wd true : Nat) : Int) = 2 := rfl
    rw [w2] at hcl
    have e1 := hcl (2 * i) (by omega)
    have e2 := hcl (2 * i + 1) (by omega)
    have c1 : cellV true Q (2 * i) = Q.ip i := by unfold cellV; rw [if_pos rfl, if_pos (by omega), show 2 * i / 2 = i by omega]
    have c2 : cellV true Q (2 * i + 1) = Q.iv i := by unfold cellV; rw [if_pos rfl, if_neg (by omega), show (2 * i + 1) / 2 = i by omega]
    rw [c1] at e1; rw [c2] at e2
    show (ndC w' true (crN w' true) (2 * i), ndC w' true (crN w' true) (2 * i + 1)) = _
    rw [e1, e2, h3 rfl, h2]
  | false =>
    have w2 : ((wd false : Nat) : Int) = 1 := rfl
    rw [w2] at hcl
    have e1 := hcl i (by omega)
    have c1 : cellV false Q i = Q.iv i := rfl
    rw [c1] at e1
    show (0, ndC w' false (crN w' false) i) = _
    rw [e1, h4 rfl, h2]
theorem Same.cLi {w w' : Nat → Int} {k : Bool} (h : Same w w' k) (h8 : (w (nd k (crN w k))).toNat ≤ 8) : Go.Proofs.Qxb6500914aFmt.cLi w' k = Go.Proofs.Qxb6500914aFmt.cLi w k := by
  unfold Go.Proofs.Qxb6500914aFmt.cLi
  rw [h.cur, h.cnt]
  refine List.map_congr_left fun i hi => ?_
  have hi' := List.mem_range.1 hi
  cases k with
  | true =>
    show (ndC w' true (crN w' true) (2 * i), ndC w' true (crN w' true) (2 * i + 1)) = (ndC w true (crN w true) (2 * i), ndC w true (crN w true) (2 * i + 1))
    rw [h.cur, h.cell _ (by show 2 * i < 8 * 2; omega), h.cell _ (by show 2 * i + 1 < 8 * 2; omega)]
  | false =>
    show (0, ndC w' false (crN w' false) i) = (0, ndC w false (crN w false) i)
    rw [h.cur, h.cell _ (by show i < 8 * 1; omega)]
/-! ## the invariant of the world -/
def CF (W : WS) : Prop := ∀ t k p, W.run t = some (k, p) → k = boxOf (W.ck t) ∧ p.ck = W.ck t ∧ p.cv = W.cv t ∧ p.cp = W.cp t ∧ 0 ≤ W.ck t ∧ W.ck t ≤ 7
theorem CF.step {W : WS} (h : CF W) (hs : SG W) (t : Nat) (hb : (W.run t).isSome = true) : CF (stepW W t) := by
  obtain ⟨⟨k, p⟩, hx⟩ := Option.isSome_iff_exists.1 hb
  obtain ⟨e1, e2⟩ := stepW_some hx
  have hck : (stepW W t).ck = W.ck ∧ (stepW W t).cv = W.cv ∧ (stepW W t).cp = W.cp := by
    unfold stepW; rw [hx]; dsimp only; split <;> exact ⟨rfl, rfl, rfl⟩
  obtain ⟨d1, _⟩ := stepF_due (hs.di.wi.pi t _ hx) hs.di.wi.mi (hs.di.due t _ hx)
  intro s k' p' hy
  rw [hck.1, hck.2.1, hck.2.2]
  rw [e2] at hy
  by_cases q : s = t
  · subst q
    rw [updF_same] at hy
    by_cases hr : (stepF k W.m p).ret = true
    · rw [show (stepF (k, p).1 W.m (k, p).2).ret = true from hr, if_pos rfl] at hy; cases hy
    · rw [if_neg hr] at hy
      have hy' : some (k, (stepF k W.m p).p) = some (k', p') := hy
      injection hy' with hy'
      injection hy' with a b
      subst a; subst b
      obtain ⟨c1, c2, c3, c4, c5⟩ := h s k p hx
      exact ⟨c1, d1.ck.trans c2, d1.cv.trans c3, d1.cp.trans c4, c5⟩
  · rw [updF_ne _ _ q] at hy; exact h s k' p' hy
theorem CF.inv {W : WS} (h : CF W) (t : Nat) (kd u v : Int) (h0 : 0 ≤ kd) (h7 : kd ≤ 7) : CF (invokeW W t kd u v) := by
  intro s k' p' hy
  have hy' : updF W.run t (some (boxOf kd, startP (boxOf kd) t kd (cvOf kd u) (cpOf kd v))) s = some (k', p') := hy
  show k' = boxOf (updF W.ck t kd s) ∧ p'.ck = updF W.ck t kd s ∧ p'.cv = updF W.cv t (cvOf kd u) s ∧ p'.cp = updF W.cp t (cpOf kd v) s ∧ 0 ≤ updF W.ck t kd s ∧ updF W.ck t kd s ≤ 7
  by_cases q : s = t
  · subst q
    rw [updF_same] at hy'
    injection hy' with hy'
    injection hy' with a b
    subst a; subst b
    rw [updF_same, updF_same, updF_same]
    refine ⟨rfl, rfl, rfl, ?_, h0, h7⟩
    show (if boxOf kd then cpOf kd v else 0) = cpOf kd v
    cases hb : boxOf kd
    · have : ¬ 4 ≤ kd := of_decide_eq_false hb
      unfold cpOf; rw [if_neg (show ¬ (kd = 4 ∨ kd = 7) by omega)]; rfl
    · rfl
  · rw [updF_ne _ _ q] at hy'
    rw [updF_ne _ _ q, updF_ne _ _ q, updF_ne _ _ q]
    exact h s k' p' hy'


/-! ## what goes in and out, counted -/
def dl (x : Int × Int) (ck cv cp : Int) (r : Rs) : Int := if ck = 6 then 0 else if r.a = 0 then (if (cp, cv) = x then 1 else 0) else if r.a = 1 then (if (r.p, r.v) = x then -1 else 0) else 0
theorem insL_count (x y : Int × Int) (C : List (Int × Int)) : (insL y C).count x = C.count x + if y = x then 1 else 0 := by
  unfold insL
  have h := congrArg (List.count x) (List.takeWhile_append_dropWhile (p := fun z : Int × Int => decide (z.1 ≤ y.1)) (l := C))
  rw [List.count_append] at h
  rw [List.count_append, List.count_cons, ← h]
  by_cases e : y = x
  · rw [if_pos e, if_pos (by simpa using e)]; omega
  · rw [if_neg e, if_neg (by simpa using e)]; omega
theorem count_tail (x h : Int × Int) (T : List (Int × Int)) : (((h :: T).count x : Nat) : Int) = (T.count x : Int) + if h = x then 1 else 0 := by
  rw [List.count_cons]
  by_cases e : h = x
  · rw [if_pos e, if_pos (by simpa using e)]; omega
  · rw [if_neg e, if_neg (by simpa using e)]; omega
theorem count_last (x h : Int × Int) (T : List (Int × Int)) : (((T ++ [h]).count x : Nat) : Int) = (T.count x : Int) + if h = x then 1 else 0 := by
  rw [List.count_append, List.count_cons, List.count_nil]
  by_cases e : h = x
  · rw [if_pos e, if_pos (by simpa using e)]; omega
  · rw [if_neg e, if_neg (by simpa using e)]; omega
theorem getLast_split {C : List (Int × Int)} {y : Int × Int} (h : C.getLast? = some y) : C = C.dropLast ++ [y] := by
  have hn : C ≠ [] := fun e => by rw [e] at h; cases h
  rw [List.getLast?_eq_some_getLast hn] at h
  injection h with h
  rw [← h]; exact (List.dropLast_concat_getLast hn).symm
theorem apL_dl (C : List (Int × Int)) (ck cv cp : Int) (x : Int × Int) : (((apL C ck cv cp).1.count x : Nat) : Int) = (C.count x : Int) + dl x ck cv cp (apL C ck cv cp).2.1 := by
  unfold apL
  by_cases h1 : ck = 0 ∨ ck = 1 ∨ ck = 4
  · rw [if_pos h1]
    by_cases h8 : C.length = 8
    · rw [if_pos h8]
      unfold dl
      simp only
      rw [if_neg (by omega), if_neg (by decide), if_neg (by decide)]; omega
    · rw [if_neg h8]
      have hd : dl x ck cv cp ⟨0, 0, 0⟩ = if (cp, cv) = x then 1 else 0 := by unfold dl; rw [if_neg (by omega), if_pos rfl]
      simp only
      rw [hd]
      by_cases c1 : ck = 1
      · rw [if_pos c1, count_last]
      · rw [if_neg c1]
        by_cases c4 : ck = 4
        · rw [if_pos c4, insL_count]; split <;> omega
        · rw [if_neg c4, count_tail]
  · rw [if_neg h1]
    have hd : ∀ a v p : Int, a ≠ 0 → a ≠ 1 → dl x ck cv cp ⟨a, v, p⟩ = 0 := fun a v p q0 q1 => by unfold dl; simp only; rw [if_neg q0, if_neg q1]; split <;> rfl
    cases hx : (if ck = 3 then C.getLast? else C.head?) with
    | none => simp only; rw [hd _ _ _ (by decide) (by decide)]; omega
    | some y =>
      simp only
      by_cases c6 : ck = 6
      · rw [if_pos c6]; simp only; unfold dl; rw [if_pos c6]; omega
      · rw [if_neg c6]
        by_cases c7 : ck = 7 ∧ cp < y.1
        · rw [if_pos c7]; simp only; rw [hd _ _ _ (by decide) (by decide)]; omega
        · rw [if_neg c7]
          simp only
          have hd1 : dl x ck cv cp ⟨1, y.2, y.1⟩ = if y = x then -1 else 0 := by unfold dl; rw [if_neg c6]; simp
          rw [hd1]
          by_cases c3 : ck = 3
          · rw [if_pos c3] at hx ⊢
            have hs := getLast_split hx
            have := count_last x y C.dropLast
            rw [← hs] at this
            rw [this]; split <;> omega
          · rw [if_neg c3] at hx ⊢
            cases C with
            | nil => cases hx
            | cons h T =>
              injection hx with hx
              subst hx
              have := count_tail x h T
              rw [this, List.tail_cons]; split <;> omega
/-- ranges -/
structure Rr (r : Rs) : Prop where
  v : InR r.v
  p : InR r.p
theorem apL_rng {C : List (Int × Int)} {ck cv cp : Int} (h : ∀ x ∈ C, InR x.1 ∧ InR x.2) (hv : InR cv) (hp : InR cp) : (∀ x ∈ (apL C ck cv cp).1, InR x.1 ∧ InR x.2) ∧ Rr (apL C ck cv cp).2.1 := by
  have z : InR 0 := by unfold InR; omega
  unfold apL
  by_cases h1 : ck = 0 ∨ ck = 1 ∨ ck = 4
  · rw [if_pos h1]
    by_cases h8 : C.length = 8
    · rw [if_pos h8]; exact ⟨h, z, z⟩
    · rw [if_neg h8]
      refine ⟨?_, z, z⟩
      simp only
      by_cases c1 : ck = 1
      · rw [if_pos c1]
        intro x hx
        rcases List.mem_append.1 hx with hx | hx
        · exact h x hx
        · rw [List.mem_singleton] at hx; subst hx; exact ⟨hp, hv⟩
      · rw [if_neg c1]
        by_cases c4 : ck = 4
        · rw [if_pos c4]
          intro x hx
          have hm : x ∈ C ∨ x = (cp, cv) := by
            unfold insL at hx
            rcases List.mem_append.1 hx with hx | hx
            · exact .inl ((List.takeWhile_sublist _).mem hx)
            · rcases List.mem_cons.1 hx with hx | hx
              · exact .inr hx
              · exact .inl ((List.dropWhile_sublist _).mem hx)
          rcases hm with hm | rfl
          · exact h x hm
          · exact ⟨hp, hv⟩
        · rw [if_neg c4]
          intro x hx
          rcases List.mem_cons.1 hx with rfl | hx
          · exact ⟨hp, hv⟩
          · exact h x hx
  · rw [if_neg h1]
    cases hx : (if ck = 3 then C.getLast? else C.head?) with
    | none => exact ⟨h, z, z⟩
    | some y =>
      have hy : y ∈ C := by
        by_cases c3 : ck = 3
        · rw [if_pos c3] at hx; exact List.mem_of_getLast? hx
        · rw [if_neg c3] at hx; exact List.mem_of_head? hx
      have hyr := h y hy
      simp only
      by_cases c6 : ck = 6
      · rw [if_pos c6]; exact ⟨h, hyr.2, hyr.1⟩
      · rw [if_neg c6]
        by_cases c7 : ck = 7 ∧ cp < y.1
        · rw [if_pos c7]; exact ⟨h, z, hyr.1⟩
        · rw [if_neg c7]
          refine ⟨?_, hyr.2, hyr.1⟩
          simp only
          by_cases c3 : ck = 3
          · rw [if_pos c3]; exact fun x hx => h x ((List.dropLast_sublist _).mem hx)
          · rw [if_neg c3]; exact fun x hx => h x (List.mem_of_mem_tail hx)
/-! ## the invariant -/
def pdO (k : Bool) (x : Int × Int) (ck cv cp : Int) : Option (Bool × PG) → Int
  | none => 0
  | some (k', p) => if k' = k ∧ p.pc = 8 then dl x ck cv cp ⟨p.ra, p.rv, p.rp⟩ else 0
def pdW (k : Bool) (x : Int × Int) (W : WS) (t : Nat) : Int := pdO k x (W.ck t) (W.cv t) (W.cp t) (W.run t)
def sm6 (f : Nat → Int) : Int := f 0 + f 1 + f 2 + f 3 + f 4 + f 5
theorem sm6_upd {f g : Nat → Int} {t : Nat} (ht : t < 6) (h : ∀ s, s ≠ t → g s = f s) : sm6 g = sm6 f - f t + g t := by
  unfold sm6
  rcases (show t = 0 ∨ t = 1 ∨ t = 2 ∨ t = 3 ∨ t = 4 ∨ t = 5 by omega) with rfl | rfl | rfl | rfl | rfl | rfl
  · rw [h 1 (by decide), h 2 (by decide), h 3 (by decide), h 4 (by decide), h 5 (by decide)]; omega
  · rw [h 0 (by decide), h 2 (by decide), h 3 (by decide), h 4 (by decide), h 5 (by decide)]; omega
  · rw [h 0 (by decide), h 1 (by decide), h 3 (by decide), h 4 (by decide), h 5 (by decide)]; omega
  · rw [h 0 (by decide), h 1 (by decide), h 2 (by decide), h 4 (by decide), h 5 (by decide)]; omega
  · rw [h 0 (by decide), h 1 (by decide), h 2 (by decide), h 3 (by decide), h 5 (by decide)]; omega
  · rw [h 0 (by decide), h 1 (by decide), h 2 (by decide), h 3 (by decide), h 4 (by decide)]; omega
def evD (k : Bool) (x : Int × Int) (e : Ev) : Int := if e.ret = true ∧ boxOf e.ck = k then dl x e.ck e.cv e.cp ⟨e.ra, e.rv, e.rp⟩ else 0
def lgD (k : Bool) (x : Int × Int) : List Ev → Int
  | [] => 0
  | e :: l => evD k x e + lgD k x l
theorem lgD_snoc (k : Bool) (x : Int × Int) (e : Ev) : ∀ l : List Ev, lgD k x (l ++ [e]) = lgD k x l + evD k x e
  | [] => by simp [lgD]
  | y :: l => by
    show evD k x y + lgD k x (l ++ [e]) = evD k x y + lgD k x l + evD k x e
    rw [lgD_snoc k x e l]; omega
def Con (k : Bool) (W : WS) : Prop := ∀ x, lgD k x W.log + sm6 (pdW k x W) = ((cLi W.m.word k).count x : Int)
structure Rg (W : WS) : Prop where
  call : ∀ t, InR (W.cv t) ∧ InR (W.cp t)
  cont : ∀ k x, x ∈ cLi W.m.word k → InR x.1 ∧ InR x.2
  pend : ∀ t k p, W.run t = some (k, p) → p.pc = 8 → InR p.rv ∧ InR p.rp
  log : ∀ e ∈ W.log, (InR e.cv ∧ InR e.cp) ∧ InR e.rv ∧ InR e.rp
theorem Con.inv {k : Bool} {W : WS} (h : Con k W) (t : Nat) (ht : t < 6) (hn : W.run t = none) (kd u v : Int) : Con k (invokeW W t kd u v) := by
  intro x
  have hx := h x
  show lgD k x (W.log ++ [⟨t, false, kd, cvOf kd u, cpOf kd v, 0, 0, 0⟩]) + sm6 (pdW k x (invokeW W t kd u v)) = ((cLi W.m.word k).count x : Int)
  rw [lgD_snoc, show evD k x ⟨t, false, kd, cvOf kd u, cpOf kd v, 0, 0, 0⟩ = 0 by unfold evD; rw [if_neg (by simp)]]
  have hs : sm6 (pdW k x (invokeW W t kd u v)) = sm6 (pdW k x W) - pdW k x W t + pdW k x (invokeW W t kd u v) t := sm6_upd ht fun s hs => by
    show pdO k x (updF W.ck t kd s) (updF W.cv t (cvOf kd u) s) (updF W.cp t (cpOf kd v) s) (updF W.run t (some (boxOf kd, startP (boxOf kd) t kd (cvOf kd u) (cpOf kd v))) s) = _
    rw [updF_ne _ _ hs, updF_ne _ _ hs, updF_ne _ _ hs, updF_ne _ _ hs]; rfl
  have h1 : pdW k x W t = 0 := by unfold pdW; rw [hn]; rfl
  have h2 : pdW k x (invokeW W t kd u v) t = 0 := by
    show pdO k x _ _ _ (updF W.run t (some (boxOf kd, startP (boxOf kd) t kd (cvOf kd u) (cpOf kd v))) t) = 0
    rw [updF_same]
    unfold pdO
    simp only
    rw [if_neg]
    rintro ⟨_, q⟩
    have q2 : (0 : Int) = 8 := q
    omega
  rw [hs, h1, h2]; omega
theorem InR0 : InR 0 := by unfold InR; omega
theorem Rg.inv {W : WS} (h : Rg W) (t : Nat) (kd u v : Int) (hu : InR u) (hv : InR v) : Rg (invokeW W t kd u v) := by
  have h1 : InR (cvOf kd u) := by unfold cvOf; split; exact hu; exact InR0
  have h2 : InR (cpOf kd v) := by unfold cpOf; split; exact hv; exact InR0
  refine ⟨fun s => ?_, h.cont, fun s k p hr h8 => ?_, fun e he => ?_⟩
  · show InR (updF W.cv t (cvOf kd u) s) ∧ InR (updF W.cp t (cpOf kd v) s)
    by_cases q : s = t
    · subst q; rw [updF_same, updF_same]; exact ⟨h1, h2⟩
    · rw [updF_ne _ _ q, updF_ne _ _ q]; exact h.call s
  · have hr' : updF W.run t (some (boxOf kd, startP (boxOf kd) t kd (cvOf kd u) (cpOf kd v))) s = some (k, p) := hr
    by_cases q : s = t
    · subst q
      rw [updF_same] at hr'
      injection hr' with hr'
      injection hr' with a b
      subst b
      have q2 : (0 : Int) = 8 := h8
      omega
    · rw [updF_ne _ _ q] at hr'; exact h.pend s k p hr' h8
  · have he' : e ∈ W.log ++ [⟨t, false, kd, cvOf kd u, cpOf kd v, 0, 0, 0⟩] := he
    rcases List.mem_append.1 he' with q | q
    · exact h.log e q
    · rw [List.mem_singleton] at q; subst q; exact ⟨⟨h1, h2⟩, InR0, InR0⟩
theorem con_step {W : WS} (h : ∀ k, Con k W) (hg : Rg W) (hs : SG W) (hz : ZI W) (hcf : CF W) (t : Nat) (hb : (W.run t).isSome = true) : (∀ k, Con k (stepW W t)) ∧ Rg (stepW W t) := by
  obtain ⟨⟨kt, p⟩, hr⟩ := Option.isSome_iff_exists.1 hb
  obtain ⟨x, ho⟩ := hs.oi
  obtain ⟨c1, c2, c3, c4, c5⟩ := hcf t kt p hr
  obtain ⟨e1, e2⟩ := stepW_some hr
  have hlog := stepW_log hr
  have hP : PI kt t p := ho.wi.pi t _ hr
  have ht : t < 6 := hP.ht
  have hM := ho.wi.mi
  have hmv := mv hP hM
  have hst := lin_step ho hs.ci hr
  have hck : (stepW W t).ck = W.ck ∧ (stepW W t).cv = W.cv ∧ (stepW W t).cp = W.cp := by
    unfold stepW; rw [hr]; dsimp only; split <;> exact ⟨rfl, rfl, rfl⟩
  have h8 : ∀ k, (W.m.word (nd k (crN W.m.word k))).toNat ≤ 8 := fun k => by
    obtain ⟨c, a, b⟩ := hM.cnt k _ (ho.cur7 k)
    rw [a]; omega
  have hzt : kt = false → W.cp t = 0 ∧ ((stepF kt W.m p).ret = true ∨ (stepF kt W.m p).p.pc = 8 → (stepF kt W.m p).p.rp = 0) := by
    intro q
    subst q
    obtain ⟨z1, z2, _⟩ := stepF_zero hP hM (hz t p hr)
    refine ⟨by rw [← c4]; exact (hz t p hr).cp, fun o => ?_⟩
    cases hret : (stepF false W.m p).ret
    · rw [hret] at o
      rcases o with o | o
      · cases o
      · exact (z1 hret).rp (by omega)
    · exact z2 hret
  have msame : ∀ k, kt ≠ k → Same W.m.word (stepF kt W.m p).m.word k := fun k q => mv_same ho hr hmv k (fun z => q z.1)
  have e1' : (stepW W t).m = (stepF kt W.m p).m := e1
  have e2' : (stepW W t).run = updF W.run t (if (stepF kt W.m p).ret then none else some (kt, (stepF kt W.m p).p)) := e2
  have hlog' : (stepW W t).log = if (stepF kt W.m p).ret then W.log ++ [⟨t, true, W.ck t, W.cv t, W.cp t, (stepF kt W.m p).p.ra, (stepF kt W.m p).p.rv, (stepF kt W.m p).p.rp⟩] else W.log := hlog
  clear e1 e2 hlog hmv
  generalize stepF kt W.m p = R at hst e1' e2' hlog' msame hzt
  obtain ⟨m', q, b⟩ := R
  dsimp only at hst e1' e2' hlog' msame hzt
  -- the change, in one place: content, result
  have hpd : ∀ k y, sm6 (pdW k y (stepW W t)) = sm6 (pdW k y W) - pdW k y W t + pdO k y (W.ck t) (W.cv t) (W.cp t) (if b then none else some (kt, q)) := fun k y => by
    rw [sm6_upd (f := pdW k y W) ht fun s hs => by unfold pdW; rw [hck.1, hck.2.1, hck.2.2, e2', updF_ne _ _ hs]]
    unfold pdW
    rw [hck.1, hck.2.1, hck.2.2, e2', updF_same]
  have hpt : ∀ k y, pdW k y W t = pdO k y (W.ck t) (W.cv t) (W.cp t) (some (kt, p)) := fun k y => by unfold pdW; rw [hr]
  have hpo : ∀ k y (r : PG), kt ≠ k → pdO k y (W.ck t) (W.cv t) (W.cp t) (some (kt, r)) = 0 := fun k y r n => by unfold pdO; simp only; rw [if_neg fun z => n z.1]
  have hp7 : ∀ k y (r : PG), r.pc ≠ 8 → pdO k y (W.ck t) (W.cv t) (W.cp t) (some (kt, r)) = 0 := fun k y r n => by unfold pdO; simp only; rw [if_neg fun z => n z.2]
  have hp8 : ∀ y (r : PG), r.pc = 8 → pdO kt y (W.ck t) (W.cv t) (W.cp t) (some (kt, r)) = dl y (W.ck t) (W.cv t) (W.cp t) ⟨r.ra, r.rv, r.rp⟩ := fun y r n => if_pos ⟨rfl, n⟩
  have hother : ∀ k, kt ≠ k → Con k (stepW W t) := fun k n y => by
    have hy := h k y
    rw [hpd, e1', (msame k n).cLi (h8 k), hpt, hpo k y p n, hlog']
    cases b with
    | false => rw [if_neg (by simp), if_neg (by simp), hpo k y q n]; omega
    | true =>
      rw [if_pos rfl, if_pos rfl, lgD_snoc, show evD k y ⟨t, true, W.ck t, W.cv t, W.cp t, q.ra, q.rv, q.rp⟩ = 0 by unfold evD; rw [if_neg fun z => n (c1.trans z.2)]]
      show _ + 0 + (_ - 0 + 0) = _
      omega
  have hcont : ∀ (C' : List (Int × Int)), cLi m'.word kt = C' → (∀ x ∈ C', InR x.1 ∧ InR x.2) → ∀ k x, x ∈ cLi (stepW W t).m.word k → InR x.1 ∧ InR x.2 := fun C' hC hr9 k y hy => by
    rw [e1'] at hy
    by_cases n : kt = k
    · subst n; rw [hC] at hy; exact hr9 y hy
    · rw [(msame k n).cLi (h8 k)] at hy; exact hg.cont k y hy
  have hpend : (b = false → q.pc = 8 → InR q.rv ∧ InR q.rp) → ∀ s k r, (stepW W t).run s = some (k, r) → r.pc = 8 → InR r.rv ∧ InR r.rp := fun hq s k r hr9 hr8 => by
    rw [e2'] at hr9
    by_cases z : s = t
    · subst z
      rw [updF_same] at hr9
      cases b with
      | true => cases hr9
      | false =>
        injection hr9 with hr9
        injection hr9 with _ a2
        subst a2
        exact hq rfl hr8
    · rw [updF_ne _ _ z] at hr9; exact hg.pend s k r hr9 hr8
  have hlg : (b = true → InR q.rv ∧ InR q.rp) → ∀ e ∈ (stepW W t).log, (InR e.cv ∧ InR e.cp) ∧ InR e.rv ∧ InR e.rp := fun hq e he => by
    rw [hlog'] at he
    cases b with
    | false => exact hg.log e he
    | true =>
      rw [if_pos rfl] at he
      rcases List.mem_append.1 he with z | z
      · exact hg.log e z
      · rw [List.mem_singleton] at z; subst z; exact ⟨hg.call t, hq rfl⟩
  have hcall : ∀ s, InR ((stepW W t).cv s) ∧ InR ((stepW W t).cp s) := fun s => by rw [hck.2.1, hck.2.2]; exact hg.call s
  have hev : ∀ y, evD kt y ⟨t, true, W.ck t, W.cv t, W.cp t, q.ra, q.rv, q.rp⟩ = dl y (W.ck t) (W.cv t) (W.cp t) ⟨q.ra, q.rv, q.rp⟩ := fun y => by unfold evD; rw [if_pos ⟨rfl, c1.symm⟩]
  have main : Con kt (stepW W t) ∧ Rg (stepW W t) := by
    cases hst with
    | go h1 h2 hd =>
      refine ⟨fun y => ?_, hcall, hcont _ (hd.cLi (h8 kt)) (hg.cont kt), hpend fun _ z => by omega, hlg fun z => by cases z⟩
      have hy := h kt y
      rw [hpd, e1', hd.cLi (h8 kt), hpt, hp7 kt y p (by omega), hlog', if_neg (by simp), if_neg (by simp), hp7 kt y q (by omega)]
      omega
    | keep h1 hd hra hrv hrp =>
      refine ⟨fun y => ?_, hcall, hcont _ (hd.cLi (h8 kt)) (hg.cont kt), hpend fun z => (by cases z), hlg fun _ => by rw [hrv, hrp]; exact hg.pend t kt p hr h1⟩
      have hy := h kt y
      rw [hpd, e1', hd.cLi (h8 kt), hpt, hp8 y p h1, hlog', if_pos rfl, if_pos rfl, lgD_snoc, hev, hra, hrv, hrp]
      show _ + _ + (_ - _ + 0) = _
      omega
    | swap q0 nn h1 h2 hcn hch hn hcl hra hrv hrp =>
      rw [c2, c3, c4] at hch hn hcl hra hrv hrp
      obtain ⟨P, p1, p2, p3, p4, p5⟩ := commit (rp := q.rp) hcn c1.symm c5 (fun z => ⟨(hzt z).1, (hzt z).2 (.inr h2)⟩) (fun _ => hrp)
      have hli : cLi m'.word kt = (apL (cLi W.m.word kt) (W.ck t) (W.cv t) (W.cp t)).1 := by
        rw [cLi_of p1 p2 p3 p4 ?_ hn hcl, ← p5]
        obtain ⟨_, _, _, n', hn', _⟩ := apply_hdr q0 nn hcn.n hcn.n8 (W.ck t) (W.cv t) (W.cp t)
        rw [hn']; omega
      have hrs : (apL (cLi W.m.word kt) (W.ck t) (W.cv t) (W.cp t)).2.1 = ⟨q.ra, q.rv, q.rp⟩ := by rw [← p5, hra, hrv]
      obtain ⟨g1, g2⟩ := apL_rng (ck := W.ck t) (hg.cont kt) (hg.call t).1 (hg.call t).2
      rw [hrs] at g2
      refine ⟨fun y => ?_, hcall, hcont _ hli g1, hpend fun _ _ => ⟨g2.v, g2.p⟩, hlg fun z => by cases z⟩
      have hy := h kt y
      have hd := apL_dl (cLi W.m.word kt) (W.ck t) (W.cv t) (W.cp t) y
      rw [hpd, e1', hli, hpt, hp7 kt y p (by omega), hlog', if_neg (by simp), if_neg (by simp), hp8 y q h2, hd, hrs]
      omega
    | answer q0 nn h1 hd hcn hch hra hrv hrp =>
      rw [c2, c3, c4] at hch hra hrv hrp
      obtain ⟨P, p1, p2, p3, p4, p5⟩ := commit (rp := q.rp) hcn c1.symm c5 (fun z => ⟨(hzt z).1, (hzt z).2 (.inl rfl)⟩) (fun _ => hrp)
      have hrs : (apL (cLi W.m.word kt) (W.ck t) (W.cv t) (W.cp t)).2.1 = ⟨q.ra, q.rv, q.rp⟩ := by rw [← p5, hra, hrv]
      have hsm := apL_same (C := cLi W.m.word kt) (ck := W.ck t) (cv := W.cv t) (cp := W.cp t) (by rw [← p5]; exact hch)
      obtain ⟨g1, g2⟩ := apL_rng (ck := W.ck t) (hg.cont kt) (hg.call t).1 (hg.call t).2
      rw [hrs] at g2
      refine ⟨fun y => ?_, hcall, hcont _ (hd.cLi (h8 kt)) (hg.cont kt), hpend fun z => (by cases z), hlg fun _ => ⟨g2.v, g2.p⟩⟩
      have hy := h kt y
      have hd9 := apL_dl (cLi W.m.word kt) (W.ck t) (W.cv t) (W.cp t) y
      rw [hsm, hrs] at hd9
      rw [hpd, e1', hd.cLi (h8 kt), hpt, hp7 kt y p (by omega), hlog', if_pos rfl, if_pos rfl, lgD_snoc, hev]
      show _ + _ + (_ - _ + 0) = _
      omega
  refine ⟨fun k => ?_, main.2⟩
  by_cases n : kt = k
  · subst n; exact main.1
  · exact hother k n
def Good7 (W : WS) : Prop := Good4 W ∧ (LW W ≤ 1000100 → CF W ∧ (∀ k, Con k W) ∧ Rg W)
theorem keepG7 : Keep Good7 := ⟨fun _ h => h.1.1,
  fun W t hg hb => ⟨keepG4.step W t hg.1 hb, fun hL => by
    rw [LW_step W t hg.1.1] at hL
    obtain ⟨hs, hz⟩ := hg.1.2 hL
    obtain ⟨h1, h2, h3⟩ := hg.2 hL
    obtain ⟨h4, h5⟩ := con_step h2 h3 hs hz h1 t hb
    exact ⟨h1.step hs t hb, h4, h5⟩⟩,
  fun W t kd u v hg hn ht h0 h7 hu hv => ⟨keepG4.inv W t kd u v hg.1 hn ht h0 h7 hu hv, fun hL => by
    rw [LW_inv W t kd u v ht hn] at hL
    obtain ⟨h1, h2, h3⟩ := hg.2 (by omega)
    exact ⟨h1.inv t kd u v h0 h7, fun k => (h2 k).inv t ht hn kd u v, h3.inv t kd u v hu hv⟩⟩⟩
theorem start_G7 {m : MS} (h : StartM m) : Good7 (W0 m) := by
  have hc : ∀ k, cLi m.word k = [] := fun k => by
    have h0 : m.word (nd k (crN m.word k)) = 0 := by
      obtain ⟨st, m1, h1, h2⟩ := h
      have hc : crN m.word k = 0 := (start_words ⟨st, m1, h1, h2⟩).1 k
      rw [hc, h2.word, h1.word]
      cases k
      · rw [if_neg (by decide), if_neg (by decide), if_neg (by decide), if_neg (by decide), if_neg (by decide), if_pos rfl]
      · rw [if_neg (by decide), if_neg (by decide), if_pos rfl]
    unfold cLi; rw [h0]; rfl
  refine ⟨start_G4 h, fun _ => ⟨fun t k p hr => (by cases hr), fun k x => ?_, ?_⟩⟩
  · show lgD k x [] + sm6 (fun _ => 0) = ((cLi m.word k).count x : Int)
    rw [hc]; rfl
  · refine ⟨fun t => ⟨InR0, InR0⟩, fun k x hx => ?_, fun t k p hr => (by cases hr), fun e he => by cases he⟩
    have hx' : x ∈ cLi m.word k := hx
    rw [hc] at hx'; cases hx'

end Go.Proofs.Qxb6500914aFmt

import Derived.Test.Qxb6500915aGreatDoorK1
namespace Go.Proofs.Qxb6500915aGreatDoor
open Go.Eng
set_option linter.unusedVariables false
set_option linter.unusedSimpArgs false

/-! ## one state of two searches -/
section iso3
theorem SEN.twin {B B' : List Lt} {vs vs' : Nat} {N N' : Nat → Int} {c c' : Core} (h : SEN B B' vs vs' N N' c c') (hB' : DnL vs' B') (hs : StI vs' c'.2) {p q : Nat} (hp : p ∈ unpl B'.length c') (hq : q ∈ unpl B'.length c') (hne : p ≠ q) (hpp : prvA B' c' p) (hqp : prvA B' c' q) (e : rdJ B' c' p = rdJ B' c' q) : ∃ N'', SEN B B' vs vs' N N'' c c' ∧ lab N'' (Bj B' p) = lab N' (Bj B' q) := by
  unfold rdJ rdL at e
  injection e with e1 e2 e3 e4
  have T : Tw vs' c'.2 (Bj B' p).a (Bj B' q).a := ⟨hs, Bj_dn hB' p, Bj_dn hB' q, e4, fun v hv hf => hpp v hv hf q hq (fun h9 => hne h9.symm)⟩
  have l1 : lab (fun v => N' (sw c'.2.1 (Bj B' p).a (Bj B' q).a v)) (Bj B' p) = lab N' (Bj B' q) := by
    have := T.lab1 N'
    unfold lab chL
    rw [e1, e2, e3]
    congr 1
  have l2 : lab (fun v => N' (sw c'.2.1 (Bj B' p).a (Bj B' q).a v)) (Bj B' q) = lab N' (Bj B' p) := by
    have := T.lab2 N'
    unfold lab chL
    rw [e1, e2, e3]
    congr 1
  refine ⟨fun v => N' (sw c'.2.1 (Bj B' p).a (Bj B' q).a v), ⟨h.i, fun u v hu hv h9 => ?_, ⟨h.r.l, h.r.l', h.r.nx, fun v v' hv hv' h9 => ?_⟩, ?_⟩, l1⟩
  · have h1 := h.i' _ _ (T.lt hu) (T.lt hv) h9
    have h2 := congrArg (sw c'.2.1 (Bj B' p).a (Bj B' q).a) h1
    rwa [T.inv, T.inv] at h2
  · rw [← T.nm v']; exact h.r.r v _ hv (T.lt hv') h9
  · refine h.m.trans ?_
    have hd := unpl_nd B'.length c'
    have hq2 : q ∈ (unpl B'.length c').filter (fun x => x != p) := List.mem_filter.2 ⟨hq, by simpa using fun h9 => hne h9.symm⟩
    have p1 := List.perm_cons_erase hp
    rw [List.Nodup.erase_eq_filter hd] at p1
    have p2 := List.perm_cons_erase hq2
    rw [List.Nodup.erase_eq_filter (List.Pairwise.filter _ hd)] at p2
    have p3 := p1.trans (List.Perm.cons p p2)
    refine (p3.map _).trans (List.Perm.trans ?_ (p3.map _).symm)
    rw [List.map_cons, List.map_cons, List.map_cons, List.map_cons, l1, l2]
    refine (List.Perm.swap _ _ _).trans ?_
    have : List.map (fun j => lab N' (Bj B' j)) (((unpl B'.length c').filter (fun x => x != p)).filter (fun x => x != q)) = List.map (fun j => lab (fun v => N' (sw c'.2.1 (Bj B' p).a (Bj B' q).a v)) (Bj B' j)) (((unpl B'.length c').filter (fun x => x != p)).filter (fun x => x != q)) := by
      apply List.map_congr_left
      intro j hj
      rw [List.mem_filter, List.mem_filter] at hj
      have hjp : j ≠ p := by simpa using hj.1.2
      have hjq : j ≠ q := by simpa using hj.2
      exact (T.lab0 N' (fun v hv hf => hpp v hv hf j hj.1.1 hjp) (fun v hv hf => hqp v hv hf j hj.1.1 hjq)).symm
    rw [this]
/-! ### bits -/
theorem xor64 (x y : Int) : BitVec.ofInt 64 (bitsOf .xor .u64 x y) = BitVec.ofInt 64 x ^^^ BitVec.ofInt 64 y := by
  show BitVec.ofInt 64 (IntKind.u64.wrap ((BitVec.ofInt 64 x ^^^ BitVec.ofInt 64 y).toNat : Int)) = _
  rw [wrap64 _ (BitVec.isLt _), ofInt_nat]
theorem ones64 : ∀ j : Fin 64, (BitVec.ofInt 64 18446744073709551615).getLsbD j.1 = true := by decide
theorem bt_oth (pl : Int) {j : Nat} (hj : j < 64) {i : Nat} (hi : i < 64) : bt (othP pl j) i = !(bt pl i || decide (j = i)) := by
  unfold othP
  have h1 := bt_or pl hj i
  unfold bt at h1 ⊢
  rw [xor64, BitVec.getLsbD_xor, ones64 ⟨i, hi⟩, h1]
  simp
theorem and_ne (x y : Int) : ¬ bitsOf .and .u64 x y = 0 ↔ ∃ i, i < 64 ∧ bt x i = true ∧ bt y i = true := by
  rw [and64]
  constructor
  · intro h
    refine Classical.byContradiction fun hc => h ?_
    have : BitVec.ofInt 64 x &&& BitVec.ofInt 64 y = 0#64 := by
      apply BitVec.eq_of_getLsbD_eq
      intro i hi
      rw [BitVec.getLsbD_and, BitVec.getLsbD_zero]
      cases h1 : (BitVec.ofInt 64 x).getLsbD i with
      | false => rfl
      | true =>
        cases h2 : (BitVec.ofInt 64 y).getLsbD i with
        | false => rfl
        | true => exact absurd ⟨i, hi, h1, h2⟩ hc
    rw [this]; rfl
  · rintro ⟨i, hi, h1, h2⟩ h
    have h3 : BitVec.ofInt 64 x &&& BitVec.ofInt 64 y = 0#64 := by
      apply BitVec.eq_of_toNat_eq
      rw [BitVec.toNat_ofNat]; omega
    have h4 : (BitVec.ofInt 64 x &&& BitVec.ofInt 64 y).getLsbD i = true := by rw [BitVec.getLsbD_and]; unfold bt at h1 h2; rw [h1, h2]; rfl
    rw [h3, BitVec.getLsbD_zero] at h4; cases h4
theorem prv_iff {vs : Nat} {B : List Lt} {oc : List Int} (hn : B.length ≤ 64) (hB : DnL vs B) (ho : OcI B oc) (hl : oc.length = vs) {c : Core} {j : Nat} (hj : j < B.length) : prvP oc c.2.1 c.1 j (Bj B j).a = true ↔ prvA B c j := by
  unfold prvP
  rw [List.all_eq_true]
  constructor
  · intro h v hv hf i hi hne hm
    obtain ⟨t, ht, hk, e⟩ := mem_vN.1 hv
    have h1 := h t ht
    have hvl := vN_lt (Bj_dn hB j) hv
    have hiu := mem_unpl.1 hi
    have h2 : ¬ bitsOf .and .u64 (fnI oc v) (othP c.1 j) = 0 := by
      rw [and_ne]
      refine ⟨i, by omega, (ho v i (by omega) (by omega)).2 ⟨hiu.1, hm⟩, ?_⟩
      rw [bt_oth _ (by omega) (by omega), hiu.2, decide_eq_false (fun h9 => hne h9.symm)]; rfl
    unfold badT at h1
    rw [e] at h1
    simp [hk, hf, h2] at h1
  · intro h t ht
    unfold badT
    by_cases hk : t.k = 0
    · by_cases hf : fnI c.2.1 t.v.toNat = -1
      · have hv : t.v.toNat ∈ vN (Bj B j).a := mem_vN.2 ⟨t, ht, hk, rfl⟩
        have h2 : bitsOf .and .u64 (fnI oc t.v.toNat) (othP c.1 j) = 0 := by
          refine Classical.byContradiction fun h9 => ?_
          obtain ⟨i, hi, h3, h4⟩ := (and_ne _ _).1 h9
          rw [bt_oth _ (by omega) hi] at h4
          have h5 := (ho _ i (by rw [hl]; exact vN_lt (Bj_dn hB j) hv) hi).1 h3
          have h6 : bt c.1 i = false ∧ ¬ j = i := by
            cases hb : bt c.1 i <;> simp [hb] at h4
            exact ⟨rfl, h4⟩
          exact h _ hv hf i (mem_unpl.2 ⟨h5.1, h6.1⟩) (fun h9 => h6.2 h9.symm) h5.2
        simp [h2]
      · simp [hf]
    · simp [hk]
/-! ### classes of picks -/
def keyN (oc : List Int) (N : Nat → Int) (B : List Lt) (c : Core) (j : Nat) : Option Lt := if prvP oc c.2.1 c.1 j (Bj B j).a = true then none else some (lab N (Bj B j))
theorem lab_inj {vs : Nat} {N : Nat → Int} (hN : InjN N vs) {l l' : Lt} (hd : ∀ t, t ∈ l.a → Dn vs t) (hd' : ∀ t, t ∈ l'.a → Dn vs t) (e : lab N l = lab N l') : l = l' := by
  unfold lab chL at e
  injection e with e1 e2 e3 e4
  have key : ∀ (a b : List Tm), (∀ t, t ∈ a → Dn vs t) → (∀ t, t ∈ b → Dn vs t) → a.map (chT fun v => N v.toNat) = b.map (chT fun v => N v.toNat) → a = b := by
    intro a
    induction a with
    | nil => intro b _ _ h; cases b with
      | nil => rfl
      | cons y b => cases h
    | cons x a ih =>
      intro b h1 h2 h
      cases b with
      | nil => cases h
      | cons y b =>
        rw [List.map_cons, List.map_cons] at h
        injection h with h3 h4
        have hxy : x = y := by
          have hk : x.k = y.k := by have := congrArg Tm.k h3; rwa [chT_k, chT_k] at this
          by_cases h0 : x.k = 0
          · have h0' : y.k = 0 := by omega
            rw [chT_v h0, chT_v h0'] at h3
            injection h3 with _ g2 g3 g4
            obtain ⟨a1, a2⟩ := dn_nat (h1 x (by simp)) h0
            obtain ⟨b1, b2⟩ := dn_nat (h2 y (by simp)) h0'
            have := hN _ _ a1 b1 g2
            cases x; cases y
            simp only at *
            rw [hk, g3, g4, a2, b2, this]
          · rw [chT_n h0, chT_n (by omega)] at h3; exact h3
        rw [hxy, ih b (fun t ht => h1 t (by simp [ht])) (fun t ht => h2 t (by simp [ht])) h4]
  have ha := key _ _ hd hd' e4
  cases l; cases l'
  simp only at *
  rw [e1, e2, e3, ha]
def twB (B : List Lt) (oc : List Int) (c : Core) (y x : Nat) : Bool := twinP oc c.2.1 c.1 y x (Bj B y) (Bj B x)
theorem twin_iff {vs : Nat} {B : List Lt} {oc : List Int} (hn : B.length ≤ 64) (hB : DnL vs B) (ho : OcI B oc) (hl : oc.length = vs) {N : Nat → Int} (hN : InjN N vs) {c : Core} {i j : Nat} (hi : i ∈ unpl B.length c) (hj : j ∈ unpl B.length c) (hne : i ≠ j) : twB B oc c i j = true ↔ keyN oc N B c i = keyN oc N B c j := by
  have hil := (mem_unpl.1 hi).1
  have hjl := (mem_unpl.1 hj).1
  have pi := prv_iff (c := c) hn hB ho hl hil
  have pj := prv_iff (c := c) hn hB ho hl hjl
  have same : Bj B i = Bj B j → (prvA B c i ↔ prvA B c j) := by
    intro e
    constructor
    · intro h v hv hf; exact absurd (e ▸ hv) (h v (by rw [e]; exact hv) hf j hj (fun h9 => hne h9.symm))
    · intro h v hv hf; exact absurd (e ▸ hv) (h v (by rw [← e]; exact hv) hf i hi hne)
  unfold twB twinP keyN
  rw [Bool.or_eq_true, Bool.and_eq_true, decide_eq_true_eq]
  by_cases h1 : prvP oc c.2.1 c.1 i (Bj B i).a = true <;> by_cases h2 : prvP oc c.2.1 c.1 j (Bj B j).a = true
  · rw [if_pos h1, if_pos h2]; exact ⟨fun _ => rfl, fun _ => .inr ⟨h1, h2⟩⟩
  · rw [if_pos h1, if_neg h2]
    refine ⟨fun h => ?_, fun h => by cases h⟩
    rcases h with h | h
    · exact absurd (pj.2 ((same (cmpL_eq h)).1 (pi.1 h1))) h2
    · exact absurd h.2 h2
  · rw [if_neg h1, if_pos h2]
    refine ⟨fun h => ?_, fun h => by cases h⟩
    rcases h with h | h
    · exact absurd (pi.2 ((same (cmpL_eq h)).2 (pj.1 h2))) h1
    · exact absurd h.1 h1
  · rw [if_neg h1, if_neg h2, Option.some.injEq]
    constructor
    · rintro (h | h)
      · rw [cmpL_eq h]
      · exact absurd h.1 h1
    · intro h
      exact .inl (by rw [lab_inj hN (Bj_dn hB i) (Bj_dn hB j) h]; exact cmpL_self _)
def keptL (tw : Nat → Nat → Bool) : List Nat → List Nat → List Nat
  | _, [] => []
  | seen, x :: xs => if (seen.any fun y => tw y x) = true then keptL tw (seen ++ [x]) xs else x :: keptL tw (seen ++ [x]) xs
theorem kept_snoc (tw : Nat → Nat → Bool) (x : Nat) : ∀ (xs seen : List Nat), keptL tw seen (xs ++ [x]) = keptL tw seen xs ++ (if ((seen ++ xs).any fun y => tw y x) = true then [] else [x])
  | [], seen => by
    show (if _ then keptL tw (seen ++ [x]) [] else x :: keptL tw (seen ++ [x]) []) = [] ++ _
    rw [List.append_nil, List.nil_append]; rfl
  | z :: xs, seen => by
    have ih := kept_snoc tw x xs (seen ++ [z])
    rw [List.append_assoc] at ih
    show (if _ then keptL tw (seen ++ [z]) (xs ++ [x]) else z :: keptL tw (seen ++ [z]) (xs ++ [x])) = (if _ then keptL tw (seen ++ [z]) xs else z :: keptL tw (seen ++ [z]) xs) ++ _
    rw [ih]
    by_cases h : (seen.any fun y => tw y z) = true
    · rw [if_pos h, if_pos h]; rfl
    · rw [if_neg h, if_neg h]; rfl
theorem kept_keys {κ : Type} (tw : Nat → Nat → Bool) (key : Nat → κ) : ∀ (xs seen : List Nat), (seen ++ xs).Nodup → (∀ y x, y ∈ seen ++ xs → x ∈ seen ++ xs → y ≠ x → (tw y x = true ↔ key y = key x)) → ((keptL tw seen xs).map key).Nodup ∧ (∀ j, j ∈ keptL tw seen xs → j ∈ xs ∧ key j ∉ seen.map key) ∧ (∀ j, j ∈ xs → key j ∉ seen.map key → key j ∈ (keptL tw seen xs).map key)
  | [], seen, _, _ => ⟨List.nodup_nil, fun j hj => (by cases hj), fun j hj => (by cases hj)⟩
  | x :: xs, seen, hd, ht => by
    have e : seen ++ x :: xs = (seen ++ [x]) ++ xs := by simp
    obtain ⟨h1, h2, h3⟩ := kept_keys tw key xs (seen ++ [x]) (e ▸ hd) (fun y z hy hz => ht y z (by rw [e]; exact hy) (by rw [e]; exact hz))
    have hxs : ∀ y, y ∈ seen → y ≠ x := fun y hy h9 => by
      rw [List.nodup_append] at hd
      exact hd.2.2 y hy x (by simp) h9
    have hany : (seen.any fun y => tw y x) = true ↔ key x ∈ seen.map key := by
      rw [List.any_eq_true, List.mem_map]
      constructor
      · rintro ⟨y, hy, h⟩; exact ⟨y, hy, (ht y x (List.mem_append_left _ hy) (by simp) (hxs y hy)).1 h⟩
      · rintro ⟨y, hy, h⟩; exact ⟨y, hy, (ht y x (List.mem_append_left _ hy) (by simp) (hxs y hy)).2 h⟩
    by_cases h : (seen.any fun y => tw y x) = true
    · have ek : keptL tw seen (x :: xs) = keptL tw (seen ++ [x]) xs := by show (if _ then _ else _) = _; rw [if_pos h]
      rw [ek]
      have hxk := hany.1 h
      refine ⟨h1, fun j hj => ⟨List.mem_cons_of_mem _ (h2 j hj).1, fun h9 => (h2 j hj).2 (by rw [List.map_append]; exact List.mem_append_left _ h9)⟩, fun j hj hk => ?_⟩
      rcases List.mem_cons.1 hj with rfl | hj
      · exact absurd hxk hk
      · refine h3 j hj fun h9 => ?_
        rw [List.map_append] at h9
        rcases List.mem_append.1 h9 with h8 | h8
        · exact hk h8
        · have : key j = key x := by simpa using h8
          exact hk (this ▸ hxk)
    · have ek : keptL tw seen (x :: xs) = x :: keptL tw (seen ++ [x]) xs := by show (if _ then _ else _) = _; rw [if_neg h]
      rw [ek]
      have hxk : key x ∉ seen.map key := fun h9 => h (hany.2 h9)
      refine ⟨?_, fun j hj => ?_, fun j hj hk => ?_⟩
      · rw [List.map_cons, List.nodup_cons]
        refine ⟨fun h9 => ?_, h1⟩
        obtain ⟨j, hj, e9⟩ := List.mem_map.1 h9
        exact (h2 j hj).2 (by rw [e9, List.map_append]; simp)
      · rcases List.mem_cons.1 hj with rfl | hj
        · exact ⟨by simp, hxk⟩
        · exact ⟨List.mem_cons_of_mem _ (h2 j hj).1, fun h9 => (h2 j hj).2 (by rw [List.map_append]; exact List.mem_append_left _ h9)⟩
      · rw [List.map_cons]
        rcases List.mem_cons.1 hj with rfl | hj
        · exact List.mem_cons_self ..
        · by_cases h9 : key j = key x
          · rw [h9]; exact List.mem_cons_self ..
          · refine List.mem_cons_of_mem _ (h3 j hj fun h8 => ?_)
            rw [List.map_append] at h8
            rcases List.mem_append.1 h8 with h7 | h7
            · exact hk h7
            · exact h9 (by simpa using h7)
/-! ### lists matched one to one -/
def Al {α β : Type} (R : α → β → Prop) : List α → List β → Prop
  | [], [] => True
  | a :: xs, b :: bs => R a b ∧ Al R xs bs
  | _, _ => False
theorem Al.len {α β : Type} {R : α → β → Prop} : ∀ {xs : List α} {bs : List β}, Al R xs bs → xs.length = bs.length
  | [], [], _ => rfl
  | a :: xs, b :: bs, h => by rw [List.length_cons, List.length_cons, Al.len h.2]
theorem Al.app {α β : Type} {R : α → β → Prop} : ∀ {xs xs2 : List α} {bs bs2 : List β}, Al R xs bs → Al R xs2 bs2 → Al R (xs ++ xs2) (bs ++ bs2)
  | [], _, [], _, _, h => h
  | a :: xs, _, b :: bs, _, h, h2 => ⟨h.1, Al.app h.2 h2⟩
theorem Al.maps {α β γ δ : Type} {R : α → β → Prop} {f : γ → α} {g : δ → β} : ∀ {xs : List γ} {bs : List δ}, Al (fun x y => R (f x) (g y)) xs bs → Al R (xs.map f) (bs.map g)
  | [], [], _ => trivial
  | a :: xs, b :: bs, h => ⟨h.1, Al.maps h.2⟩
theorem Al.imp {α β : Type} {R S : α → β → Prop} : ∀ {xs : List α} {bs : List β}, Al R xs bs → (∀ a b, a ∈ xs → b ∈ bs → R a b → S a b) → Al S xs bs
  | [], [], _, _ => trivial
  | a :: xs, b :: bs, h, hs => ⟨hs a b (by simp) (by simp) h.1, Al.imp h.2 fun x y hx hy => hs x y (by simp [hx]) (by simp [hy])⟩
theorem al_of_maps {α β κ : Type} {f : α → κ} {g : β → κ} : ∀ {xs : List α} {bs : List β}, xs.map f = bs.map g → Al (fun a b => f a = g b) xs bs
  | [], [], _ => trivial
  | [], _ :: _, h => by cases h
  | _ :: _, [], h => by cases h
  | a :: xs, b :: bs, h => by
    rw [List.map_cons, List.map_cons] at h
    injection h with h1 h2
    exact ⟨h1, al_of_maps h2⟩
theorem perm_maps {α β κ : Type} [DecidableEq β] {f : α → κ} {g : β → κ} : ∀ {xs : List α} {bs : List β}, (xs.map f).Perm (bs.map g) → ∃ l : List β, l.Perm bs ∧ xs.map f = l.map g
  | [], bs, h => by
    have := h.length_eq
    rw [List.length_map, List.length_map] at this
    have : bs = [] := List.eq_nil_of_length_eq_zero this.symm
    subst this
    exact ⟨[], List.Perm.refl _, rfl⟩
  | a :: xs, bs, h => by
    rw [List.map_cons] at h
    have h1 : f a ∈ bs.map g := h.mem_iff.1 (by simp)
    obtain ⟨b, hb, e⟩ := List.mem_map.1 h1
    have h2 := (List.perm_cons_erase hb)
    have h3 := h.trans (h2.map g)
    rw [List.map_cons, e] at h3
    obtain ⟨l, h4, h5⟩ := perm_maps h3.cons_inv
    exact ⟨b :: l, (List.Perm.cons b h4).trans h2.symm, by rw [List.map_cons, List.map_cons, h5, e]⟩
end iso3

end Go.Proofs.Qxb6500915aGreatDoor

import Derived.Test.Qxb6500915aGreatDoorK4
namespace Go.Proofs.Qxb6500915aGreatDoor
open Go.Eng
set_option linter.unusedVariables false
set_option linter.unusedSimpArgs false

/-! ## the canonical form is a variant -/
section hist
theorem idN (vs : Nat) : InjN (fun v => (v : Int)) vs := fun u v _ _ e => by have : (u : Int) = v := e; omega
theorem nvs_occ : ∀ {ts : List Tm} {vs : List Int} {x : Int}, x ∈ nvs vs ts → x ∈ vs ∨ ∃ t, t ∈ ts ∧ t.k = 0 ∧ t.v = x
  | [], _, _, h => .inl h
  | t :: ts, vs, x, h => by
    rcases nvs_occ (ts := ts) (vs := nvS vs t) (x := x) h with h1 | ⟨q, h1, h2⟩
    · unfold nvS at h1
      split at h1
      · rename_i hc
        rcases List.mem_append.1 h1 with h2 | h2
        · exact .inl h2
        · exact .inr ⟨t, by simp, hc.1, (List.mem_singleton.1 h2).symm⟩
      · exact .inl h1
    · exact .inr ⟨q, by simp [h1], h2⟩
theorem lvars_occ : ∀ {ls : List Lt} {vs : List Int} {x : Int}, x ∈ ls.foldl (fun vs l => nvs vs l.a) vs → x ∈ vs ∨ ∃ l t, l ∈ ls ∧ t ∈ l.a ∧ t.k = 0 ∧ t.v = x
  | [], _, _, h => .inl h
  | l :: ls, vs, x, h => by
    rcases lvars_occ (ls := ls) (vs := nvs vs l.a) (x := x) h with h1 | ⟨q, t, h1, h2⟩
    · rcases nvs_occ h1 with h2 | ⟨t, h2, h3⟩
      · exact .inl h2
      · exact .inr ⟨l, t, by simp, h2, h3⟩
    · exact .inr ⟨q, t, by simp [h1], h2⟩
theorem vars_occ {r : Ru} {x : Int} (h : x ∈ vars r) : (∃ t, t ∈ r.a ∧ t.k = 0 ∧ t.v = x) ∨ ∃ l t, l ∈ r.b ∧ t ∈ l.a ∧ t.k = 0 ∧ t.v = x := by
  rcases lvars_occ h with h1 | h1
  · rcases nvs_occ h1 with h2 | h2
    · cases h2
    · exact .inl h2
  · exact .inr h1
def rdB (s : Nm) : List Lt → Nm × List Lt
  | [] => (s, [])
  | l :: ls => ((rdB (rdTs s l.a).1 ls).1, rdL s l :: (rdB (rdTs s l.a).1 ls).2)
theorem rdB_snoc (s : Nm) (l : Lt) : ∀ ls : List Lt, rdB s (ls ++ [l]) = ((rdTs (rdB s ls).1 l.a).1, (rdB s ls).2 ++ [rdL (rdB s ls).1 l])
  | [] => rfl
  | x :: ls => by
    have ih := rdB_snoc (rdTs s x.a).1 l ls
    show ((rdB (rdTs s x.a).1 (ls ++ [l])).1, rdL s x :: (rdB (rdTs s x.a).1 (ls ++ [l])).2) = _
    rw [ih]; rfl
theorem rdB_st {vs : Nat} : ∀ {ls : List Lt} {s : Nm}, StI vs s → DnL vs ls → StI vs (rdB s ls).1
  | [], _, h, _ => h
  | l :: ls, s, h, hd => rdB_st (ls := ls) (h.rd (fun t ht => hd l t (by simp) ht)) (fun x t hx ht => hd x t (by simp [hx]) ht)
theorem rdB_keep {vs : Nat} : ∀ {ls : List Lt} {s : Nm}, StI vs s → DnL vs ls → ∀ {v : Nat}, ¬ fnI s.1 v = -1 → fnI (rdB s ls).1.1 v = fnI s.1 v
  | [], _, _, _, _, _ => rfl
  | l :: ls, s, h, hd, v, hv => by
    have h1 := rd_keep h (fun t ht => hd l t (by simp) ht) hv
    show fnI (rdB (rdTs s l.a).1 ls).1.1 v = _
    rw [rdB_keep (h.rd (fun t ht => hd l t (by simp) ht)) (fun x t hx ht => hd x t (by simp [hx]) ht) (by rw [h1]; exact hv), h1]
theorem lbT_congr {N N' : Nat → Int} {ts : List Tm} (h : ∀ v, v ∈ vN ts → N v = N' v) : ts.map (lbT N) = ts.map (lbT N') := by
  apply List.map_congr_left
  intro t ht
  unfold lbT
  by_cases hk : t.k = 0
  · rw [chT_v hk, chT_v hk, h _ (mem_vN.2 ⟨t, ht, hk, rfl⟩)]
  · rw [chT_n hk, chT_n hk]
theorem rdB_val {vs : Nat} : ∀ {ls : List Lt} {s : Nm}, StI vs s → DnL vs ls → (rdB s ls).2 = ls.map (lab (fnI (rdB s ls).1.1)) ∧ ∀ l v, l ∈ ls → v ∈ vN l.a → ¬ fnI (rdB s ls).1.1 v = -1
  | [], _, _, _ => ⟨rfl, fun l v hl => by cases hl⟩
  | l :: ls, s, h, hd => by
    have hd1 : ∀ t, t ∈ l.a → Dn vs t := fun t ht => hd l t (by simp) ht
    have hd2 : DnL vs ls := fun x t hx ht => hd x t (by simp [hx]) ht
    have hs := h.rd hd1
    obtain ⟨h1, h2⟩ := rdB_val hs hd2
    obtain ⟨h3, h4⟩ := rd_val h hd1
    have e1 : (rdB s (l :: ls)).1 = (rdB (rdTs s l.a).1 ls).1 := rfl
    have e2 : (rdB s (l :: ls)).2 = rdL s l :: (rdB (rdTs s l.a).1 ls).2 := rfl
    have hk : ∀ v, v ∈ vN l.a → fnI (rdB (rdTs s l.a).1 ls).1.1 v = fnI (rdTs s l.a).1.1 v := fun v hv => rdB_keep hs hd2 (h4 v hv)
    rw [e1, e2, List.map_cons]
    refine ⟨?_, fun x v hx hv => ?_⟩
    · rw [h1]
      congr 1
      show (⟨l.k, l.o, l.p, (rdTs s l.a).2⟩ : Lt) = ⟨l.k, l.o, l.p, l.a.map (lbT (fnI (rdB (rdTs s l.a).1 ls).1.1))⟩
      rw [h3, lbT_congr hk]
    · rcases List.mem_cons.1 hx with rfl | hx
      · rw [hk v hv]; exact h4 v hv
      · exact h2 x v hx hv
/-- how a state came to be -/
structure Hst (B : List Lt) (h1 : Nm) (out : List Lt) (c : Core) (S : List Nat) : Prop where
  nd : S.Nodup
  lt : ∀ j, j ∈ S → j < B.length
  b : ∀ j, j < B.length → (bt c.1 j = true ↔ j ∈ S)
  o : out = (rdB h1 (S.map (Bj B))).2
  s : c.2 = (rdB h1 (S.map (Bj B))).1
theorem Hst.len {B : List Lt} {h1 : Nm} {out : List Lt} {c : Core} {S : List Nat} (h : Hst B h1 out c S) : S.length = out.length := by
  have : ∀ (ls : List Lt) (s : Nm), (rdB s ls).2.length = ls.length := by
    intro ls
    induction ls with
    | nil => intro s; rfl
    | cons l ls ih => intro s; show (rdL s l :: (rdB (rdTs s l.a).1 ls).2).length = _; rw [List.length_cons, ih, List.length_cons]
  rw [h.o, this, List.length_map]
theorem Hst.unp {B : List Lt} {h1 : Nm} {out : List Lt} {c : Core} {S : List Nat} (h : Hst B h1 out c S) : (S ++ unpl B.length c).Perm (List.range B.length) := by
  refine (List.perm_ext_iff_of_nodup ?_ List.nodup_range).2 fun j => ?_
  · rw [List.nodup_append]
    refine ⟨h.nd, unpl_nd _ _, fun a ha b hb e => ?_⟩
    subst e
    have h2 := mem_unpl.1 hb
    have h3 := (h.b a h2.1).2 ha
    rw [h3] at h2; cases h2.2
  · rw [List.mem_append, List.mem_range, mem_unpl]
    constructor
    · rintro (h2 | h2)
      · exact h.lt j h2
      · exact h2.1
    · intro hj
      cases hb : bt c.1 j with
      | true => exact .inl ((h.b j hj).1 hb)
      | false => exact .inr ⟨hj, rfl⟩
theorem Hst.next {B : List Lt} (hn : B.length ≤ 64) {h1 : Nm} {out : List Lt} {c : Core} {S : List Nat} (h : Hst B h1 out c S) {j : Nat} (hj : j ∈ unpl B.length c) {b : Lt} (hb : rdJ B c j = b) : Hst B h1 (out ++ [b]) (newC c (Bj B j) j) (S ++ [j]) := by
  have hju := mem_unpl.1 hj
  have hjS : j ∉ S := fun h9 => by rw [(h.b j hju.1).2 h9] at hju; cases hju.2
  have e := rdB_snoc h1 (Bj B j) (S.map (Bj B))
  refine ⟨?_, fun i hi => ?_, fun i hi => ?_, ?_, ?_⟩
  · rw [List.nodup_append]
    exact ⟨h.nd, by simp, fun a ha b hb e => by rw [List.mem_singleton] at hb; exact hjS (hb ▸ e ▸ ha)⟩
  · rcases List.mem_append.1 hi with h2 | h2
    · exact h.lt i h2
    · rw [List.mem_singleton.1 h2]; exact hju.1
  · show bt (bitsOf .or .u64 c.1 (sh64 j)) i = true ↔ _
    rw [bt_or _ (by omega), Bool.or_eq_true, h.b i hi, decide_eq_true_eq, List.mem_append, List.mem_singleton]
    exact ⟨fun h9 => h9.elim .inl fun h8 => .inr h8.symm, fun h9 => h9.elim .inl fun h8 => .inr h8.symm⟩
  · rw [List.map_append, List.map_cons, List.map_nil, e, ← h.o, ← h.s]
    show _ = out ++ [rdJ B c j]
    rw [hb]
  · rw [List.map_append, List.map_cons, List.map_nil, e, ← h.s]; rfl
theorem nxt_hst {B : List Lt} {oc : List Int} {vs : Nat} (hI : BI B oc vs) {h1 : Nm} {out : List Lt} {cs : List Core} (h : ∀ c, c ∈ cs → ∃ S, Hst B h1 out c S) (b : Lt) : ∀ c, c ∈ cs.flatMap (nxt B oc b) → ∃ S, Hst B h1 (out ++ [b]) c S := by
  intro c hc
  obtain ⟨c0, a1, a2⟩ := List.mem_flatMap.1 hc
  obtain ⟨j, a3, rfl⟩ := List.mem_map.1 a2
  obtain ⟨S, hS⟩ := h c0 a1
  have a4 := mem_pks.1 ((kept_pks hI (N := fun v => (v : Int)) (idN _) b c0).2.1 j a3)
  exact ⟨S ++ [j], hS.next hI.n a4.1 a4.2⟩
theorem best_mem {B : List Lt} (hn : B.length ≤ 64) {cs : List Core} {h1 : Nm} {out : List Lt} (h0 : cs ≠ []) (h : ∀ c, c ∈ cs → ∃ S, Hst B h1 out c S) (hl : out.length < B.length) : (∃ c j, c ∈ cs ∧ j ∈ unpl B.length c ∧ rdJ B c j = (outerP B cs cs.length).1) ∧ ∀ c j, c ∈ cs → j ∈ unpl B.length c → cmpL (outerP B cs cs.length).1 (rdJ B c j) ≤ 0 := by
  rw [best_flat hn]
  have hM := isMin (cs.flatMap (rds B))
  obtain ⟨c0, cs', rfl⟩ := List.exists_cons_of_ne_nil h0
  obtain ⟨S, hS⟩ := h c0 (by simp)
  have hne : unpl B.length c0 ≠ [] := fun h9 => by
    have h2 := hS.unp.length_eq
    rw [h9, List.append_nil, hS.len, List.length_range] at h2
    omega
  obtain ⟨j0, L, hj0⟩ := List.exists_cons_of_ne_nil hne
  cases hq : minL ((c0 :: cs').flatMap (rds B)) with
  | none =>
    have h2 := hM.z.1 hq
    have h3 : rdJ B c0 j0 ∈ (c0 :: cs').flatMap (rds B) := List.mem_flatMap.2 ⟨c0, by simp, List.mem_map.2 ⟨j0, by rw [hj0]; simp, rfl⟩⟩
    rw [h2] at h3; cases h3
  | some b =>
    have h2 := hM.m b hq
    obtain ⟨c, hc, hb⟩ := List.mem_flatMap.1 h2.1
    obtain ⟨j, hj, e⟩ := List.mem_map.1 hb
    exact ⟨⟨c, j, hc, hj, e⟩, fun c j hc hj => h2.2 _ (List.mem_flatMap.2 ⟨c, hc, List.mem_map.2 ⟨j, hj, rfl⟩⟩)⟩
theorem nxt_ne {B : List Lt} {oc : List Int} {vs : Nat} (hI : BI B oc vs) {cs : List Core} {h1 : Nm} {out : List Lt} (h0 : cs ≠ []) (h : ∀ c, c ∈ cs → ∃ S, Hst B h1 out c S) (hl : out.length < B.length) : cs.flatMap (nxt B oc (outerP B cs cs.length).1) ≠ [] := by
  obtain ⟨⟨c, j, hc, hj, e⟩, _⟩ := best_mem hI.n h0 h hl
  have h2 := (kept_pks hI (N := fun v => (v : Int)) (idN _) (outerP B cs cs.length).1 c).2.2 j (mem_pks.2 ⟨hj, e⟩)
  obtain ⟨k, hk, _⟩ := List.mem_map.1 h2
  intro h9
  have h3 : newC c (Bj B k) k ∈ cs.flatMap (nxt B oc (outerP B cs cs.length).1) := List.mem_flatMap.2 ⟨c, hc, List.mem_map.2 ⟨k, hk, rfl⟩⟩
  rw [h9] at h3; cases h3
/-- kinds never fall -/
structure Knd (B : List Lt) (out : List Lt) (cs : List Core) : Prop where
  s : out.Pairwise fun x y => x.k ≤ y.k
  u : ∀ c j x, c ∈ cs → j ∈ unpl B.length c → x ∈ out → x.k ≤ (Bj B j).k
theorem cmpL_k {x y : Lt} (h : cmpL x y ≤ 0) : x.k ≤ y.k := by
  unfold cmpL thn cmpI at h
  by_cases h1 : x.k < y.k
  · omega
  · by_cases h2 : y.k < x.k
    · simp [h1, h2] at h
    · omega
theorem Knd.next {B : List Lt} {oc : List Int} {vs : Nat} (hI : BI B oc vs) {cs : List Core} {h1 : Nm} {out : List Lt} (hK : Knd B out cs) (h0 : cs ≠ []) (h : ∀ c, c ∈ cs → ∃ S, Hst B h1 out c S) (hl : out.length < B.length) : Knd B (out ++ [(outerP B cs cs.length).1]) (cs.flatMap (nxt B oc (outerP B cs cs.length).1)) := by
  obtain ⟨⟨c, j, hc, hj, e⟩, hle⟩ := best_mem hI.n h0 h hl
  have hk : (outerP B cs cs.length).1.k = (Bj B j).k := by rw [← e]; rfl
  refine ⟨?_, fun c2 i x hc2 hi hx => ?_⟩
  · rw [List.pairwise_append]
    refine ⟨hK.s, by simp, fun x hx y hy => ?_⟩
    rw [List.mem_singleton.1 hy, hk]
    exact hK.u c j x hc hj hx
  · obtain ⟨c0, a1, a2⟩ := List.mem_flatMap.1 hc2
    obtain ⟨p, a3, rfl⟩ := List.mem_map.1 a2
    have a4 := mem_pks.1 ((kept_pks hI (N := fun v => (v : Int)) (idN _) (outerP B cs cs.length).1 c0).2.1 p a3)
    rw [unpl_new hI.n (mem_unpl.1 a4.1).1] at hi
    have hi0 := (List.mem_filter.1 hi).1
    rcases List.mem_append.1 hx with h2 | h2
    · exact hK.u c0 i x a1 hi0 h2
    · rw [List.mem_singleton.1 h2]
      have h9 := cmpL_k (hle c0 i a1 hi0)
      exact h9
theorem canP_end {B : List Lt} {oc : List Int} {vs : Nat} (hI : BI B oc vs) {h1 : Nm} : ∀ (n : Nat) (cs : List Core) (out res : List Lt), canP B oc n cs out = some res → cs ≠ [] → (∀ c, c ∈ cs → ∃ S, Hst B h1 out c S) → Knd B out cs → out.length + n = B.length → (∃ S : List Nat, S.Perm (List.range B.length) ∧ res = (rdB h1 (S.map (Bj B))).2) ∧ res.Pairwise fun x y => x.k ≤ y.k
  | 0, cs, out, res, hc, h0, h, hK, hl => by
    have e : out = res := by unfold canP at hc; injection hc
    subst e
    obtain ⟨c, cs', rfl⟩ := List.exists_cons_of_ne_nil h0
    obtain ⟨S, hS⟩ := h c (by simp)
    have hp := hS.unp
    have hlen := hp.length_eq
    rw [List.length_append, hS.len, List.length_range] at hlen
    have hu : unpl B.length c = [] := List.eq_nil_of_length_eq_zero (by omega)
    rw [hu, List.append_nil] at hp
    exact ⟨⟨S, hp, hS.o⟩, hK.s⟩
  | n + 1, cs, out, res, hc, h0, h, hK, hl => by
    unfold canP at hc
    rw [follow_flat hI.n] at hc
    split at hc
    · cases hc
    · exact canP_end hI n _ _ res hc (nxt_ne hI h0 h (by omega)) (nxt_hst hI h _) (hK.next hI h0 h (by omega)) (by rw [List.length_append, List.length_singleton]; omega)
/-- a search with few literals never grows too wide -/
def fct : Nat → Nat
  | 0 => 1
  | n + 1 => (n + 1) * fct n
theorem fct_pos : ∀ n, 1 ≤ fct n
  | 0 => Nat.le_refl _
  | n + 1 => Nat.le_trans (fct_pos n) (Nat.le_mul_of_pos_left _ (Nat.succ_pos n))
theorem flatMap_le {α β : Type} {f : α → List β} {m : Nat} : ∀ {l : List α}, (∀ x, x ∈ l → (f x).length ≤ m) → (l.flatMap f).length ≤ l.length * m
  | [], _ => by simp
  | x :: l, h => by
    have h1 := flatMap_le (l := l) fun y hy => h y (by simp [hy])
    have h2 := h x (by simp)
    rw [List.flatMap_cons, List.length_append, List.length_cons, Nat.succ_mul]; omega
theorem kept_le (tw : Nat → Nat → Bool) : ∀ (xs seen : List Nat), (keptL tw seen xs).length ≤ xs.length
  | [], _ => Nat.le_refl _
  | x :: xs, seen => by
    have ih := kept_le tw xs (seen ++ [x])
    show (if _ then keptL tw (seen ++ [x]) xs else x :: keptL tw (seen ++ [x]) xs).length ≤ _
    split
    · rw [List.length_cons]; omega
    · rw [List.length_cons, List.length_cons]; omega
theorem canP_small {B : List Lt} {oc : List Int} {vs : Nat} (hI : BI B oc vs) {h1 : Nm} : ∀ (n : Nat) (cs : List Core) (out : List Lt), (∀ c, c ∈ cs → ∃ S, Hst B h1 out c S) → out.length + n = B.length → cs.length * fct n ≤ 1024 → ∃ res, canP B oc n cs out = some res
  | 0, cs, out, _, _, _ => ⟨out, rfl⟩
  | n + 1, cs, out, h, hl, hf => by
    unfold canP
    rw [follow_flat hI.n]
    have h2 : (cs.flatMap (nxt B oc (outerP B cs cs.length).1)).length ≤ cs.length * (n + 1) := by
      refine flatMap_le fun c hc => ?_
      obtain ⟨S, hS⟩ := h c hc
      have h3 := hS.unp.length_eq
      rw [List.length_append, hS.len, List.length_range] at h3
      unfold nxt
      rw [List.length_map]
      have h4 := kept_le (twB B oc c) (pks B (outerP B cs cs.length).1 c) []
      have h5 : (pks B (outerP B cs cs.length).1 c).length ≤ (unpl B.length c).length := List.length_filter_le _ _
      omega
    have h6 : (cs.flatMap (nxt B oc (outerP B cs cs.length).1)).length * fct n ≤ 1024 := by
      refine Nat.le_trans (Nat.mul_le_mul_right _ h2) ?_
      rw [Nat.mul_assoc]; exact hf
    have h7 : (cs.flatMap (nxt B oc (outerP B cs cs.length).1)).length ≤ 1024 := Nat.le_trans (Nat.le_mul_of_pos_right _ (fct_pos n)) h6
    rw [if_neg (by omega)]
    exact canP_small hI n _ _ (nxt_hst hI h _) (by rw [List.length_append, List.length_singleton]; omega) h6
theorem hst0 (B : List Lt) (h1 : Nm) : Hst B h1 [] (0, h1) [] := ⟨List.nodup_nil, fun j hj => (by cases hj), fun j hj => (by show bt 0 j = true ↔ j ∈ []; rw [bt_zero]; simp), rfl, rfl⟩
theorem knd0 (B : List Lt) (cs : List Core) : Knd B [] cs := ⟨List.Pairwise.nil, fun c j x _ _ hx => by cases hx⟩
/-! ### numbers in order of first occurrence -/
theorem ints_succ (n : Nat) : ints (n + 1) = ints n ++ [(n : Int)] := by unfold ints; rw [List.range_succ, List.map_append]; rfl
theorem mem_ints {n : Nat} {x : Int} : x ∈ ints n ↔ 0 ≤ x ∧ x < n := by
  unfold ints
  rw [List.mem_map]
  constructor
  · rintro ⟨j, hj, rfl⟩; rw [List.mem_range] at hj; omega
  · rintro ⟨h1, h2⟩; exact ⟨x.toNat, List.mem_range.2 (by omega), by omega⟩
theorem nvs_rd {vs : Nat} : ∀ {ts : List Tm} {s : Nm}, StI vs s → (∀ t, t ∈ ts → Dn vs t) → nvs (ints s.2.toNat) (rdTs s ts).2 = ints (rdTs s ts).1.2.toNat
  | [], _, _, _ => rfl
  | t :: ts, s, h, hd => by
    have ih := nvs_rd (ts := ts) (h.r1 (hd t (by simp))) (fun q hq => hd q (by simp [hq]))
    show nvs (nvS (ints s.2.toNat) (rd1 s t).2) (rdTs (rd1 s t).1 ts).2 = ints (rdTs (rd1 s t).1 ts).1.2.toNat
    rw [← ih]
    congr 1
    have h0 := h.nx
    unfold nvS
    by_cases hk : t.k = 0
    · obtain ⟨a1, a2⟩ := dn_nat (hd t (by simp)) hk
      by_cases hf : fnI s.1 t.v.toNat = -1
      · rw [rd1_new hk a2 hf]
        simp only
        rw [if_pos ⟨hk, fun h9 => by have := mem_ints.1 h9; omega⟩, show (s.2 + 1).toNat = s.2.toNat + 1 by omega, ints_succ]
        congr 2; omega
      · rw [rd1_old hk a2 hf]
        have := h.lt t.v.toNat
        simp only
        rw [if_neg (fun h9 => h9.2 (mem_ints.2 ⟨by omega, by omega⟩))]
    · rw [rd1_no hk, if_neg (fun h9 => hk h9.1)]
theorem nvs_rdB {vs : Nat} : ∀ {ls : List Lt} {s : Nm}, StI vs s → DnL vs ls → (rdB s ls).2.foldl (fun vs l => nvs vs l.a) (ints s.2.toNat) = ints (rdB s ls).1.2.toNat
  | [], _, _, _ => rfl
  | l :: ls, s, h, hd => by
    have hd1 : ∀ t, t ∈ l.a → Dn vs t := fun t ht => hd l t (by simp) ht
    have h1 := nvs_rd h hd1
    have ih := nvs_rdB (h.rd hd1) (fun x t hx ht => hd x t (by simp [hx]) ht : DnL vs ls)
    show (rdB (rdTs s l.a).1 ls).2.foldl (fun vs l => nvs vs l.a) (nvs (ints s.2.toNat) (rdTs s l.a).2) = _
    rw [h1]; exact ih
/-! ### what a canonical form is -/
theorem lab_chL {N : Nat → Int} {V : List Int} (l : Lt) : lab N (chL (dl V) l) = chL (fun v => N (dl V v).toNat) l := by
  have : (l.a.map (chT (dl V))).map (lbT N) = l.a.map (chT (fun v => N (dl V v).toNat)) := by
    rw [List.map_map]
    apply List.map_congr_left
    intro t _
    show lbT N (chT (dl V) t) = _
    unfold lbT
    by_cases hk : t.k = 0
    · have hk2 : (chT (dl V) t).k = 0 := by rw [chT_k]; exact hk
      rw [chT_v hk2, chT_v hk, chT_v hk]
    · rw [chT_n hk, chT_n hk, chT_n hk]
  show (⟨l.k, l.o, l.p, (l.a.map (chT (dl V))).map (lbT N)⟩ : Lt) = ⟨l.k, l.o, l.p, l.a.map (chT (fun v => N (dl V v).toNat))⟩
  rw [this]
theorem lab_chT {N : Nat → Int} {V : List Int} (ts : List Tm) : (ts.map (chT (dl V))).map (lbT N) = ts.map (chT (fun v => N (dl V v).toNat)) := by
  have := congrArg Lt.a (lab_chL (N := N) (V := V) ⟨0, 0, ⟨#[]⟩, ts⟩)
  exact this
structure CanF (r q : Ru) : Prop where
  v : VarR r q
  k : q.b.Pairwise fun x y => x.k ≤ y.k
  n : ∃ m, vars q = ints m
theorem can_form {r q : Ru} (h64 : r.b.length ≤ 64) (h : canR r = some q) : CanF r q := by
  obtain ⟨a0, a1, a2, a3, a4⟩ := canI_v r
  have hI := canI_BI r h64
  have hh : (canI r).h = rdTs (List.replicate (vars r).length (-1), 0) (r.a.map (chT (dl (vars r)))) := by
    show rdTs (List.replicate (rnLs (rnTs [] r.a).1 r.b).1.length (-1), 0) (rnTs [] r.a).2 = _
    rw [a0, a1]
  have hda : ∀ t, t ∈ r.a.map (chT (dl (vars r))) → Dn (vars r).length t := by
    intro t ht
    obtain ⟨t0, h1, rfl⟩ := List.mem_map.1 ht
    exact dl_dn (a3 t0 h1)
  have hs1 : StI (vars r).length (canI r).h.1 := by rw [hh]; exact (st0 _).rd hda
  unfold canR at h
  cases hc : canP (canI r).B (canI r).oc (canI r).B.length [(0, (canI r).h.1)] [] with
  | none => rw [hc] at h; cases h
  | some res =>
    rw [hc] at h
    injection h with h
    subst h
    obtain ⟨⟨S, hS, hres⟩, hk⟩ := canP_end hI (h1 := (canI r).h.1) _ _ _ _ hc (by simp) (fun c hc => by rw [List.mem_singleton.1 hc]; exact ⟨[], hst0 _ _⟩) (knd0 _ _) (by simp)
    have hSB : (S.map (Bj (canI r).B)).Perm (canI r).B := by
      refine (hS.map _).trans ?_
      have : (List.range (canI r).B.length).map (Bj (canI r).B) = (canI r).B := by
        apply List.ext_getElem?
        intro i
        rw [List.getElem?_map]
        by_cases hi : i < (canI r).B.length
        · rw [List.getElem?_range hi, Bj_get hi]; rfl
        · rw [List.getElem?_eq_none (by simp; omega), List.getElem?_eq_none (by omega)]; rfl
      rw [this]
    have hdS : DnL (vars r).length (S.map (Bj (canI r).B)) := fun l t hl ht => hI.d l t (hSB.mem_iff.1 hl) ht
    obtain ⟨hv, hnum⟩ := rdB_val hs1 hdS
    have hvh : (canI r).h.2 = (r.a.map (chT (dl (vars r)))).map (lbT (fnI (rdB (canI r).h.1 (S.map (Bj (canI r).B))).1.1)) := by
      have g := rd_val (st0 (vars r).length) hda
      rw [← hh] at g
      rw [g.1]
      exact lbT_congr fun v hv => (rdB_keep hs1 hdS (g.2 v hv)).symm
    generalize hN : fnI (rdB (canI r).h.1 (S.map (Bj (canI r).B))).1.1 = N at hv hnum hvh
    have hst := rdB_st hs1 hdS
    refine ⟨⟨fun v => N (dl (vars r) v).toNat, ?_, rfl, ?_, ?_⟩, hk, ?_⟩
    · intro x y hx hy e
      obtain ⟨d, d1, d2⟩ := dpos_mem hx
      obtain ⟨d', d3, d4⟩ := dpos_mem hy
      have ex : (dl (vars r) x).toNat = d := by unfold dl; rw [d1]; simp
      have ey : (dl (vars r) y).toNat = d' := by unfold dl; rw [d3]; simp
      simp only [ex, ey] at e
      have hnd : ¬ N d = -1 := by
        have hocc : (∃ t, t ∈ r.a ∧ t.k = 0 ∧ t.v = x) ∨ ∃ l t, l ∈ r.b ∧ t ∈ l.a ∧ t.k = 0 ∧ t.v = x := vars_occ hx
        rcases hocc with ⟨t, t1, t2, t3⟩ | ⟨l, t, l1, t1, t2, t3⟩
        · have g := rd_val (st0 (vars r).length) hda
          rw [← hh] at g
          have hm : d ∈ vN (r.a.map (chT (dl (vars r)))) := mem_vN.2 ⟨chT (dl (vars r)) t, List.mem_map.2 ⟨t, t1, rfl⟩, by rw [chT_k]; exact t2, by rw [chT_v t2]; simp only; rw [t3]; exact ex⟩
          rw [← hN, rdB_keep hs1 hdS (g.2 d hm)]
          exact g.2 d hm
        · refine hnum (chL (dl (vars r)) l) d (hSB.mem_iff.2 (by rw [a2]; exact List.mem_map.2 ⟨l, l1, rfl⟩)) (mem_vN.2 ⟨chT (dl (vars r)) t, List.mem_map.2 ⟨t, t1, rfl⟩, by rw [chT_k]; exact t2, by rw [chT_v t2]; simp only; rw [t3]; exact ex⟩)
      have hdd : d = d' := by
        rw [← hN] at e hnd
        exact hst.inj d d' e hnd
      rw [hdd, d4] at d2
      injection d2 with d2; exact d2.symm
    · show (canI r).h.2 = _
      rw [hvh, lab_chT]
    · show (r.b.map _).Perm res
      rw [hres, hv]
      have e1 : r.b.map (chL fun v => N (dl (vars r) v).toNat) = (canI r).B.map (lab N) := by
        rw [a2, List.map_map]
        exact List.map_congr_left fun l _ => (lab_chL l).symm
      rw [e1]
      exact (hSB.map _).symm
    · refine ⟨(rdB (canI r).h.1 (S.map (Bj (canI r).B))).1.2.toNat, ?_⟩
      have g1 := nvs_rd (st0 (vars r).length) hda
      rw [← hh] at g1
      have g2 := nvs_rdB hs1 hdS
      show res.foldl (fun vs l => nvs vs l.a) (nvs [] (canI r).h.2) = _
      have g3 : nvs [] (canI r).h.2 = ints (canI r).h.1.2.toNat := g1
      rw [g3, hres]; exact g2
theorem can_small {r : Ru} (h : r.b.length ≤ 5) : ∃ q, canR r = some q := by
  have hI := canI_BI r (by omega)
  obtain ⟨a0, a1, a2, a3, a4⟩ := canI_v r
  have hl : (canI r).B.length ≤ 5 := by rw [a2, List.length_map]; exact h
  obtain ⟨res, hc⟩ := canP_small hI (h1 := (canI r).h.1) (canI r).B.length [(0, (canI r).h.1)] [] (fun c hc => by rw [List.mem_singleton.1 hc]; exact ⟨[], hst0 _ _⟩) (by simp) (by
    generalize (canI r).B.length = n at hl
    have : ∀ m : Fin 6, ([(0, (canI r).h.1)] : List Core).length * fct m.1 ≤ 1024 := by
      intro m
      show 1 * fct m.1 ≤ 1024
      rw [Nat.one_mul]
      revert m; decide
    exact this ⟨n, by omega⟩)
  unfold canR
  rw [hc]
  exact ⟨_, rfl⟩
end hist

end Go.Proofs.Qxb6500915aGreatDoor

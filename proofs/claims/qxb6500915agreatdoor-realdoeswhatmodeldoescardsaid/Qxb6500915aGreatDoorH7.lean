import Derived.Test.Qxb6500915aGreatDoorH6
namespace Go.Proofs.Qxb6500915aGreatDoor
open Go.Eng
set_option linter.unusedVariables false
set_option linter.unusedSimpArgs false

/-! ## the rounds of the search -/
section rounds
theorem wrap64 (n : Nat) (h : n < 18446744073709551616) : IntKind.u64.wrap (n : Int) = (n : Int) := wrap_fits (by simp only [Fits]; omega)
theorem ofInt_nat (v : BitVec 64) : BitVec.ofInt 64 (v.toNat : Int) = v := by
  apply BitVec.eq_of_toNat_eq
  rw [BitVec.toNat_ofInt]; have := v.isLt; omega
theorem or64 (x y : Int) : BitVec.ofInt 64 (bitsOf .or .u64 x y) = BitVec.ofInt 64 x ||| BitVec.ofInt 64 y := by
  show BitVec.ofInt 64 (IntKind.u64.wrap ((BitVec.ofInt 64 x ||| BitVec.ofInt 64 y).toNat : Int)) = _
  rw [wrap64 _ (BitVec.isLt _), ofInt_nat]
theorem and64 (x y : Int) : bitsOf .and .u64 x y = (((BitVec.ofInt 64 x &&& BitVec.ofInt 64 y).toNat : Nat) : Int) := by
  show IntKind.u64.wrap ((BitVec.ofInt 64 x &&& BitVec.ofInt 64 y).toNat : Int) = _
  rw [wrap64 _ (BitVec.isLt _)]
theorem sh_pow : ∀ j : Fin 64, BitVec.ofInt 64 (sh64 j.1) = BitVec.twoPow 64 j.1 := by decide
def bt (x : Int) (j : Nat) : Bool := (BitVec.ofInt 64 x).getLsbD j
theorem bt_zero (j : Nat) : bt 0 j = false := by unfold bt; simp
theorem bt_or (x : Int) {i : Nat} (hi : i < 64) (j : Nat) : bt (bitsOf .or .u64 x (sh64 i)) j = (bt x j || decide (i = j)) := by
  unfold bt
  rw [or64, sh_pow ⟨i, hi⟩, BitVec.getLsbD_or, BitVec.getLsbD_twoPow]
  simp [hi]
theorem and_bt (x : Int) {j : Nat} (hj : j < 64) : bitsOf .and .u64 x (sh64 j) = 0 ↔ bt x j = false := by
  rw [and64, sh_pow ⟨j, hj⟩, BitVec.and_twoPow]
  unfold bt
  cases h : (BitVec.ofInt 64 x).getLsbD j with
  | false => simp
  | true =>
    simp only [if_true]
    refine ⟨fun h9 => ?_, fun h9 => by cases h9⟩
    rw [BitVec.toNat_twoPow_of_lt hj] at h9
    have : 0 < 2 ^ j := Nat.two_pow_pos j
    omega
/-- i literals are placed -/
def CoI (n i : Nat) (c : Core) : Prop := ∃ S : List Nat, S.Nodup ∧ S.length = i ∧ (∀ j, j ∈ S → j < n) ∧ ∀ j, j < 64 → (bt c.1 j = true ↔ j ∈ S)
theorem CoI.start (n : Nat) (m : Nm) : CoI n 0 (0, m) := ⟨[], List.nodup_nil, rfl, fun j h => (by cases h), fun j _ => by rw [bt_zero]; simp⟩
theorem CoI.next {n i : Nat} {c : Core} (h : CoI n i c) (hn : n ≤ 64) {li : Nat} (hl : li < n) (hu : bitsOf .and .u64 c.1 (sh64 li) = 0) (l : Lt) : CoI n (i + 1) (newC c l li) := by
  obtain ⟨S, h1, h2, h3, h4⟩ := h
  have hb := (and_bt c.1 (show li < 64 by omega)).1 hu
  have hnm : li ∉ S := fun hm => by rw [(h4 li (by omega)).2 hm] at hb; cases hb
  refine ⟨li :: S, List.nodup_cons.2 ⟨hnm, h1⟩, by simp [h2], fun j hj => ?_, fun j hj => ?_⟩
  · rcases List.mem_cons.1 hj with e | e
    · omega
    · exact h3 j e
  · show bt (bitsOf .or .u64 c.1 (sh64 li)) j = true ↔ _
    rw [bt_or _ (show li < 64 by omega), Bool.or_eq_true, h4 j hj, decide_eq_true_eq, List.mem_cons]
    exact ⟨fun h9 => h9.elim .inr fun h8 => .inl h8.symm, fun h9 => h9.elim (fun h8 => .inr h8.symm) .inl⟩
theorem CoI.free {n i : Nat} {c : Core} (h : CoI n i c) (hn : n ≤ 64) (hi : i < n) : ∃ li, li < n ∧ bitsOf .and .u64 c.1 (sh64 li) = 0 := by
  obtain ⟨S, h1, h2, h3, h4⟩ := h
  have hex : ∃ li, li < n ∧ li ∉ S := by
    refine Classical.byContradiction fun hc => ?_
    have hall : ∀ j, j < n → j ∈ S := fun j hj => Classical.byContradiction fun h9 => hc ⟨j, hj, h9⟩
    have h5 : n ≤ S.length := by
      have h6 : (List.range n).length ≤ S.length := List.Nodup.length_le_of_subset List.nodup_range (fun x hx => hall x (List.mem_range.1 hx))
      rw [List.length_range] at h6; exact h6
    omega
  obtain ⟨li, h5, h6⟩ := hex
  refine ⟨li, h5, (and_bt c.1 (show li < 64 by omega)).2 ?_⟩
  cases hb : bt c.1 li with
  | false => rfl
  | true => exact absurd ((h4 li (by omega)).1 hb) h6
/-- picks are of literals not yet placed -/
def PkOk (B : List Lt) (cs : List Core) (q : Nat × Nat) : Prop := q.2 < B.length ∧ ∃ c, cs[q.1]? = some c ∧ bitsOf .and .u64 c.1 (sh64 q.2) = 0
theorem lstep_pk {B : List Lt} {cs : List Core} {acc : Acc} {si li : Nat} {c : Core} {l : Lt} (h : ∀ q, q ∈ acc.2 → PkOk B cs q) (hc : cs[si]? = some c) (hl : li < B.length) : ∀ q, q ∈ (lstep acc si li c l).2 → PkOk B cs q := by
  intro q hq
  unfold lstep at hq
  split at hq
  · rename_i hu
    split at hq
    · rw [List.mem_singleton.1 hq]; exact ⟨hl, c, hc, hu⟩
    · split at hq
      · rcases List.mem_append.1 hq with h1 | h1
        · exact h q h1
        · rw [List.mem_singleton.1 h1]; exact ⟨hl, c, hc, hu⟩
      · exact h q hq
  · exact h q hq
theorem lstep_ne {acc : Acc} {si li : Nat} {c : Core} {l : Lt} (h : acc.2 ≠ [] ∨ bitsOf .and .u64 c.1 (sh64 li) = 0) : (lstep acc si li c l).2 ≠ [] := by
  unfold lstep
  split
  · split
    · exact List.cons_ne_nil _ _
    · rename_i h1
      split
      · intro h9; exact absurd (List.append_eq_nil_iff.1 h9).2 (List.cons_ne_nil _ _)
      · exact fun h9 => h1 (.inl h9)
  · rename_i h1
    exact h.resolve_right h1
theorem lstep_len (acc : Acc) (si li : Nat) (c : Core) (l : Lt) : (lstep acc si li c l).2.length ≤ acc.2.length + 1 := by
  unfold lstep; repeat' split
  all_goals (simp; try omega)
theorem inner_pk {B : List Lt} {cs : List Core} {si : Nat} {c : Core} (hc : cs[si]? = some c) : ∀ (n : Nat) (acc : Acc), (∀ q, q ∈ acc.2 → PkOk B cs q) → ∀ q, q ∈ (innerP B si c n acc).2 → PkOk B cs q
  | 0, acc, h => h
  | n + 1, acc, h => by
    intro q hq
    cases hl : B[n]? with
    | none => simp only [innerP, hl] at hq; exact inner_pk hc n acc h q hq
    | some l => rw [inner_succ hl] at hq; exact lstep_pk (inner_pk hc n acc h) hc (List.getElem?_eq_some_iff.1 hl).1 q hq
theorem inner_ne {B : List Lt} {si : Nat} {c : Core} : ∀ (n : Nat) (acc : Acc), n ≤ B.length → (acc.2 ≠ [] ∨ ∃ li, li < n ∧ bitsOf .and .u64 c.1 (sh64 li) = 0) → (innerP B si c n acc).2 ≠ []
  | 0, acc, _, h => by
    rcases h with h | ⟨li, h, _⟩
    · exact h
    · omega
  | n + 1, acc, hn, h => by
    have hl := List.getElem?_eq_getElem (l := B) (i := n) (by omega)
    rw [inner_succ hl]
    refine lstep_ne ?_
    rcases h with h | ⟨li, h1, h2⟩
    · exact .inl (inner_ne n acc (by omega) (.inl h))
    · by_cases e : li = n
      · subst e; exact .inr h2
      · exact .inl (inner_ne n acc (by omega) (.inr ⟨li, by omega, h2⟩))
theorem inner_len {B : List Lt} {si : Nat} {c : Core} : ∀ (n : Nat) (acc : Acc), (innerP B si c n acc).2.length ≤ acc.2.length + n
  | 0, acc => Nat.le_refl _
  | n + 1, acc => by
    have h1 := inner_len (B := B) (si := si) (c := c) n acc
    cases hl : B[n]? with
    | none => simp only [innerP, hl]; omega
    | some l =>
      rw [inner_succ hl]
      have := lstep_len (innerP B si c n acc) si n c l
      omega
theorem outer_pk {B : List Lt} {cs : List Core} : ∀ (m : Nat) (q : Nat × Nat), q ∈ (outerP B cs m).2 → PkOk B cs q
  | 0, q, h => by cases h
  | m + 1, q, h => by
    cases hc : cs[m]? with
    | none => simp only [outerP, hc] at h; exact outer_pk m q h
    | some c => rw [outer_succ hc] at h; exact inner_pk hc _ _ (fun q hq => outer_pk m q hq) q h
theorem outer_ne {B : List Lt} {cs : List Core} {m : Nat} {c : Core} (hc : cs[m]? = some c) (hf : ∃ li, li < B.length ∧ bitsOf .and .u64 c.1 (sh64 li) = 0) : (outerP B cs (m + 1)).2 ≠ [] := by
  rw [outer_succ hc]
  exact inner_ne _ _ (Nat.le_refl _) (.inr hf)
theorem outer_len {B : List Lt} {cs : List Core} : ∀ m : Nat, (outerP B cs m).2.length ≤ m * B.length
  | 0 => Nat.zero_le _
  | m + 1 => by
    have h1 := outer_len (B := B) (cs := cs) m
    rw [Nat.succ_mul]
    cases hc : cs[m]? with
    | none => simp only [outerP, hc]; omega
    | some c =>
      rw [outer_succ hc]
      have := inner_len (B := B) (si := m) (c := c) B.length (outerP B cs m)
      omega
theorem follow_co {B : List Lt} {oc : List Int} {cs : List Core} {picks : List (Nat × Nat)} {i : Nat} (hn : B.length ≤ 64) (hcs : ∀ c, c ∈ cs → CoI B.length i c) (hp : ∀ q, q ∈ picks → PkOk B cs q) : ∀ (k : Nat) (c : Core), c ∈ followP B oc cs picks k → CoI B.length (i + 1) c
  | 0, c, h => by cases h
  | k + 1, c, h => by
    cases hk : picks[k]? with
    | none => simp only [followP, hk] at h; exact follow_co hn hcs hp k c h
    | some pk =>
      obtain ⟨h1, c0, h2, h3⟩ := hp pk (List.mem_of_getElem? hk)
      have hl := List.getElem?_eq_getElem h1
      cases ht : twL B oc c0 picks pk B[pk.2] k with
      | true => rw [follow_yes hk h2 hl ht] at h; exact follow_co hn hcs hp k c h
      | false =>
        rw [follow_no hk h2 hl ht] at h
        rcases List.mem_append.1 h with h4 | h4
        · exact follow_co hn hcs hp k c h4
        · rw [List.mem_singleton.1 h4]
          exact (hcs c0 (List.mem_of_getElem? h2)).next hn h1 h3 _
theorem follow_mono {B : List Lt} {oc : List Int} {cs : List Core} {picks : List (Nat × Nat)} (k : Nat) : (followP B oc cs picks k).length ≤ (followP B oc cs picks (k + 1)).length := by
  cases hk : picks[k]? with
  | none => simp only [followP, hk]; exact Nat.le_refl _
  | some pk =>
    cases h1 : cs[pk.1]? with
    | none => simp only [followP, hk, h1]; exact Nat.le_refl _
    | some c =>
      cases h2 : B[pk.2]? with
      | none => simp only [followP, hk, h1, h2]; exact Nat.le_refl _
      | some l =>
        cases ht : twL B oc c picks pk l k with
        | true => rw [follow_yes hk h1 h2 ht]; exact Nat.le_refl _
        | false => rw [follow_no hk h1 h2 ht, List.length_append]; omega
theorem follow_ne {B : List Lt} {oc : List Int} {cs : List Core} {picks : List (Nat × Nat)} (hp : ∀ q, q ∈ picks → PkOk B cs q) (h0 : picks ≠ []) : ∀ k, 0 < k → 0 < (followP B oc cs picks k).length
  | 0, h => absurd h (Nat.lt_irrefl _)
  | 1, _ => by
    obtain ⟨pk, ps, e⟩ := List.exists_cons_of_ne_nil h0
    have hk : picks[0]? = some pk := by rw [e]; rfl
    obtain ⟨h1, c0, h2, h3⟩ := hp pk (List.mem_of_getElem? hk)
    rw [follow_no hk h2 (List.getElem?_eq_getElem h1) rfl]
    simp
  | k + 2, _ => Nat.lt_of_lt_of_le (follow_ne hp h0 (k + 1) (by omega)) (follow_mono (k + 1))
def canP (B : List Lt) (oc : List Int) : Nat → List Core → List Lt → Option (List Lt)
  | 0, _, out => some out
  | n + 1, cs, out => if 1024 < (followP B oc cs (outerP B cs cs.length).2 (outerP B cs cs.length).2.length).length then none else canP B oc n (followP B oc cs (outerP B cs cs.length).2 (outerP B cs cs.length).2.length) (out ++ [(outerP B cs cs.length).1])
structure CanI where
  V0 : List Int
  B : List Lt
  vs : Nat
  h : Nm × List Tm
  oc : List Int
def canI (r : Ru) : CanI where
  V0 := (rnTs [] r.a).1
  B := (rnLs (rnTs [] r.a).1 r.b).2
  vs := (rnLs (rnTs [] r.a).1 r.b).1.length
  h := rdTs (List.replicate (rnLs (rnTs [] r.a).1 r.b).1.length (-1), 0) (rnTs [] r.a).2
  oc := ocB (rnLs (rnTs [] r.a).1 r.b).2 (rnLs (rnTs [] r.a).1 r.b).2.length (List.replicate (rnLs (rnTs [] r.a).1 r.b).1.length 0)
def canR (r : Ru) : Option Ru := (canP (canI r).B (canI r).oc (canI r).B.length [(0, (canI r).h.1)] []).map fun b => ⟨r.p, (canI r).h.2, b⟩
structure CZ where
  i : Nat
  out : List LV
  op : Option Addr
  oc : Nat
  oE : List (Nat × Obj)
  bs : List SQ
  fb : Nat
  cap : Nat
  jf : List Value
structure CZI (X : SX) (cs0 : List Core) (s : CZ) : Prop where
  i : s.i ≤ X.xs.length
  ca : canP X.B X.oc X.xs.length cs0 [] = canP X.B X.oc (X.xs.length - s.i) (s.bs.map SQ.core) (s.out.map LV.l)
  ol : s.out.length = s.i
  ok : ∀ x, x ∈ s.out → x.ok
  row : Row (.slice s.op s.out.length s.oc) s.out.length (fl LV.c4 s.out) 4 48 s.oE
  fo : ∀ b, b ∈ s.bs → b.ok X.vs ∧ b.nx ≤ 65536 * (s.i + 1)
  co : ∀ c, c ∈ s.bs.map SQ.core → CoI X.B.length s.i c
  ne : 0 < s.bs.length
  fl : s.bs.length ≤ 1024
theorem CZI.pk {X : SX} {cs0 : List Core} {s : CZ} (h : CZI X cs0 s) : ∀ q, q ∈ (outerP X.B (s.bs.map SQ.core) s.bs.length).2 → q.1 < s.bs.length ∧ q.2 < X.xs.length := by
  intro q hq
  obtain ⟨h1, c, h2, _⟩ := outer_pk _ q hq
  have h3 := (List.getElem?_eq_some_iff.1 h2).1
  rw [List.length_map] at h3
  rw [X.bl] at h1
  exact ⟨h3, h1⟩
theorem CZI.pkn {X : SX} {cs0 : List Core} {s : CZ} (h : CZI X cs0 s) (h64 : X.xs.length ≤ 64) (hi : s.i < X.xs.length) : (outerP X.B (s.bs.map SQ.core) s.bs.length).2 ≠ [] := by
  obtain ⟨m, hm⟩ : ∃ m, s.bs.length = m + 1 := ⟨s.bs.length - 1, by have := h.ne; omega⟩
  obtain ⟨c, hc⟩ : ∃ c, (s.bs.map SQ.core)[m]? = some c := ⟨_, List.getElem?_eq_getElem (by rw [List.length_map]; omega)⟩
  rw [hm]
  exact outer_ne hc ((h.co _ (List.mem_of_getElem? hc)).free (by rw [X.bl]; exact h64) (by rw [X.bl]; exact hi))
theorem CZI.next {X : SX} {cs0 : List Core} {s : CZ} (h : CZI X cs0 s) (h64 : X.xs.length ≤ 64) (hi : s.i < X.xs.length) {y : LV} (hy : y.ok) (hyl : y.l = (outerP X.B (s.bs.map SQ.core) s.bs.length).1) {op : Option Addr} {oc : Nat} {oE : List (Nat × Obj)} (hR : Row (.slice op (s.out ++ [y]).length oc) (s.out ++ [y]).length (Go.Eng.fl LV.c4 (s.out ++ [y])) 4 48 oE) {nbs : List SQ} (hco : nbs.map SQ.core = followP X.B X.oc (s.bs.map SQ.core) (outerP X.B (s.bs.map SQ.core) s.bs.length).2 (outerP X.B (s.bs.map SQ.core) s.bs.length).2.length) (hok : ∀ b, b ∈ nbs → b.ok X.vs ∧ b.nx ≤ 65536 * (s.i + 1) + 65536) (hl : nbs.length ≤ 1024) (fb cap : Nat) (jf : List Value) :
    CZI X cs0 ⟨s.i + 1, s.out ++ [y], op, oc, oE, nbs, fb, cap, jf⟩ := by
  have hpk : ∀ q, q ∈ (outerP X.B (s.bs.map SQ.core) s.bs.length).2 → PkOk X.B (s.bs.map SQ.core) q := fun q hq => outer_pk _ q hq
  have hne : 0 < nbs.length := by
    have h1 := follow_ne (oc := X.oc) hpk (h.pkn h64 hi) (outerP X.B (s.bs.map SQ.core) s.bs.length).2.length (List.length_pos_iff.2 (h.pkn h64 hi))
    rw [← hco, List.length_map] at h1; exact h1
  refine ⟨by simp only; omega, ?_, by simp [h.ol], fun x hx => ?_, hR, fun b hb => ⟨(hok b hb).1, by have := (hok b hb).2; show b.nx ≤ 65536 * (((s.i + 1 : Nat) : Int) + 1); omega⟩, fun c hc => ?_, hne, hl⟩
  · obtain ⟨d, hd⟩ : ∃ d, X.xs.length - s.i = d + 1 := ⟨X.xs.length - s.i - 1, by omega⟩
    have h1 := h.ca
    rw [hd] at h1
    rw [h1]
    show (if _ then none else _) = _
    have hlen : (s.bs.map SQ.core).length = s.bs.length := List.length_map ..
    rw [hlen, if_neg (by rw [← hco, List.length_map]; omega), ← hco]
    show _ = canP X.B X.oc (X.xs.length - (s.i + 1)) (nbs.map SQ.core) ((s.out ++ [y]).map LV.l)
    rw [show X.xs.length - (s.i + 1) = d by omega, List.map_append, ← hyl]; rfl
  · rcases List.mem_append.1 hx with e | e
    · exact h.ok x e
    · rw [List.mem_singleton.1 e]; exact hy
  · have hc9 : c ∈ nbs.map SQ.core := hc
    rw [hco] at hc9
    exact follow_co (by rw [X.bl]; exact h64) h.co hpk _ c hc9
theorem CZI.over {X : SX} {cs0 : List Core} {s : CZ} (h : CZI X cs0 s) (hi : s.i < X.xs.length) {nbs : List SQ} (hco : nbs.map SQ.core = followP X.B X.oc (s.bs.map SQ.core) (outerP X.B (s.bs.map SQ.core) s.bs.length).2 (outerP X.B (s.bs.map SQ.core) s.bs.length).2.length) (hl : 1024 < nbs.length) : canP X.B X.oc X.xs.length cs0 [] = none := by
  obtain ⟨d, hd⟩ : ∃ d, X.xs.length - s.i = d + 1 := ⟨X.xs.length - s.i - 1, by omega⟩
  have h1 := h.ca
  rw [hd] at h1
  rw [h1]
  show (if _ then none else _) = _
  have hlen : (s.bs.map SQ.core).length = s.bs.length := List.length_map ..
  rw [hlen, if_pos (by rw [← hco, List.length_map]; omega)]
end rounds

end Go.Proofs.Qxb6500915aGreatDoor

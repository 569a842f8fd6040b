import Derived.Test.Qxb6500915aGreatDoorK8
namespace Go.Proofs.Qxb6500915aGreatDoor
open Go.Eng
set_option linter.unusedVariables false
set_option linter.unusedSimpArgs false

/-! ## all orders -/
section ord
def insA (n : Int) (s : List Int) (k : Nat) : List Int := s.take k ++ ([n] ++ s.drop k)
def insL (n : Int) (s : List Int) : List (List Int) := (List.range (s.length + 1)).map (insA n s)
def ordN : Nat → List (List Int)
  | 0 => [[]]
  | n + 1 => (ordN n).flatMap (insL (n : Int))
theorem insA_perm (n : Int) (s : List Int) (k : Nat) : (insA n s k).Perm (s ++ [n]) := by
  have h1 : (s.take k ++ n :: s.drop k).Perm (n :: (s.take k ++ s.drop k)) := List.perm_middle
  rw [List.take_append_drop] at h1
  exact h1.trans (List.perm_append_singleton n s).symm
theorem mem_ord : ∀ (n : Nat) (l : List Int), l ∈ ordN n ↔ l.Perm (ints n)
  | 0, l => by
    show l ∈ [[]] ↔ l.Perm []
    rw [List.mem_singleton, List.perm_nil]
  | n + 1, l => by
    show l ∈ (ordN n).flatMap (insL (n : Int)) ↔ _
    rw [List.mem_flatMap, ints_succ]
    constructor
    · rintro ⟨s, h1, h2⟩
      obtain ⟨k, _, rfl⟩ := List.mem_map.1 h2
      exact (insA_perm _ s k).trans (((mem_ord n s).1 h1).append_right _)
    · intro h
      have hm : (n : Int) ∈ l := h.mem_iff.2 (by simp)
      obtain ⟨s1, s2, rfl⟩ := List.append_of_mem hm
      have h1 : ((n : Int) :: (s1 ++ s2)).Perm ((n : Int) :: ints n) := List.perm_middle.symm.trans (h.trans (List.perm_append_singleton _ _))
      refine ⟨s1 ++ s2, (mem_ord n _).2 h1.cons_inv, List.mem_map.2 ⟨s1.length, List.mem_range.2 (by rw [List.length_append]; omega), ?_⟩⟩
      unfold insA
      rw [List.take_left, List.drop_left]; rfl
theorem ord_len {n : Nat} {l : List Int} (h : l ∈ ordN n) : l.length = n := perm_len ((mem_ord n l).1 h)
theorem ord_cnt : ∀ n, (ordN n).length ≤ fct n
  | 0 => Nat.le_refl _
  | n + 1 => by
    have h1 : ((ordN n).flatMap (insL (n : Int))).length ≤ (ordN n).length * (n + 1) := flatMap_le fun s hs => by
      unfold insL
      rw [List.length_map, List.length_range, ord_len hs]; omega
    have h2 := Nat.mul_le_mul_right (n + 1) (ord_cnt n)
    show ((ordN n).flatMap (insL (n : Int))).length ≤ (n + 1) * fct n
    rw [Nat.mul_comm (n + 1)]; omega
theorem ord_small {n : Nat} (h : n ≤ 5) : (ordN n).length ≤ 120 := by
  have h1 := ord_cnt n
  have : ∀ m : Fin 6, fct m.1 ≤ 120 := by decide
  have h2 := this ⟨n, by omega⟩
  simp only at h2
  omega
/-! an order for two lists with the same members -/
def shf (k i : Int) : Int := if i < k then i else i + 1
theorem shf_perm {n k : Nat} (hk : k ≤ n) : ((k : Int) :: (ints n).map (shf k)).Perm (ints (n + 1)) := by
  refine (List.perm_ext_iff_of_nodup ?_ (ints_nodup _)).2 fun x => ?_
  · rw [List.nodup_cons]
    constructor
    · intro h
      obtain ⟨i, _, e⟩ := List.mem_map.1 h
      unfold shf at e; split at e <;> omega
    · have hn := ints_nodup n
      rw [List.Nodup, List.pairwise_map]
      refine List.Pairwise.imp (fun {a b} hab e => hab ?_) hn
      unfold shf at e; split at e <;> split at e <;> omega
  · rw [List.mem_cons, List.mem_map, mem_ints]
    constructor
    · rintro (h | ⟨i, h1, h2⟩)
      · omega
      · have := mem_ints.1 h1
        unfold shf at h2; split at h2 <;> omega
    · intro h
      by_cases e : x = k
      · exact .inl e
      · by_cases e2 : x < k
        · exact .inr ⟨x, mem_ints.2 ⟨by omega, by omega⟩, by unfold shf; rw [if_pos e2]⟩
        · exact .inr ⟨x - 1, mem_ints.2 ⟨by omega, by omega⟩, by unfold shf; rw [if_neg (by omega)]; omega⟩
theorem perm_pick {α : Type} : ∀ {m l : List α}, l.Perm m → ∃ od : List Int, od.Perm (ints l.length) ∧ pickL l od = m
  | [], l, h => ⟨[], by rw [List.perm_nil.1 h]; exact List.Perm.refl _, rfl⟩
  | x :: m, l, h => by
    have hm : x ∈ l := h.mem_iff.2 (by simp)
    obtain ⟨s1, s2, rfl⟩ := List.append_of_mem hm
    have h1 : (s1 ++ s2).Perm m := (List.perm_middle.symm.trans h).cons_inv
    obtain ⟨od, h2, h3⟩ := perm_pick h1
    refine ⟨(s1.length : Int) :: od.map (shf s1.length), ?_, ?_⟩
    · have h4 := shf_perm (n := (s1 ++ s2).length) (k := s1.length) (by rw [List.length_append]; omega)
      have h5 : (s1 ++ x :: s2).length = (s1 ++ s2).length + 1 := by rw [List.length_append, List.length_append, List.length_cons]; omega
      rw [h5]
      exact ((h2.map _).cons _).trans h4
    · unfold pickL at h3 ⊢
      rw [List.filterMap_cons, Int.toNat_natCast, List.getElem?_append_right (Nat.le_refl _), Nat.sub_self]
      show x :: _ = _
      rw [List.filterMap_map, ← h3]
      congr 1
      refine fmap_congr fun i hi => ?_
      have hr := mem_ints.1 (h2.mem_iff.1 hi)
      show (s1 ++ x :: s2)[(shf s1.length i).toNat]? = (s1 ++ s2)[i.toNat]?
      unfold shf
      split
      · rw [List.getElem?_append_left (by omega), List.getElem?_append_left (by omega)]
      · rw [List.getElem?_append_right (by omega), List.getElem?_append_right (by omega), show (i + 1).toNat - s1.length = (i.toNat - s1.length) + 1 by omega, List.getElem?_cons_succ]
/-! the search for a match -/
theorem tof_zip0 : ∀ {vs ks : List Int} {i : Nat} {x k : Int}, vs.Nodup → vs[i]? = some x → ks[i]? = some k → tof (vs.zip ks) x = k
  | [], _, _, _, _, _, h, _ => by simp at h
  | v :: vs, [], _, _, _, _, _, h => by simp at h
  | v :: vs, k' :: ks, i, x, k, hn, h1, h2 => by
    show (if x = v then k' else tof (vs.zip ks) x) = _
    cases i with
    | zero =>
      simp at h1 h2
      rw [if_pos h1.symm, h2]
    | succ i =>
      simp at h1 h2
      have hx := List.mem_of_getElem? h1
      rw [if_neg (fun e => (List.nodup_cons.1 hn).1 (by rw [← e]; exact hx))]
      exact tof_zip0 (List.nodup_cons.1 hn).2 h1 h2
def mtF (a b : Ru) (pr : List Int) : Int → Int := tof ((vars a).zip (pickL (vars b) pr))
structure MtH (a b : Ru) (pr : List Int) : Prop where
  p : a.p = b.p
  a : a.a.map (chT (mtF a b pr)) = b.a
def MtB (a b : Ru) (pr od : List Int) : Prop := pickL (a.b.map (chL (mtF a b pr))) od = b.b
def Mat (a b : Ru) : Prop := ((vars a).length = (vars b).length ∧ a.b.length = b.b.length) ∧ ∃ pr, pr ∈ ordN (vars a).length ∧ MtH a b pr ∧ ∃ od, od ∈ ordN a.b.length ∧ MtB a b pr od
theorem mat_iff {a b : Ru} : Mat a b ↔ VarR a b := by
  constructor
  · rintro ⟨⟨hv, hb⟩, pr, h1, h2, od, h3, h4⟩
    have hp : (pickL (vars b) pr).Perm (vars b) := pick_perm (by rw [← hv]; exact (mem_ord _ _).1 h1)
    have hl : (pickL (vars b) pr).length = (vars a).length := by rw [hp.length_eq, hv]
    have hnd : (pickL (vars b) pr).Nodup := hp.nodup_iff.2 (vars_nodup b)
    refine ⟨mtF a b pr, fun x y hx hy e => ?_, h2.p.symm, h2.a.symm, ?_⟩
    · obtain ⟨i, hi, rfl⟩ := List.getElem_of_mem hx
      obtain ⟨j, hj, rfl⟩ := List.getElem_of_mem hy
      unfold mtF at e
      rw [tof_zip0 (vars_nodup a) (List.getElem?_eq_getElem hi) (List.getElem?_eq_getElem (by omega)), tof_zip0 (vars_nodup a) (List.getElem?_eq_getElem hj) (List.getElem?_eq_getElem (by omega))] at e
      have h7 := List.pairwise_iff_getElem.1 hnd
      rcases Nat.lt_trichotomy i j with h8 | h8 | h8
      · exact absurd e (h7 i j (by omega) (by omega) h8)
      · subst h8; rfl
      · exact absurd e.symm (h7 j i (by omega) (by omega) h8)
    · unfold MtB at h4
      rw [← h4]
      exact (pick_perm (by rw [List.length_map]; exact (mem_ord _ _).1 h3)).symm
  · rintro ⟨g, g1, g2, g3, g4⟩
    have hp : (vars b).Perm ((vars a).map g) := by
      refine (List.perm_ext_iff_of_nodup (vars_nodup b) ?_).2 fun y => ⟨fun hy => ?_, fun hy => ?_⟩
      · rw [List.Nodup, List.pairwise_map]
        exact (vars_nodup a).imp_of_mem fun {x y} hx hy hxy e => hxy (g1 x y hx hy e)
      · obtain ⟨x, h1, h2⟩ := VarR.img g3 g4 hy
        exact List.mem_map.2 ⟨x, h1, h2⟩
      · obtain ⟨x, h1, rfl⟩ := List.mem_map.1 hy
        exact VarR.mk' g3 g4 h1
    have hv : (vars a).length = (vars b).length := by have := hp.length_eq; rw [List.length_map] at this; omega
    have hb : a.b.length = b.b.length := by have := g4.length_eq; rw [List.length_map] at this; omega
    obtain ⟨pr, h1, h2⟩ := perm_pick hp
    have hf : ∀ x, x ∈ vars a → mtF a b pr x = g x := fun x hx => by
      obtain ⟨i, hi, rfl⟩ := List.getElem_of_mem hx
      unfold mtF
      rw [h2]
      exact tof_zip0 (vars_nodup a) (List.getElem?_eq_getElem hi) (by rw [List.getElem?_map, List.getElem?_eq_getElem hi]; rfl)
    have hB : a.b.map (chL (mtF a b pr)) = a.b.map (chL g) := List.map_congr_left fun l hl => chL_cg fun t ht hk => hf _ (var_b hl ht hk)
    obtain ⟨od, h3, h4⟩ := perm_pick g4
    refine ⟨⟨hv, hb⟩, pr, (mem_ord _ _).2 (by rw [hv]; exact h1), ⟨g2.symm, ?_⟩, od, (mem_ord _ _).2 (by rw [List.length_map] at h3; exact h3), ?_⟩
    · rw [g3]
      exact List.map_congr_left fun t ht => chT_cg fun hk => hf _ (var_a ht hk)
    · unfold MtB
      rw [hB]; exact h4
end ord

end Go.Proofs.Qxb6500915aGreatDoor

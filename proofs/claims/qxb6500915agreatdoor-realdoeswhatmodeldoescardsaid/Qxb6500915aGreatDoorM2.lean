import Derived.Test.Qxb6500915aGreatDoorM1
namespace Go.Proofs.Qxb6500915aGreatDoor
open Go.Eng
set_option linter.unusedVariables false
set_option linter.unusedSimpArgs false

/-! ## the search for a match, step by step -/
theorem ord_spec : ∀ n : Nat, n ≤ 5 → Sp Tryz.prog 69 #[.int .i64 (n : Int)] [] (fun v F' => ∃ (os : List OV) (p : Option Addr) (c : Nat) (E : List (Nat × Obj)), (os.map OV.l = ordN n ∧ ∀ o, o ∈ os → o.ok) ∧ v = .slice p os.length c ∧ Row (.slice p os.length c) os.length (fl OV.c1 os) 1 58 E ∧ F' = E ++ os.flatMap OV.E)
  | 0, _ => ord0_spec
  | n + 1, h => by
    have h1 := ordS_spec n (by omega) (ord_spec n (by omega))
    rw [show ((n + 1 : Nat) : Int) = (n : Int) + 1 by omega]; exact h1
section mt
theorem pick_at {α : Type} {l : List α} : ∀ {od : List Int} {k : Nat} {q : Int} {x : α}, (∀ i, i ∈ od → 0 ≤ i ∧ i < (l.length : Int)) → od[k]? = some q → l[q.toNat]? = some x → (pickL l od)[k]? = some x
  | [], k, q, x, _, h, _ => by simp at h
  | i :: od, k, q, x, hr, h, hx => by
    have hi := hr i (by simp)
    have e : l[i.toNat]? = some l[i.toNat] := List.getElem?_eq_getElem (by omega)
    have hp : pickL l (i :: od) = l[i.toNat] :: pickL l od := by unfold pickL; rw [List.filterMap_cons, e]
    rw [hp]
    cases k with
    | zero =>
      have : i = q := by simpa using h
      subst this
      rw [e] at hx; exact hx
    | succ k =>
      have h1 : od[k]? = some q := by simpa using h
      exact pick_at (fun j hj => hr j (List.mem_cons_of_mem _ hj)) h1 hx
theorem pick_len2 {α : Type} {l : List α} : ∀ {od : List Int}, (∀ i, i ∈ od → 0 ≤ i ∧ i < (l.length : Int)) → (pickL l od).length = od.length
  | [], _ => rfl
  | i :: od, hr => by
    have hi := hr i (by simp)
    have e : l[i.toNat]? = some l[i.toNat] := List.getElem?_eq_getElem (by omega)
    have hp : pickL l (i :: od) = l[i.toNat] :: pickL l od := by unfold pickL; rw [List.filterMap_cons, e]
    rw [hp, List.length_cons, List.length_cons, pick_len2 fun j hj => hr j (List.mem_cons_of_mem _ hj)]
def zpA (a b : Ru) (pr : List Int) : List (Int × Int) := (vars a).zip (pickL (vars b) pr)
theorem zp_snoc {a b : Ru} {pr : List Int} {j : Nat} {v x : Int} (h1 : (vars a)[j]? = some v) (h2 : (pickL (vars b) pr)[j]? = some x) : (zpA a b pr).take (j + 1) = (zpA a b pr).take j ++ [(v, x)] := by
  have : (zpA a b pr)[j]? = some (v, x) := by unfold zpA; rw [List.getElem?_zip_eq_some]; exact ⟨h1, h2⟩
  rw [List.take_add_one, this]; rfl
theorem zp_new {a b : Ru} {pr : List Int} {j : Nat} {v : Int} (h1 : (vars a)[j]? = some v) (hl : (vars a).length ≤ (pickL (vars b) pr).length) : v ∉ ((zpA a b pr).take j).map Prod.fst := by
  unfold zpA
  rw [List.map_take, List.map_fst_zip hl]
  exact nodup_take_not (vars_nodup a) h1
theorem zp_end {a b : Ru} {pr : List Int} {j : Nat} (h : j = (vars a).length) : (zpA a b pr).take j = zpA a b pr := by
  refine List.take_of_length_le ?_
  unfold zpA
  rw [List.length_zip]; omega
theorem vars_i64 {t : RV} (ht : t.ok) : ∀ x, x ∈ vars t.ru → I64 x := fun x hx => by
  rcases vars_occ hx with ⟨q, h1, _, h3⟩ | ⟨l, q, h0, h1, _, h3⟩
  · rw [← h3]; exact (ht.hd.ok q h1).v
  · obtain ⟨l0, h4, rfl⟩ := List.mem_map.1 (show l ∈ t.ls.map LV.l from h0)
    rw [← h3]; exact ((ht.ls l0 h4).ags.ok q h1).v
theorem zp_i64 {a : Ru} {t : RV} (ht : t.ok) (pr : List Int) (y : Int) : I64 (tof (zpA a t.ru pr) y) := by
  rcases tof_mem (e := zpA a t.ru pr) (x := y) with ⟨q, hq, h⟩ | h
  · rw [h]
    have h1 := (List.of_mem_zip hq).2
    obtain ⟨i, _, h2⟩ := List.mem_filterMap.1 h1
    exact vars_i64 ht _ (List.mem_of_getElem? h2)
  · rw [h]; exact ⟨by omega, by omega⟩
def NoM (a b : Ru) (pr : List Int) : Prop := ¬ (MtH a b pr ∧ ∃ od, od ∈ ordN a.b.length ∧ MtB a b pr od)
theorem take_next {α : Type} {P : α → Prop} {l : List α} {i : Nat} {x : α} (h : ∀ y, y ∈ l.take i → P y) (hx : l[i]? = some x) (hp : P x) : ∀ y, y ∈ l.take (i + 1) → P y := fun y hy => by
  rw [List.take_add_one, hx] at hy
  rcases List.mem_append.1 hy with h1 | h1
  · exact h y h1
  · have : y = x := by simpa using h1
    rw [this]; exact hp
theorem take_full {α : Type} {P : α → Prop} {l : List α} {i : Nat} (h : ∀ y, y ∈ l.take i → P y) (hi : l.length ≤ i) : ∀ y, y ∈ l → P y := fun y hy => h y (by rw [List.take_of_length_le hi]; exact hy)
theorem row44 (k n : Nat) : Row (.slice (some ⟨k, 0, none⟩) n n) n (fl iI (ints n)) 1 3 [(k, C (fl iI (ints n)) 3)] := .inr ⟨k, n, [], rfl, by rw [fl_len iI_len, ints_len], by rw [List.append_nil, fl_len iI_len, ints_len], Nat.le_refl _, by rw [List.append_nil]⟩
structure Rnm (r r' : RV) (f : Int → Int) : Prop where
  p : r'.p = r.p
  a : r'.a = r.a.map (chT f)
  b : r'.ls.map LV.l = (r.ls.map LV.l).map (chL f)
  n : r'.ls.length = r.ls.length
theorem rnm_of {r r' : RV} {f : Int → Int} (h : r'.ru = rewr r.ru (ints r.ls.length) f) : Rnm r r' f := by
  have hb : r'.ls.map LV.l = (r.ls.map LV.l).map (chL f) := by
    have h1 : r'.ls.map LV.l = (pickL (r.ls.map LV.l) (ints r.ls.length)).map (chL f) := congrArg Ru.b h
    have h2 := pick_ints (r.ls.map LV.l)
    rw [List.length_map] at h2
    rw [h1, h2]
  refine ⟨congrArg Ru.p h, congrArg Ru.a h, hb, ?_⟩
  have := congrArg List.length hb
  rw [List.length_map, List.length_map, List.length_map] at this; exact this
theorem mtb_no {a b : Ru} {pr od : List Int} {k : Nat} {q : Int} {x y : Lt} {L : List Lt} (hL : L = a.b.map (chL (mtF a b pr))) (hr : ∀ i, i ∈ od → 0 ≤ i ∧ i < (L.length : Int)) (hq : od[k]? = some q) (hx : L[q.toNat]? = some x) (hy : b.b[k]? = some y) (hxy : ¬ x = y) : ¬ MtB a b pr od := fun h => by
  have h1 := pick_at hr hq hx
  unfold MtB at h
  rw [← hL] at h
  rw [h, hy] at h1
  injection h1 with h1; exact hxy h1.symm
end mt


attribute [local irreducible] RV.E

end Go.Proofs.Qxb6500915aGreatDoor

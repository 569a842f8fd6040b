import Derived.Test.Qxb6500915aGreatDoorT0
import Derived.Test.Qxb6500915aGreatDoorK9
namespace Go.Proofs.Qxb6500915aGreatDoor
open Go.Eng
set_option linter.unusedVariables false
set_option linter.unusedSimpArgs false

/-! ## the model's canonical form -/
section canm
theorem nvS_ren {V : List Int} {f : Int → Int} (hf : ∀ x y, x ∈ V → y ∈ V → f x = f y → x = y) {vs : List Int} (hv : ∀ x, x ∈ vs → x ∈ V) {t : Tm} (ht : t.k = 0 → t.v ∈ V) : nvS (vs.map f) (chT f t) = (nvS vs t).map f := by
  unfold nvS
  by_cases hk : t.k = 0
  · rw [chT_v hk]
    simp only
    have hiff : f t.v ∈ vs.map f ↔ t.v ∈ vs := by
      constructor
      · intro h
        obtain ⟨x, h1, h2⟩ := List.mem_map.1 h
        rw [← hf x t.v (hv x h1) (ht hk) h2]; exact h1
      · intro h; exact List.mem_map.2 ⟨t.v, h, rfl⟩
    by_cases hm : t.v ∈ vs
    · rw [if_neg (fun h9 => h9.2 (hiff.2 hm)), if_neg (fun h9 => h9.2 hm)]
    · rw [if_pos ⟨hk, fun h9 => hm (hiff.1 h9)⟩, if_pos ⟨hk, hm⟩, List.map_append]; rfl
  · rw [chT_n hk, if_neg (fun h9 => hk h9.1), if_neg (fun h9 => hk h9.1)]
theorem nvS_sub {V vs : List Int} (hv : ∀ x, x ∈ vs → x ∈ V) {t : Tm} (ht : t.k = 0 → t.v ∈ V) : ∀ x, x ∈ nvS vs t → x ∈ V := by
  intro x hx
  unfold nvS at hx
  split at hx
  · rename_i h
    rcases List.mem_append.1 hx with h1 | h1
    · exact hv x h1
    · rw [List.mem_singleton.1 h1]; exact ht h.1
  · exact hv x hx
theorem nvs_ren {V : List Int} {f : Int → Int} (hf : ∀ x y, x ∈ V → y ∈ V → f x = f y → x = y) : ∀ (ts : List Tm) (vs : List Int), (∀ x, x ∈ vs → x ∈ V) → (∀ t, t ∈ ts → t.k = 0 → t.v ∈ V) → nvs (vs.map f) (ts.map (chT f)) = (nvs vs ts).map f ∧ ∀ x, x ∈ nvs vs ts → x ∈ V
  | [], vs, hv, _ => ⟨rfl, hv⟩
  | t :: ts, vs, hv, ht => by
    have h1 := nvS_ren hf hv (ht t (by simp))
    have h2 := nvS_sub hv (ht t (by simp))
    have ih := nvs_ren hf ts (nvS vs t) h2 (fun q hq => ht q (List.mem_cons_of_mem _ hq))
    refine ⟨?_, ih.2⟩
    show nvs (nvS (vs.map f) (chT f t)) (ts.map (chT f)) = (nvs (nvS vs t) ts).map f
    rw [h1]; exact ih.1
theorem lvs_ren {V : List Int} {f : Int → Int} (hf : ∀ x y, x ∈ V → y ∈ V → f x = f y → x = y) : ∀ (ls : List Lt) (vs : List Int), (∀ x, x ∈ vs → x ∈ V) → (∀ l t, l ∈ ls → t ∈ l.a → t.k = 0 → t.v ∈ V) → (ls.map (chL f)).foldl (fun vs l => nvs vs l.a) (vs.map f) = (ls.foldl (fun vs l => nvs vs l.a) vs).map f
  | [], vs, _, _ => rfl
  | l :: ls, vs, hv, hl => by
    have h1 := nvs_ren hf l.a vs hv (fun t ht => hl l t (by simp) ht)
    have ih := lvs_ren hf ls (nvs vs l.a) h1.2 (fun q t hq => hl q t (List.mem_cons_of_mem _ hq))
    show (ls.map (chL f)).foldl (fun vs l => nvs vs l.a) (nvs (vs.map f) (l.a.map (chT f))) = _
    rw [h1.1]; exact ih
theorem vars_ren {r : Ru} {f : Int → Int} (hf : ∀ x y, x ∈ vars r → y ∈ vars r → f x = f y → x = y) : vars ⟨r.p, r.a.map (chT f), r.b.map (chL f)⟩ = (vars r).map f := by
  have h1 := nvs_ren hf r.a [] (fun x hx => by cases hx) (fun t ht hk => var_a ht hk)
  show (r.b.map (chL f)).foldl (fun vs l => nvs vs l.a) (nvs ([].map f) (r.a.map (chT f))) = _
  rw [h1.1]
  exact lvs_ren hf r.b _ h1.2 (fun l t hl ht hk => var_b hl ht hk)
/-- what reading the body in some order gives -/
theorem rd_form {r : Ru} (h64 : r.b.length ≤ 64) {S : List Nat} (hS : S.Perm (List.range (canI r).B.length)) : ∃ f : Int → Int, (∀ x y, x ∈ vars r → y ∈ vars r → f x = f y → x = y) ∧ (canI r).h.2 = r.a.map (chT f) ∧ (rdB (canI r).h.1 (S.map (Bj (canI r).B))).2 = (S.map (Bj r.b)).map (chL f) ∧ ∃ m, vars ⟨r.p, (canI r).h.2, (rdB (canI r).h.1 (S.map (Bj (canI r).B))).2⟩ = ints m := by
  obtain ⟨a0, a1, a2, a3, a4⟩ := canI_v r
  have hI := canI_BI r h64
  have hh : (canI r).h = rdTs (List.replicate (vars r).length (-1), 0) (r.a.map (chT (dl (vars r)))) := by
    show rdTs (List.replicate (rnLs (rnTs [] r.a).1 r.b).1.length (-1), 0) (rnTs [] r.a).2 = _
    rw [a0, a1]
  have hda : ∀ t, t ∈ r.a.map (chT (dl (vars r))) → Dn (vars r).length t := by
    intro t ht
    obtain ⟨t0, h1, rfl⟩ := List.mem_map.1 ht
    exact dl_dn (a3 t0 h1)
  have hs1 : StI (vars r).length (canI r).h.1 := by rw [hh]; exact (st0 _).rd hda
  have hBl : (canI r).B.length = r.b.length := by rw [a2, List.length_map]
  have hSl : ∀ j, j ∈ S → j < r.b.length := fun j hj => by have := List.mem_range.1 (hS.mem_iff.1 hj); omega
  have hSB : (S.map (Bj (canI r).B)).Perm (canI r).B := by
    refine (hS.map _).trans ?_
    have : (List.range (canI r).B.length).map (Bj (canI r).B) = (canI r).B := by
      apply List.ext_getElem?
      intro i
      rw [List.getElem?_map]
      by_cases hi : i < (canI r).B.length
      · rw [List.getElem?_range hi, Bj_get hi]; rfl
      · rw [List.getElem?_eq_none (by simp; omega), List.getElem?_eq_none (by omega)]; rfl
    rw [this]
  have hdS : DnL (vars r).length (S.map (Bj (canI r).B)) := fun l t hl ht => hI.d l t (hSB.mem_iff.1 hl) ht
  obtain ⟨hv, hnum⟩ := rdB_val hs1 hdS
  have hvh : (canI r).h.2 = (r.a.map (chT (dl (vars r)))).map (lbT (fnI (rdB (canI r).h.1 (S.map (Bj (canI r).B))).1.1)) := by
    have g := rd_val (st0 (vars r).length) hda
    rw [← hh] at g
    rw [g.1]
    exact lbT_congr fun v hv => (rdB_keep hs1 hdS (g.2 v hv)).symm
  have hst := rdB_st hs1 hdS
  have hm : ∃ m, vars ⟨r.p, (canI r).h.2, (rdB (canI r).h.1 (S.map (Bj (canI r).B))).2⟩ = ints m := by
    refine ⟨(rdB (canI r).h.1 (S.map (Bj (canI r).B))).1.2.toNat, ?_⟩
    have g1 := nvs_rd (st0 (vars r).length) hda
    rw [← hh] at g1
    have g2 := nvs_rdB hs1 hdS
    show (rdB (canI r).h.1 (S.map (Bj (canI r).B))).2.foldl (fun vs l => nvs vs l.a) (nvs [] (canI r).h.2) = _
    have g3 : nvs [] (canI r).h.2 = ints (canI r).h.1.2.toNat := g1
    rw [g3]; exact g2
  have hBj : ∀ j, j ∈ S → Bj (canI r).B j = chL (dl (vars r)) (Bj r.b j) := fun j hj => by
    have h1 := Bj_get (B := r.b) (hSl j hj)
    have h2 := Bj_get (B := (canI r).B) (j := j) (by rw [hBl]; exact hSl j hj)
    rw [a2, List.getElem?_map, h1] at h2
    injection h2 with h2
    rw [h2]
    rw [a2]
  generalize hN : fnI (rdB (canI r).h.1 (S.map (Bj (canI r).B))).1.1 = N at hv hnum hvh
  refine ⟨fun v => N (dl (vars r) v).toNat, ?_, ?_, ?_, hm⟩
  · intro x y hx hy e
    obtain ⟨d, d1, d2⟩ := dpos_mem hx
    obtain ⟨d', d3, d4⟩ := dpos_mem hy
    have ex : (dl (vars r) x).toNat = d := by unfold dl; rw [d1]; simp
    have ey : (dl (vars r) y).toNat = d' := by unfold dl; rw [d3]; simp
    simp only [ex, ey] at e
    have hnd : ¬ N d = -1 := by
      rcases vars_occ hx with ⟨t, t1, t2, t3⟩ | ⟨l, t, l1, t1, t2, t3⟩
      · have g := rd_val (st0 (vars r).length) hda
        rw [← hh] at g
        have hm : d ∈ vN (r.a.map (chT (dl (vars r)))) := mem_vN.2 ⟨chT (dl (vars r)) t, List.mem_map.2 ⟨t, t1, rfl⟩, by rw [chT_k]; exact t2, by rw [chT_v t2]; simp only; rw [t3]; exact ex⟩
        rw [← hN, rdB_keep hs1 hdS (g.2 d hm)]
        exact g.2 d hm
      · refine hnum (chL (dl (vars r)) l) d (hSB.mem_iff.2 (by rw [a2]; exact List.mem_map.2 ⟨l, l1, rfl⟩)) (mem_vN.2 ⟨chT (dl (vars r)) t, List.mem_map.2 ⟨t, t1, rfl⟩, by rw [chT_k]; exact t2, by rw [chT_v t2]; simp only; rw [t3]; exact ex⟩)
    have hdd : d = d' := by
      rw [← hN] at e hnd
      exact hst.inj d d' e hnd
    rw [hdd, d4] at d2
    injection d2 with d2; exact d2.symm
  · rw [hvh, lab_chT]
  · rw [hv, List.map_map, List.map_map]
    refine List.map_congr_left fun j hj => ?_
    show lab N (Bj (canI r).B j) = chL _ (Bj r.b j)
    rw [hBj j hj]; exact lab_chL _
/-- the rule with its body in the order od -/
def ordR (r : Ru) (od : List Int) : Ru := ⟨r.p, r.a, pickL r.b od⟩
def numF (r : Ru) (od : List Int) : Int → Int := tof ((vars (ordR r od)).zip (ints (vars (ordR r od)).length))
def numR (r : Ru) (od : List Int) : Ru := rewr r od (numF r od)
theorem pick_map (B : List Lt) : ∀ (S : List Nat), (∀ j, j ∈ S → j < B.length) → pickL B (S.map fun (j : Nat) => (j : Int)) = S.map (Bj B)
  | [], _ => rfl
  | j :: S, h => by
    have h1 := Bj_get (B := B) (h j (by simp))
    have ih := pick_map B S fun i hi => h i (List.mem_cons_of_mem _ hi)
    unfold pickL at ih ⊢
    rw [List.map_cons, List.filterMap_cons, Int.toNat_natCast, h1, ih]; rfl
theorem ints_at {m i : Nat} (h : i < m) : (ints m)[i]? = some (i : Int) := by unfold ints; rw [List.getElem?_map, List.getElem?_range h]; rfl
theorem num_rd {r : Ru} (h64 : r.b.length ≤ 64) {S : List Nat} (hS : S.Perm (List.range (canI r).B.length)) : numR r (S.map fun (j : Nat) => (j : Int)) = ⟨r.p, (canI r).h.2, (rdB (canI r).h.1 (S.map (Bj (canI r).B))).2⟩ := by
  obtain ⟨f, f1, f2, f3, m, f4⟩ := rd_form h64 hS
  have hBl : (canI r).B.length = r.b.length := by rw [(canI_v r).2.2.1, List.length_map]
  have hSl : ∀ j, j ∈ S → j < r.b.length := fun j hj => by have := List.mem_range.1 (hS.mem_iff.1 hj); omega
  have hpk := pick_map r.b S hSl
  have hperm : (pickL r.b (S.map fun (j : Nat) => (j : Int))).Perm r.b := by
    refine pick_perm ?_
    rw [← hBl]
    unfold ints
    exact hS.map _
  have hvo : ∀ x, x ∈ vars (ordR r (S.map fun (j : Nat) => (j : Int))) ↔ x ∈ vars r := fun x => by
    have hVr : VarR r (ordR r (S.map fun (j : Nat) => (j : Int))) := by
      refine ⟨id, fun _ _ _ _ h => h, rfl, ?_, ?_⟩
      · show r.a = r.a.map (chT id)
        conv => lhs; rw [← List.map_id r.a]
        exact List.map_congr_left fun t _ => (chT_id t).symm
      · have : r.b.map (chL id) = r.b := by
          conv => rhs; rw [← List.map_id r.b]
          exact List.map_congr_left fun l _ => chL_id l
        rw [this]; exact hperm.symm
    obtain ⟨g, g1, g2, g3, g4⟩ := hVr
    constructor
    · intro hx
      rcases vars_occ hx with ⟨t, h1, h2, h3⟩ | ⟨l, t, h0, h1, h2, h3⟩
      · rw [← h3]; exact var_a h1 h2
      · rw [← h3]; exact var_b (hperm.mem_iff.1 h0) h1 h2
    · intro hx
      rcases vars_occ hx with ⟨t, h1, h2, h3⟩ | ⟨l, t, h0, h1, h2, h3⟩
      · rw [← h3]; exact var_a (r := ordR r (S.map fun (j : Nat) => (j : Int))) h1 h2
      · rw [← h3]; exact var_b (r := ordR r (S.map fun (j : Nat) => (j : Int))) (hperm.mem_iff.2 h0) h1 h2
  have hren := vars_ren (r := ordR r (S.map fun (j : Nat) => (j : Int))) (f := f) (fun x y hx hy => f1 x y ((hvo x).1 hx) ((hvo y).1 hy))
  have hren2 : (vars (ordR r (S.map fun (j : Nat) => (j : Int)))).map f = ints m := by
    rw [← hren, ← f4, f2, f3]
    show vars ⟨r.p, r.a.map (chT f), (pickL r.b (S.map fun (j : Nat) => (j : Int))).map (chL f)⟩ = _
    rw [hpk]
  have hml : (vars (ordR r (S.map fun (j : Nat) => (j : Int)))).length = m := by have := congrArg List.length hren2; rw [List.length_map, ints_len] at this; exact this
  have hfn : ∀ x, x ∈ vars r → numF r (S.map fun (j : Nat) => (j : Int)) x = f x := fun x hx => by
    obtain ⟨i, hi, e⟩ := List.getElem_of_mem ((hvo x).2 hx)
    have h1 := map_at f (List.getElem?_eq_getElem hi)
    rw [hren2, e, ints_at (by omega)] at h1
    injection h1 with h1
    unfold numF
    rw [← h1]
    exact tof_zip0 (vars_nodup _) (by rw [List.getElem?_eq_getElem hi, e]) (ints_at hi)
  rw [f2, f3]
  show (⟨r.p, r.a.map (chT (numF r _)), (pickL r.b _).map (chL (numF r _))⟩ : Ru) = _
  rw [hpk]
  have e1 : r.a.map (chT (numF r (S.map fun (j : Nat) => (j : Int)))) = r.a.map (chT f) := List.map_congr_left fun t ht => chT_cg fun hk => hfn _ (var_a ht hk)
  have e2 : (S.map (Bj r.b)).map (chL (numF r (S.map fun (j : Nat) => (j : Int)))) = (S.map (Bj r.b)).map (chL f) := by
    refine List.map_congr_left fun l hl => chL_cg fun t ht hk => hfn _ ?_
    obtain ⟨j, hj, rfl⟩ := List.mem_map.1 hl
    exact var_b (List.mem_of_getElem? (Bj_get (hSl j hj))) ht hk
  rw [e1, e2]
theorem od_nat {n : Nat} {od : List Int} (h : od.Perm (ints n)) : ∃ S : List Nat, S.Perm (List.range n) ∧ od = S.map fun (j : Nat) => (j : Int) := by
  refine ⟨od.map Int.toNat, ?_, ?_⟩
  · have h1 := h.map Int.toNat
    unfold ints at h1
    rw [List.map_map] at h1
    have e : (List.range n).map (Int.toNat ∘ fun j : Nat => (j : Int)) = List.range n := by
      conv => rhs; rw [← List.map_id (List.range n)]
      exact List.map_congr_left fun j _ => Int.toNat_natCast j
    rw [e] at h1; exact h1
  · rw [List.map_map]
    conv => lhs; rw [← List.map_id od]
    refine List.map_congr_left fun i hi => ?_
    have := mem_ints.1 (h.mem_iff.1 hi)
    show i = ((i.toNat : Nat) : Int)
    omega
/-- the least numbered rule is the canonical form -/
theorem canM_eq {r q x : Ru} (h64 : r.b.length ≤ 64) (h : canR r = some q) {od : List Int} (ho : od.Perm (ints r.b.length)) (hx : x = numR r od) (hl : ∀ od', od'.Perm (ints r.b.length) → cmpR x (numR r od') ≤ 0) : x = q := by
  have hBl : (canI r).B.length = r.b.length := by rw [(canI_v r).2.2.1, List.length_map]
  obtain ⟨S, hS, rfl⟩ := od_nat ho
  rw [← hBl] at hS
  have h1 := num_rd h64 hS
  have h2 := can_least h64 h S hS
  have hq : ∃ S0 : List Nat, S0.Perm (List.range (canI r).B.length) ∧ q = ⟨r.p, (canI r).h.2, (rdB (canI r).h.1 (S0.map (Bj (canI r).B))).2⟩ := by
    have hI := canI_BI r h64
    unfold canR at h
    cases hc : canP (canI r).B (canI r).oc (canI r).B.length [(0, (canI r).h.1)] [] with
    | none => rw [hc] at h; cases h
    | some res =>
      rw [hc] at h
      injection h with h
      subst h
      obtain ⟨⟨S0, hS0, hres⟩, _⟩ := canP_end hI (h1 := (canI r).h.1) _ _ _ _ hc (by simp) (fun c hc => by rw [List.mem_singleton.1 hc]; exact ⟨[], hst0 _ _⟩) (knd0 _ _) (by simp)
      exact ⟨S0, hS0, by rw [hres]⟩
  obtain ⟨S0, hS0, hq0⟩ := hq
  have h3 := hl (S0.map fun (j : Nat) => (j : Int)) (by rw [← hBl]; unfold ints; exact hS0.map _)
  rw [num_rd h64 hS0, ← hq0] at h3
  have h4 : cmpR q x ≤ 0 := by
    rw [hx, h1]
    show thn (cmpA q.p q.a r.p (canI r).h.2) (cmpB q.b _) ≤ 0
    have hz : cmpA q.p q.a r.p (canI r).h.2 = 0 := by
      rw [hq0]
      show cmpA r.p (canI r).h.2 r.p (canI r).h.2 = 0
      have := poA.sw (r.p, (canI r).h.2) (r.p, (canI r).h.2)
      simp only at this; omega
    rw [thn_0 hz]; exact h2
  have h5 := poR.sw x q
  exact cmpR_eq (by omega)
end canm

end Go.Proofs.Qxb6500915aGreatDoor
